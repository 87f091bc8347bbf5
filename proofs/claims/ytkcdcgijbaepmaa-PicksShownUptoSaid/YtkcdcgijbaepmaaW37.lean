/-
  The walk of PicksShown.
-/
import Derived.Test.YtkcdcgijbaepmaaW25
import Derived.Test.YtkcdcgijbaepmaaW34
import Derived.Test.YtkcdcgijbaepmaaW35
import Derived.Test.YtkcdcgijbaepmaaW36
set_option linter.unusedVariables false
set_option linter.unusedSimpArgs false
namespace Go.Proofs.Ytkcdcgijbaepmaa
open Go.RowKit

theorem OwnP.zero {B : Nat} {w : World} {a : Option Addr} {n c : Nat} {rs : List PD} (h : OwnP B w a n c rs) : a = none → c = 0 := fun e => by
  rcases h.form with ⟨_, _, h⟩ | ⟨g, h, _⟩
  · exact h
  · rw [e] at h; cases h
theorem PiecesAt.fore {w : World} {a : Option Addr} {ps qs : List PD} (h : PiecesAt w a (ps ++ qs)) : PiecesAt w a ps := fun i hi => by
  have := h i (by rw [List.length_append]; omega)
  rwa [List.getElem_append_left hi] at this
theorem Ints.fore {k : IntKind} {w : World} {a : Option Addr} {ps qs : List Int} (h : Ints k w a (ps ++ qs)) : Ints k w a ps := fun i hi => by
  have := h i (by rw [List.length_append]; omega)
  rwa [List.getElem_append_left hi] at this
theorem colL_length (os ws : List Int) (ps : List PD) : (colL os ws ps).length ≤ os.length := by
  unfold colL
  split
  · simp
  · split
    · simp
    · split
      · simp
      · split
        · simp
        · rw [List.length_map]; exact visL_length os ps
theorem logRL_length (os : List Int) (ps : List PD) : (logRL os ps).length ≤ os.length := by
  unfold logRL
  split
  · simp
  · split
    · simp
    · exact logL_length os ps
def ShR (w : World) (n : Nat) (i : Value) (wr : World) : Prop := ∃ k : Nat, k ≤ n ∧ i = .int .i64 k ∧ Below w.heap.size w wr

set_option maxRecDepth 100000 in
set_option maxHeartbeats 16000000 in
theorem picksShown_walk (aO : Option Addr) (nO cO : Nat) (os : List Int) (aW : Option Addr) (nW cW : Nat) (ws : List Int) (a : Option Addr) (n c : Nat) (ps : List PD) (w : World) (hnO : os.length = nO) (hcO : Ints .i64 w aO os) (hzO : aO = none → cO = 0)
    (hnW : ws.length = nW) (hltW : nW ≤ 1048576) (hcW : Ints .i64 w aW ws) (hzW : aW = none → cW = 0) (hn : ps.length = n) (hc : PiecesAt w a ps) (hnone : a = none → c = 0) :
    Calls Try.prog 4 #[.slice aO nO cO, .slice aW nW cW, .slice a n c] w fun e w' => e = .returned (.bool true) ∧ Below w.heap.size w w' := by
  have HNO := Lib.hid hnO; clear hnO
  have HNW := Lib.hid hnW; clear hnW
  have HN := Lib.hid hn; clear hn
  have HCO := Lib.hid hcO; clear hcO
  have HCW := Lib.hid hcW; clear hcW
  have HC := Lib.hid hc; clear hc
  have HZO := Lib.hid hzO; clear hzO
  have HZW := Lib.hid hzW; clear hzW
  have HZ := Lib.hid hnone; clear hnone
  by_cases h6 : 600 < nO ∨ 600 < n
  · have hd : (600 : Int) < (nO : Int) ∨ (¬ (600 : Int) < (nO : Int) ∧ (600 : Int) < (n : Int)) := by omega
    clear h6
    rcases hd with h6i | ⟨h6i, h6j⟩
    all_goals
      go_enter Try.func4, Try.ntmps4
      go_wp2_with fail
      refine (awake_walk _).mono ?_
      rintro e w1 ⟨rfl, hb⟩
      have HB := Lib.hid hb; clear hb
      go_wp2
      go_ret
      exact ⟨rfl, HB.out⟩
  · have h6i : ¬ (600 : Int) < (nO : Int) := by omega
    have h6j : ¬ (600 : Int) < (n : Int) := by omega
    have hn6 : nO ≤ 600 := by omega
    have hn7 : n ≤ 600 := by omega
    clear h6
    go_enter Try.func4, Try.ntmps4
    go_wp2_with fail
    refine (lent_walk a n c ps w HN.out (by omega) HC.out HZ.out).mono ?_
    rintro e w1 ⟨g, c1, rfl, ho, hb⟩
    have HI1 := Lib.hid ho.pieces
    have hcap : n + 2 ≤ c1 := by obtain ⟨g', e, h1, h2, h3, h4⟩ := ho.at (by omega); exact h3
    have HB1 := Lib.hid hb
    have HCO1 := Lib.hid (HCO.out.below hb (Nat.le_refl _))
    have HCW1 := Lib.hid (HCW.out.below hb (Nat.le_refl _))
    clear ho hb
    go_wp2_with (at_builtin; refine wpList_appS Try.elemInt rfl (.const (.slice none 0 0)) (.tmp 40) rfl (Own.nil w1.heap.size _ w1) (Nat.le_refl _) (by rw [ivs_length]; exact HNO.out) HCO1.out.vals HZO.out (ivs_one _ _) (by omega) (by unfold maxLen; omega) rfl rfl ?_)
    intro a2 c2 w2 ho2 hg2 _
    have hb2 : Below w1.heap.size w1 w2 := (Own.nil w1.heap.size 3 w1).app hg2 (Nat.le_refl _)
    have HO2 : Hid (Own w1.heap.size 3 w2 a2 nO c2 (ivs .i64 os)) := Lib.hid (by simpa using ho2)
    have HB2 := Lib.hid hb2
    clear ho2 hg2 hb2
    go_wp2_with (at_builtin; refine wpList_app1x Try.elemInt rfl (.tmp 41) (.tmp 42) rfl HO2.out HB2.out.size (by omega) (by omega) (.int .i64 (-7)) rfl _ rfl rfl ?_)
    intro a3 c3 w3 ho3 hg3 _
    have HB3 := Lib.hid (HB2.out.trans (HO2.out.app hg3 HB2.out.size))
    have HO3 : Hid (Own w1.heap.size 3 w3 a3 (nO + 1) c3 (ivs .i64 (os ++ [-7]))) := Lib.hid (by rw [ivs_append]; exact ho3)
    clear ho3 hg3 HO2 HB2
    have hcap3 : nO + 1 ≤ c3 := HO3.out.cap.1
    obtain ⟨g3, rfl, -, hg3l, -, -⟩ := HO3.out.at (by omega)
    have HI3 := Lib.hid HO3.out.ints
    have HCW3 := Lib.hid (HCW1.out.below HB3.out (Nat.le_refl _))
    have HB3t := Lib.hid (below_sq HB1.out HB3.out)
    go_wp2_with (at_builtin; refine wpList_appS Try.elemInt rfl (.const (.slice none 0 0)) (.tmp 44) rfl (Own.nil w3.heap.size _ w3) (Nat.le_refl _) (by rw [ivs_length]; exact HNW.out) HCW3.out.vals HZW.out (ivs_one _ _) (by omega) (by unfold maxLen; omega) rfl rfl ?_)
    intro a4 c4 w4 ho2 hg2 _
    have hb2 : Below w3.heap.size w3 w4 := (Own.nil w3.heap.size 3 w3).app hg2 (Nat.le_refl _)
    have HO4 : Hid (Own w3.heap.size 3 w4 a4 nW c4 (ivs .i64 ws)) := Lib.hid (by simpa using ho2)
    have HB4 := Lib.hid hb2
    clear ho2 hg2 hb2
    go_wp2_with (at_builtin; refine wpList_app1x Try.elemInt rfl (.tmp 45) (.tmp 46) rfl HO4.out HB4.out.size (by omega) (by omega) (.int .i64 (-8)) rfl _ rfl rfl ?_)
    intro a5 c5 w5 ho3 hg3 _
    have HB5 := Lib.hid (HB4.out.trans (HO4.out.app hg3 HB4.out.size))
    have HO5 : Hid (Own w3.heap.size 3 w5 a5 (nW + 1) c5 (ivs .i64 (ws ++ [-8]))) := Lib.hid (by rw [ivs_append]; exact ho3)
    clear ho3 hg3 HO4 HB4
    have hcap5 : nW + 1 ≤ c5 := HO5.out.cap.1
    obtain ⟨g5, rfl, -, hg5l, -, -⟩ := HO5.out.at (by omega)
    have HW5 := Lib.hid HO5.out.ints
    have HB5t := Lib.hid (below_sq HB3t.out HB5.out)
    have HI5 := Lib.hid ((HI1.out.below HB3.out (Nat.le_refl _)).below HB5.out (Nat.le_refl _))
    have HO5o := Lib.hid (HI3.out.below HB5.out (Nat.le_refl _))
    clear HI1 HI3 HCO1 HCW1 HCW3 HB1 HB3 HB5 HO3 HO5 HB3t
    have hc3 : nO ≤ c3 := by omega
    have hc5 : nW ≤ c5 := by omega
    have hnO0 : (0 : Int) ≤ (nO : Int) := by omega
    have hnW0 : (0 : Int) ≤ (nW : Int) := by omega
    have hnOc : (nO : Int) ≤ (c3 : Int) := by omega
    have hnWc : (nW : Int) ≤ (c5 : Int) := by omega
    -- a: picks.Visual
    go_wp2_with fail
    refine (Visual_walk (some ⟨g3, 0, none⟩) nO c3 os (some ⟨g, 0, none⟩) n c1 ps w5 HNO.out (by omega) HO5o.out.fore HN.out (by omega) HI5.out.fore (fun h => by cases h)).mono ?_
    rintro e w6 ⟨aa, na, ca, rfl, ho, hb⟩
    have HSa := Lib.hid (Slot.mk' ho)
    have hla := ho.len
    have hs6 := hb.size
    have HB6 := Lib.hid (below_sq HB5t.out hb)
    have HI6 := Lib.hid (HI5.out.below hb (Nat.le_refl _))
    have HO6 := Lib.hid (HO5o.out.below hb (Nat.le_refl _))
    have HW6 := Lib.hid (HW5.out.below hb (Nat.le_refl _))
    clear ho hb
    -- b: picks.Logical
    go_wp2_with fail
    refine (Logical_walk (some ⟨g3, 0, none⟩) nO c3 os (some ⟨g, 0, none⟩) n c1 ps w6 HNO.out (by omega) HO6.out.fore HN.out (by omega) HI6.out.fore (fun h => by cases h)).mono ?_
    rintro e w7 ⟨ab, nb, cb, rfl, ho, hb⟩
    have HSb := Lib.hid (Slot.mk' ho)
    have hlb := ho.len
    have hs7 := hb.size
    have HB7 := Lib.hid (below_sq HB6.out hb)
    have HI7 := Lib.hid (HI6.out.below hb (Nat.le_refl _))
    have HO7 := Lib.hid (HO6.out.below hb (Nat.le_refl _))
    have HW7 := Lib.hid (HW6.out.below hb (Nat.le_refl _))
    have HSa7 := Lib.hid (HSa.out.below hb (Nat.le_refl _))
    clear ho hb HSa HI6 HO6 HW6 HI5 HO5o HW5
    -- c: picks.Columns, in a region that draws its order
    have hbd := below_drewN (Below.refl w7.heap.size w7) 1
    have HB7d : Hid (Below w.heap.size w w7.drew) := Lib.hid (below_drewN HB7.out 1)
    have HI7d : Hid (PiecesAt w7.drew (some ⟨g, 0, none⟩) (ps ++ marks)) := Lib.hid (HI7.out.below hbd (Nat.le_refl _))
    have HO7d : Hid (Ints .i64 w7.drew (some ⟨g3, 0, none⟩) (os ++ [-7])) := Lib.hid (HO7.out.below hbd (Nat.le_refl _))
    have HW7d : Hid (Ints .i64 w7.drew (some ⟨g5, 0, none⟩) (ws ++ [-8])) := Lib.hid (HW7.out.below hbd (Nat.le_refl _))
    have HSa7d : Hid (Slot w5.heap.size w6.heap.size w7.drew aa na ca (visL os ps)) := Lib.hid (HSa7.out.below hbd (Nat.le_refl _))
    have HSb7d : Hid (Slot w6.heap.size w7.heap.size w7.drew ab nb cb (logRL os ps)) := Lib.hid (HSb.out.below hbd (Nat.le_refl _))
    have hsd : w7.heap.size = w7.drew.heap.size := rfl
    rw [hsd] at HSb7d hs7
    clear hbd hsd HI7 HO7 HW7 HSa7 HSb HB7
    go_wp2
    go_region_law (go_simp; go_at_call 17; refine (Columns_walk (some ⟨g3, 0, none⟩) nO c3 os (some ⟨g5, 0, none⟩) nW c5 ws (some ⟨g, 0, none⟩) n c1 ps w7.drew HNO.out (by omega) HO7d.out.fore HNW.out hltW HW7d.out.fore HN.out (by omega) HI7d.out.fore (fun h => by cases h)).mono ?_; rintro e w8 ⟨ac, nc, cc, rfl, ho, hb⟩)
    generalize w7.drew = v7 at *
    have HSc := Lib.hid (Slot.mk' ho)
    have hlc := ho.len
    have hs8 := hb.size
    have HB8 := Lib.hid (below_sq HB7d.out hb)
    have HI8 := Lib.hid (HI7d.out.below hb (Nat.le_refl _))
    have HO8 := Lib.hid (HO7d.out.below hb (Nat.le_refl _))
    have HW8 := Lib.hid (HW7d.out.below hb (Nat.le_refl _))
    have HSa8 := Lib.hid (HSa7d.out.below hb (Nat.le_refl _))
    have HSb8 := Lib.hid (HSb7d.out.below hb (Nat.le_refl _))
    clear ho hb HSa7d HSb7d HI7d HO7d HW7d HB7d
    -- x, y, z: the document's
    go_wp2_with fail
    refine (rShown_walk aO nO cO os a n c ps w8 HNO.out (by omega) (HCO.out.below HB8.out (Nat.le_refl _)) HN.out (by omega) (HC.out.below HB8.out (Nat.le_refl _))).mono ?_
    rintro e w9 ⟨ax, nx, cx, rfl, ho, hb⟩
    have HSx := Lib.hid (Slot.mk' ho)
    have hlx := ho.len
    have hs9 := hb.size
    have HB9 := Lib.hid (below_sq HB8.out hb)
    have HI9 := Lib.hid (HI8.out.below hb (Nat.le_refl _))
    have HO9 := Lib.hid (HO8.out.below hb (Nat.le_refl _))
    have HW9 := Lib.hid (HW8.out.below hb (Nat.le_refl _))
    have HSa9 := Lib.hid (HSa8.out.below hb (Nat.le_refl _))
    have HSb9 := Lib.hid (HSb8.out.below hb (Nat.le_refl _))
    have HSc9 := Lib.hid (HSc.out.below hb (Nat.le_refl _))
    clear ho hb HSa8 HSb8 HSc HI8 HO8 HW8
    go_wp2_with fail
    refine (rLogical_walk aO nO cO os a n c ps w9 HNO.out (by omega) (HCO.out.below HB9.out (Nat.le_refl _)) HN.out (by omega) (HC.out.below HB9.out (Nat.le_refl _))).mono ?_
    rintro e w10 ⟨ay, ny, cy, rfl, ho, hb⟩
    have HSy := Lib.hid (Slot.mk' ho)
    have hly := ho.len
    have hs10 := hb.size
    have HB10 := Lib.hid (below_sq HB9.out hb)
    have HI10 := Lib.hid (HI9.out.below hb (Nat.le_refl _))
    have HO10 := Lib.hid (HO9.out.below hb (Nat.le_refl _))
    have HW10 := Lib.hid (HW9.out.below hb (Nat.le_refl _))
    have HSa10 := Lib.hid (HSa9.out.below hb (Nat.le_refl _))
    have HSb10 := Lib.hid (HSb9.out.below hb (Nat.le_refl _))
    have HSc10 := Lib.hid (HSc9.out.below hb (Nat.le_refl _))
    have HSx10 := Lib.hid (HSx.out.below hb (Nat.le_refl _))
    clear ho hb HSa9 HSb9 HSc9 HSx HI9 HO9 HW9
    go_wp2_with fail
    refine (rColumns_walk aO nO cO os aW nW cW ws a n c ps w10 HNO.out (by omega) (HCO.out.below HB10.out (Nat.le_refl _)) HNW.out hltW (HCW.out.below HB10.out (Nat.le_refl _)) HN.out (by omega) (HC.out.below HB10.out (Nat.le_refl _))).mono ?_
    rintro e w11 ⟨az, nz, cz, rfl, ho, hb⟩
    have HSz := Lib.hid (Slot.mk' ho)
    have hlz := ho.len
    have hs11 := hb.size
    have HB11 := Lib.hid (below_sq HB10.out hb)
    have HI11 := Lib.hid (HI10.out.below hb (Nat.le_refl _))
    have HO11 := Lib.hid (HO10.out.below hb (Nat.le_refl _))
    have HW11 := Lib.hid (HW10.out.below hb (Nat.le_refl _))
    have HSa11 := Lib.hid (HSa10.out.below hb (Nat.le_refl _))
    have HSb11 := Lib.hid (HSb10.out.below hb (Nat.le_refl _))
    have HSc11 := Lib.hid (HSc10.out.below hb (Nat.le_refl _))
    have HSx11 := Lib.hid (HSx10.out.below hb (Nat.le_refl _))
    have HSy11 := Lib.hid (HSy.out.below hb (Nat.le_refl _))
    clear ho hb HSa10 HSb10 HSc10 HSx10 HSy HI10 HO10 HW10
    obtain rfl : na = nx := by omega
    obtain rfl : nb = ny := by omega
    obtain rfl : nc = nz := by omega
    have hna : na ≤ 600 := by have := visL_length os ps; have := HNO.out; omega
    have hnb : nb ≤ 600 := by have := logRL_length os ps; have := HNO.out; omega
    have hnc : nc ≤ 600 := by have := colL_length os ws ps; have := HNO.out; omega
    have HLa := Lib.hid hla
    have HLb := Lib.hid hlb
    have HLc := Lib.hid hlc
    clear hlx hly hlz hla hlb hlc
    have HCe := Lib.hid (And.intro hs6 (And.intro hs7 (And.intro hs8 (And.intro hs9 (And.intro hs10 hs11)))))
    clear hs6 hs7 hs8 hs9 hs10 hs11
    have hEv : (visE os ps != visE os ps) = false := by simp
    have hEl : (logE os ps != logE os ps) = false := by simp
    have hEc : (colE os ws ps != colE os ws ps) = false := by simp
    generalize visE os ps = ev at *
    generalize logE os ps = el at *
    generalize colE os ws ps = ec at *
    go_wp2_with fail
    refine (Same_walk aa na ca (visL os ps) ax na cx (visL os ps) w11 HLa.out HLa.out (by omega) HSa11.out.own.pieces HSx11.out.own.pieces).mono ?_
    rintro e w12 ⟨rfl, hb⟩
    rw [decide_eq_true rfl]
    have HK12 := Lib.hid hb; clear hb
    go_wp2_with fail
    refine (Same_walk ab nb cb (logRL os ps) ay nb cy (logRL os ps) w12 HLb.out HLb.out (by omega) (HSb11.out.own.pieces.below HK12.out (Nat.le_refl _)) (HSy11.out.own.pieces.below HK12.out (Nat.le_refl _))).mono ?_
    rintro e w13 ⟨rfl, hb⟩
    rw [decide_eq_true rfl]
    have HK13 := Lib.hid (below_sq HK12.out hb); clear hb
    go_wp2_with fail
    refine (Same_walk ac nc cc (colL os ws ps) az nc cz (colL os ws ps) w13 HLc.out HLc.out (by omega) (HSc11.out.own.pieces.below HK13.out (Nat.le_refl _)) (HSz.out.own.pieces.below HK13.out (Nat.le_refl _))).mono ?_
    rintro e w14 ⟨rfl, hb⟩
    rw [decide_eq_true rfl]
    have HK14 := Lib.hid (below_sq HK13.out hb); clear hb
    go_wp2_with fail
    refine (kept_walk g c1 a n c ps w14 HN.out (by omega) hcap (HI11.out.below HK14.out (Nat.le_refl _)) (HC.out.below (below_sq HB11.out HK14.out) (Nat.le_refl _))).mono ?_
    rintro e w15 ⟨rfl, hb⟩
    have HK15 := Lib.hid (below_sq HK14.out hb); clear hb
    have q1 := (HO11.out.below HK15.out (Nat.le_refl _)).get nO (by rw [List.length_append, HNO.out]; simp)
    have q2 := (HW11.out.below HK15.out (Nat.le_refl _)).get nW (by rw [List.length_append, HNW.out]; simp)
    rw [show (os ++ [-7])[nO]'(by rw [List.length_append, HNO.out]; simp) = -7 by rw [List.getElem_append_right (by rw [HNO.out]; exact Nat.le_refl _)]; simp [HNO.out]] at q1
    rw [show (ws ++ [-8])[nW]'(by rw [List.length_append, HNW.out]; simp) = -8 by rw [List.getElem_append_right (by rw [HNW.out]; exact Nat.le_refl _)]; simp [HNW.out]] at q2
    simp only [Nat.zero_add] at q1 q2
    have hnO1 : (nO : Int) < (nO : Int) + 1 := by omega
    have hnW1 : (nW : Int) < (nW : Int) + 1 := by omega
    have HOf := Lib.hid (HO11.out.below HK15.out (Nat.le_refl _)).fore
    have HB15 := Lib.hid (below_sq HB11.out HK15.out)
    have HOo := Lib.hid (HCO.out.below HB15.out (Nat.le_refl _))
    have HSa15 := Lib.hid (HSa11.out.below HK15.out (Nat.le_refl _))
    have HSb15 := Lib.hid (HSb11.out.below HK15.out (Nat.le_refl _))
    have HSc15 := Lib.hid (HSc11.out.below HK15.out (Nat.le_refl _))
    have HSx15 := Lib.hid (HSx11.out.below HK15.out (Nat.le_refl _))
    have HSy15 := Lib.hid (HSy11.out.below HK15.out (Nat.le_refl _))
    have HSz15 := Lib.hid (HSz.out.below HK15.out (Nat.le_refl _))
    have HK := Lib.hid HK15.out.size
    clear HSa11 HSb11 HSc11 HSx11 HSy11 HSz HK12 HK13 HK14 HK15 HO11 HW11 HI11 HB8 HB9 HB10 HB11
    go_wp2
    go_loopw [22] (ShR w15 nO) (fun i _ => nO - (intOf i).toNat)
    case atStart => exact ⟨0, Nat.zero_le _, rfl, Below.refl _ _⟩
    case round =>
      obtain ⟨k, hk, rfl, hbel⟩ := hrel
      have HBk := Lib.hid hbel; clear hbel
      by_cases hkn : k < nO
      · have hk1 : k < os.length := by rw [HNO.out]; exact hkn
        obtain ⟨b, o, ha⟩ := HOo.out.some (by omega)
        subst ha
        have z0 := (HOo.out.below HBk.out (Nat.le_refl _)).get k hk1
        have z1 := (HOf.out.below HBk.out (Nat.le_refl _)).get k hk1
        simp only [Nat.zero_add] at z1
        have hzz : (os[k] != os[k]) = false := by simp
        generalize os[k] = z at *
        have hki : (k : Int) < (nO : Int) := by omega
        have hki1 : (k : Int) < (nO : Int) + 1 := by omega
        go_wp2
        go_quiet (fail)
        have HBq := Lib.hid (below_drewN HBk.out nq)
        go_wp2
        go_roundw
        case rel => exact ⟨k + 1, by omega, by go_num, HBq.out⟩
        case measure => simp [intOf]; omega
      · obtain rfl : k = nO := by omega
        have hki : ¬ (k : Int) < (k : Int) := by omega
        have HB16 := Lib.hid (below_sq HB15.out HBk.out)
        have HSa16 := Lib.hid (HSa15.out.below HBk.out (Nat.le_refl _))
        have HSb16 := Lib.hid (HSb15.out.below HBk.out (Nat.le_refl _))
        have HSc16 := Lib.hid (HSc15.out.below HBk.out (Nat.le_refl _))
        have HSx16 := Lib.hid (HSx15.out.below HBk.out (Nat.le_refl _))
        have HSy16 := Lib.hid (HSy15.out.below HBk.out (Nat.le_refl _))
        have HSz16 := Lib.hid (HSz15.out.below HBk.out (Nat.le_refl _))
        have HK2 := Lib.hid HBk.out.size
        clear HSa15 HSb15 HSc15 HSx15 HSy15 HSz15 HBk q1 q2
        -- p, q, r: again
        go_wp2_with fail
        refine (Visual_walk aO k cO os a n c ps wr HNO.out (by omega) (HCO.out.below HB16.out (Nat.le_refl _)) HN.out (by omega) (HC.out.below HB16.out (Nat.le_refl _)) HZ.out).mono ?_
        rintro e w17 ⟨ap, np, cp, rfl, ho, hb⟩
        have HSp := Lib.hid (Slot.mk' ho)
        obtain rfl : np = na := by have := ho.len; have := HLa.out; omega
        have HK3 := Lib.hid hb.size
        have HB17 := Lib.hid (below_sq HB16.out hb)
        have HSa17 := Lib.hid (HSa16.out.below hb (Nat.le_refl _))
        have HSb17 := Lib.hid (HSb16.out.below hb (Nat.le_refl _))
        have HSc17 := Lib.hid (HSc16.out.below hb (Nat.le_refl _))
        have HSx17 := Lib.hid (HSx16.out.below hb (Nat.le_refl _))
        have HSy17 := Lib.hid (HSy16.out.below hb (Nat.le_refl _))
        have HSz17 := Lib.hid (HSz16.out.below hb (Nat.le_refl _))
        clear ho hb HSa16 HSb16 HSc16 HSx16 HSy16 HSz16
        go_wp2_with fail
        refine (Logical_walk aO k cO os a n c ps w17 HNO.out (by omega) (HCO.out.below HB17.out (Nat.le_refl _)) HN.out (by omega) (HC.out.below HB17.out (Nat.le_refl _)) HZ.out).mono ?_
        rintro e w18 ⟨aq, nq, cq, rfl, ho, hb⟩
        have HSq := Lib.hid (Slot.mk' ho)
        obtain rfl : nq = nb := by have := ho.len; have := HLb.out; omega
        have HK4 := Lib.hid hb.size
        have HB18 := Lib.hid (below_sq HB17.out hb)
        have HSa18 := Lib.hid (HSa17.out.below hb (Nat.le_refl _))
        have HSb18 := Lib.hid (HSb17.out.below hb (Nat.le_refl _))
        have HSc18 := Lib.hid (HSc17.out.below hb (Nat.le_refl _))
        have HSx18 := Lib.hid (HSx17.out.below hb (Nat.le_refl _))
        have HSy18 := Lib.hid (HSy17.out.below hb (Nat.le_refl _))
        have HSz18 := Lib.hid (HSz17.out.below hb (Nat.le_refl _))
        have HSp18 := Lib.hid (HSp.out.below hb (Nat.le_refl _))
        clear ho hb HSa17 HSb17 HSc17 HSx17 HSy17 HSz17 HSp
        go_wp2_with fail
        refine (Columns_walk aO k cO os aW nW cW ws a n c ps w18 HNO.out (by omega) (HCO.out.below HB18.out (Nat.le_refl _)) HNW.out hltW (HCW.out.below HB18.out (Nat.le_refl _)) HN.out (by omega) (HC.out.below HB18.out (Nat.le_refl _)) HZ.out).mono ?_
        rintro e w19 ⟨ar, nr, cr, rfl, ho, hb⟩
        have HSr := Lib.hid (Slot.mk' ho)
        obtain rfl : nr = nc := by have := ho.len; have := HLc.out; omega
        have HK5 := Lib.hid hb.size
        have HB19 := Lib.hid (below_sq HB18.out hb)
        have HSa19 := Lib.hid (HSa18.out.below hb (Nat.le_refl _))
        have HSb19 := Lib.hid (HSb18.out.below hb (Nat.le_refl _))
        have HSc19 := Lib.hid (HSc18.out.below hb (Nat.le_refl _))
        have HSx19 := Lib.hid (HSx18.out.below hb (Nat.le_refl _))
        have HSy19 := Lib.hid (HSy18.out.below hb (Nat.le_refl _))
        have HSz19 := Lib.hid (HSz18.out.below hb (Nat.le_refl _))
        have HSp19 := Lib.hid (HSp18.out.below hb (Nat.le_refl _))
        have HSq19 := Lib.hid (HSq.out.below hb (Nat.le_refl _))
        clear ho hb HSa18 HSb18 HSc18 HSx18 HSy18 HSz18 HSp18 HSq
        have HF : Hid (w5.heap.size ≤ w6.heap.size ∧ w6.heap.size ≤ v7.heap.size ∧ v7.heap.size ≤ w8.heap.size ∧ w8.heap.size ≤ w9.heap.size ∧ w9.heap.size ≤ w10.heap.size ∧ w10.heap.size ≤ w11.heap.size ∧ w11.heap.size ≤ w15.heap.size ∧ w15.heap.size ≤ wr.heap.size ∧ wr.heap.size ≤ w17.heap.size ∧ w17.heap.size ≤ w18.heap.size ∧ w18.heap.size ≤ w19.heap.size ∧ w.heap.size ≤ w5.heap.size) := Lib.hid ⟨HCe.out.1, HCe.out.2.1, HCe.out.2.2.1, HCe.out.2.2.2.1, HCe.out.2.2.2.2.1, HCe.out.2.2.2.2.2, HK.out, HK2.out, HK3.out, HK4.out, HK5.out, HB5t.out.size⟩
        clear HCe HK HK2 HK3 HK4 HK5
        -- grown, three times
        go_wp2_with fail
        refine (grown2_walk w.heap.size aa np ca (visL os ps) ap cp ax cx (visL os ps) w19 (by omega) HB19.out.size HLa.out (HSa19.out.own.mono (by have := HF.out; omega)) HSp19.out.own.pieces HSx19.out.own.pieces (HSa19.out.away HSp19.out (.inr (by have := HF.out; omega))) (HSa19.out.away HSx19.out (.inr (by have := HF.out; omega)))).mono ?_
        rintro e w20 ⟨rfl, hb, hon⟩
        have HB20 := Lib.hid (HB19.out.trans hb)
        have HSb20 := Lib.hid (HSb19.out.only HSa19.out (by have := HF.out; omega) hon)
        have HSc20 := Lib.hid (HSc19.out.only HSa19.out (by have := HF.out; omega) hon)
        have HSy20 := Lib.hid (HSy19.out.only HSa19.out (by have := HF.out; omega) hon)
        have HSz20 := Lib.hid (HSz19.out.only HSa19.out (by have := HF.out; omega) hon)
        have HSq20 := Lib.hid (HSq19.out.only HSa19.out (by have := HF.out; omega) hon)
        have HSr20 := Lib.hid (HSr.out.only HSa19.out (by have := HF.out; omega) hon)
        clear hb hon HSb19 HSc19 HSy19 HSz19 HSq19 HSr HSa19 HSp19 HSx19
        go_wp2_with fail
        refine (grown2_walk w.heap.size ab nq cb (logRL os ps) aq cq ay cy (logRL os ps) w20 (by omega) HB20.out.size HLb.out (HSb20.out.own.mono (by have := HF.out; omega)) HSq20.out.own.pieces HSy20.out.own.pieces (HSb20.out.away HSq20.out (.inr (by have := HF.out; omega))) (HSb20.out.away HSy20.out (.inr (by have := HF.out; omega)))).mono ?_
        rintro e w21 ⟨rfl, hb, hon⟩
        have HB21 := Lib.hid (HB20.out.trans hb)
        have HSc21 := Lib.hid (HSc20.out.only HSb20.out (by have := HF.out; omega) hon)
        have HSz21 := Lib.hid (HSz20.out.only HSb20.out (by have := HF.out; omega) hon)
        have HSr21 := Lib.hid (HSr20.out.only HSb20.out (by have := HF.out; omega) hon)
        clear hb hon HSc20 HSz20 HSr20 HSb20 HSq20 HSy20
        go_wp2_with fail
        refine (grown2_walk w.heap.size ac nr cc (colL os ws ps) ar cr az cz (colL os ws ps) w21 (by omega) HB21.out.size HLc.out (HSc21.out.own.mono (by have := HF.out; omega)) HSr21.out.own.pieces HSz21.out.own.pieces (HSc21.out.away HSr21.out (.inr (by have := HF.out; omega))) (HSc21.out.away HSz21.out (.inr (by have := HF.out; omega)))).mono ?_
        rintro e w22 ⟨rfl, hb, hon⟩
        have HB22 := Lib.hid (HB21.out.trans hb)
        clear hb hon
        go_wp2_with fail
        refine (awake_walk w22).mono ?_
        rintro e w23 ⟨rfl, hb⟩
        have HB23 := Lib.hid (HB22.out.trans (hb.mono HB22.out.size)); clear hb
        go_wp2
        go_ret
        exact ⟨rfl, HB23.out⟩
end Go.Proofs.Ytkcdcgijbaepmaa
