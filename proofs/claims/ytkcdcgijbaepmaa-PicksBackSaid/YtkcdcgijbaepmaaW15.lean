/-
  The walk of picks.Visual.
-/
import Derived.Test.YtkcdcgijbaepmaaW14
set_option linter.unusedVariables false
namespace Go.Proofs.Ytkcdcgijbaepmaa
open Go.RowKit

/-- the order's places, as pieces of one, whose place is in ps -/
def shL (os : List Int) (ps : List PD) (k : Nat) : List PD := ((List.range k).filter (fun v => covB ps (os.getD v 0))).map (fun (v : Nat) => ⟨(v : Int), (v : Int) + 1⟩)
theorem shL_yes {os : List Int} {ps : List PD} {k : Nat} (h : covB ps (os.getD k 0) = true) : shL os ps (k + 1) = shL os ps k ++ [⟨(k : Int), (k : Int) + 1⟩] := by
  unfold shL
  rw [List.range_succ, List.filter_append, List.map_append, List.filter_cons_of_pos (by simpa using h)]
  rfl
theorem shL_no {os : List Int} {ps : List PD} {k : Nat} (h : covB ps (os.getD k 0) = false) : shL os ps (k + 1) = shL os ps k := by
  unfold shL
  rw [List.range_succ, List.filter_append, List.map_append, List.filter_cons_of_neg (by rw [h]; exact Bool.false_ne_true)]
  simp
theorem shL_length (os : List Int) (ps : List PD) (k : Nat) : (shL os ps k).length ≤ k := by
  unfold shL
  rw [List.length_map]
  exact Nat.le_trans (List.length_filter_le _ _) (by simp)
theorem covB_join (ps : List PD) (x : Int) : covB (joinL ps) x = covB ps x := by
  unfold covB
  congr 1
  exact propext ((joinL_ok ps).2 x)
def visE (os : List Int) (ps : List PD) : Int := if orderB os = false then 261 else if Any_wrong ps = true then 260 else 0
def visL (os : List Int) (ps : List PD) : List PD := if orderB os = false then [] else if Any_wrong ps = true then [] else joinL (shL os ps os.length)
def VisR (w3 : World) (n : Nat) (os : List Int) (ps : List PD) (v i : Value) (wr : World) : Prop :=
  ∃ (k : Nat) (a' : Option Addr) (m c' : Nat), k ≤ n ∧ i = .int .i64 k ∧ v = .slice a' m c' ∧ OwnP w3.heap.size wr a' m c' (shL os ps k) ∧ Below w3.heap.size w3 wr

set_option maxRecDepth 100000 in
set_option maxHeartbeats 2000000 in
theorem Visual_walk (aO : Option Addr) (nO cO : Nat) (os : List Int) (a : Option Addr) (n c : Nat) (ps : List PD) (w : World) (hnO : os.length = nO) (hltO : nO ≤ 65536) (hcO : Ints .i64 w aO os) (hn : ps.length = n) (hlt : n ≤ 65536) (hc : PiecesAt w a ps) (hnone : a = none → c = 0) :
    Calls Try.prog 15 #[.slice aO nO cO, .slice a n c] w fun e w' => ∃ a' m c', e = .returned (.tuple #[.slice a' m c', .int .i64 (visE os ps)]) ∧ OwnP w.heap.size w' a' m c' (visL os ps) ∧ Below w.heap.size w w' := by
  have HNO := Lib.hid hnO; clear hnO
  have HN := Lib.hid hn; clear hn
  have HCO := Lib.hid hcO; clear hcO
  have HC := Lib.hid hc; clear hc
  have HZ := Lib.hid hnone; clear hnone
  go_enter Try.func15, Try.ntmps15
  go_wp2_with fail
  refine (may_walk aO nO cO os w HNO.out hltO HCO.out).mono ?_
  rintro e w1 ⟨rfl, hb⟩
  have HB1 := Lib.hid hb; clear hb
  by_cases h1 : orderB os = false
  · have HE := Lib.hid (show visE os ps = 261 from if_pos h1)
    have HL := Lib.hid (show visL os ps = [] from if_pos h1)
    rw [h1]
    clear h1
    go_wp2
    go_ret2
    exact ⟨_, _, _, by rw [HE.out]; rfl, by rw [HL.out]; exact OwnP.nil _ _, HB1.out⟩
  · have h1t : orderB os = true := by simpa using h1
    rw [h1t]
    have H1 := Lib.hid h1; clear h1 h1t
    have HC1 := Lib.hid (HC.out.below HB1.out (Nat.le_refl _))
    go_wp2_with fail
    refine (Contains_wrong_walk a n c ps w1 HN.out (by omega) HC1.out).mono ?_
    rintro e w2 ⟨rfl, hb⟩
    have HB2 := Lib.hid hb; clear hb
    by_cases h2 : Any_wrong ps = true
    · have HE := Lib.hid (show visE os ps = 260 by unfold visE; rw [if_neg H1.out, if_pos h2])
      have HL := Lib.hid (show visL os ps = [] by unfold visL; rw [if_neg H1.out, if_pos h2])
      have HBb := Lib.hid (below_sq HB1.out HB2.out)
      rw [h2]
      clear h2
      go_wp2
      go_ret2
      exact ⟨_, _, _, by rw [HE.out]; rfl, by rw [HL.out]; exact OwnP.nil _ _, HBb.out⟩
    · have HE := Lib.hid (show visE os ps = 0 by unfold visE; rw [if_neg H1.out, if_neg h2])
      have HL := Lib.hid (show visL os ps = joinL (shL os ps nO) by unfold visL; rw [if_neg H1.out, if_neg h2, HNO.out])
      have h2f : Any_wrong ps = false := by simpa using h2
      rw [h2f]
      clear h2 h2f
      have HC2 := Lib.hid (HC1.out.below HB2.out (Nat.le_refl _))
      go_wp2_with fail
      refine (Join_walk a n c ps w2 HN.out (by omega) HC2.out HZ.out).mono ?_
      rintro e w3 ⟨aJ, nJ, cJ, rfl, hoJ, hb⟩
      have hnJ : nJ ≤ 65536 := by have := hoJ.len; have := joinL_length ps; have := HN.out; omega
      have HLJ := Lib.hid hoJ.len
      have HPJ := Lib.hid hoJ.pieces
      clear hoJ
      have HB3 := Lib.hid (below_sq HB1.out (below_sq HB2.out hb)); clear hb
      have HCO3 := Lib.hid (HCO.out.below HB3.out (Nat.le_refl _))
      have HNF := Lib.hid (joinL_ok ps).1
      go_wp2
      go_loopw [7, 19] (VisR w3 nO os ps) (fun _ i _ => nO - (intOf i).toNat)
      case atStart => exact ⟨0, none, 0, 0, Nat.zero_le _, rfl, rfl, OwnP.nil _ _, Below.refl _ _⟩
      case round =>
        obtain ⟨k, a', m, c', hk, rfl, rfl, hown, hbel⟩ := hrel
        have hm : m ≤ k := by have := hown.len; have := shL_length os ps k; omega
        have HO := Lib.hid hown; clear hown
        have HB := Lib.hid hbel; clear hbel
        by_cases hkn : k < nO
        · have hk1 : k < os.length := by rw [HNO.out]; exact hkn
          obtain ⟨b, o, ha⟩ := HCO3.out.some (by omega)
          subst ha
          have cz := (HCO3.out.below HB.out (Nat.le_refl _)).get k hk1
          have HG : Hid (os.getD k 0 = os[k]) := Lib.hid (by simp [hk1])
          have HY := Lib.hid (fun h => shL_yes (os := os) (ps := ps) (k := k) h)
          have HNn := Lib.hid (fun h => shL_no (os := os) (ps := ps) (k := k) h)
          rw [HG.out] at HY HNn
          clear HG
          generalize os[k] = z at *
          have hki : (k : Int) < (nO : Int) := by omega
          go_wp2_with fail
          refine (has_walk aJ nJ cJ (joinL ps) z wr HLJ.out (by omega) (HPJ.out.below HB.out (Nat.le_refl _)) HNF.out).mono ?_
          rintro e w5 ⟨rfl, hb⟩
          rw [covB_join]
          have HB5 := Lib.hid (HB.out.trans (hb.mono HB.out.size))
          have HO5 := Lib.hid (HO.out.below hb (Nat.le_refl _))
          clear hb
          by_cases hv : covB ps z = true
          · have HE1 := Lib.hid (HY.out hv)
            rw [hv]
            clear hv HY HNn
            go_wp2_with (at_builtin; refine wpList_appN Try.elemPiece rfl (.tmp 27) (.tmp 32) rfl HO5.out HB5.out.size (by omega) (by omega) #[.int .i64 (k : Nat), .int .i64 ((k : Int) + 1)] rfl (by intro u hu; simp at hu; rcases hu with rfl | rfl <;> rfl) _ rfl rfl ?_)
            intro a9 c9 w9 ho9 hg9 _
            have HN9 : Hid (OwnP w3.heap.size w9 a9 (m + 1) c9 (shL os ps (k + 1))) := Lib.hid (by rw [HE1.out]; unfold OwnP; rw [flatP_push]; exact ho9)
            have HB9 := Lib.hid (HB5.out.trans (HO5.out.app hg9 HB5.out.size))
            clear ho9 hg9
            go_wp2
            go_roundw
            case rel => exact ⟨k + 1, _, _, _, by omega, by go_num, rfl, HN9.out, HB9.out⟩
            case measure => simp [intOf]; omega
          · have hvf : covB ps z = false := by simpa using hv
            have HE1 := Lib.hid (HNn.out hvf)
            rw [hvf]
            clear hv hvf HY HNn
            go_wp2
            go_roundw
            case rel => exact ⟨k + 1, _, _, _, by omega, by go_num, rfl, by rw [HE1.out]; exact HO5.out, HB5.out⟩
            case measure => simp [intOf]; omega
        · obtain rfl : nO = k := by omega
          have HNo : Hid (a' = none → c' = 0) := Lib.hid (fun e => by
            rcases HO.out.2 with ⟨h, _⟩ | ⟨g, cap', cur, h, _⟩
            · simp at h; exact h.2.2
            · rw [e] at h; simp at h)
          have HLs := Lib.hid HO.out.len
          go_wp2_with fail
          refine (Join_walk a' m c' (shL os ps nO) wr HLs.out (by omega) HO.out.pieces HNo.out).mono ?_
          rintro e w6 ⟨aR, nR, cR, rfl, hoR, hb⟩
          have HRes : Hid (OwnP w.heap.size w6 aR nR cR (visL os ps)) := Lib.hid (by rw [HL.out]; exact hoR.mono (by have := HB3.out.size; have := HB.out.size; omega))
          have HEnd := Lib.hid (below_sq HB3.out (below_sq HB.out hb))
          clear hoR hb
          go_wp2
          go_ret2
          exact ⟨_, _, _, by rw [HE.out]; rfl, HRes.out, HEnd.out⟩
end Go.Proofs.Ytkcdcgijbaepmaa
