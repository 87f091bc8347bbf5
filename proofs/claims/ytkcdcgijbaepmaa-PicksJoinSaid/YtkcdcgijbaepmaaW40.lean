/-
  The walk of PicksJoin.
-/
import Derived.Test.YtkcdcgijbaepmaaW25
import Derived.Test.YtkcdcgijbaepmaaW28
import Derived.Test.YtkcdcgijbaepmaaW36
import Derived.Test.YtkcdcgijbaepmaaW39
import Derived.Test.YtkcdcgijbaepmaaW41
set_option linter.unusedVariables false
set_option linter.unusedSimpArgs false
namespace Go.Proofs.Ytkcdcgijbaepmaa
open Go.RowKit

/-- between two rounds: the round's cell, the marks that wait to be collected -/
def JoR (w16 : World) (r bR : Nat) (ds : List Deferred) (W : World) : Prop :=
  r ≤ 3 ∧ w16.heap.size ≤ bR ∧ Below w16.heap.size w16 W ∧ W.heap[bR]? = some (.cells #[.int .i64 (r : Nat)] 3 (0, 0)) ∧
    ∃ Ds : List Nat, ds = Ds.map (fun D => { target := .collected D, args := #[] }) ∧ Ds.Nodup ∧ ∀ D ∈ Ds, w16.heap.size ≤ D ∧ D ≠ bR ∧ W.heap[D]? = some (.deferred (some []))
def mJ (A : Act) (W : World) : Nat := match (A.tmps.getD 16 undef : Value) with
  | Value.pointer (some ad) => (match W.cell? ad with
    | some (Value.int _ x) => (3 - x).toNat
    | _ => 0)
  | _ => 0
theorem turnL_le (a b : List PD) : (turnL a b).length ≤ a.length + b.length := by
  unfold turnL
  have h1 := joinL_length (pairsL (sortI (bothE a b)))
  rw [pairsL_length, (sortI_perm _).length_eq, bothE_length] at h1
  have h2 := joinL_length a
  have h3 := joinL_length b
  omega
theorem PiecesAt.ahead {w : World} {a : Option Addr} {ps qs : List PD} (h : PiecesAt w a (ps ++ qs)) : PiecesAt w a ps := fun i hi => by
  have := h i (by rw [List.length_append]; omega)
  rwa [List.getElem_append_left hi] at this

theorem mJ_of {A : Act} {W : World} {b r : Nat} (h : A.tmps.getD 16 undef = .pointer (some ⟨b, 0, none⟩)) (hc : W.cell? ⟨b, 0, none⟩ = some (.int .i64 (r : Nat))) : mJ A W = 3 - r := by
  unfold mJ
  rw [h]
  simp only [hc]
  omega
theorem leaves_marks {P : Program} {fn : Func} {tmps : Array Value} {Rr : Ending → World → Prop} {B : Nat} : ∀ (Ds : List Nat) (w : World), Ds.Nodup → (∀ D ∈ Ds, B ≤ D ∧ w.heap[D]? = some (.deferred (some []))) →
    (∀ w', Below B w w' → LeavesInM Fence.wide 3 P fn tmps Rr [] .returning w') → LeavesInM Fence.wide 3 P fn tmps Rr (Ds.map (fun D => { target := .collected D, args := #[] })) .returning w
  | [], w, _, _, h => h w (Below.refl _ _)
  | D :: Ds, w, hn, hD, h => by
    rw [List.nodup_cons] at hn
    refine leaves_mark (hD D (by simp)).2 (leaves_marks (B := B) Ds _ hn.2 (fun E hE => ?_) (fun w' hb => h w' ?_))
    · refine ⟨(hD E (by simp [hE])).1, ?_⟩
      rw [World.putObj_heap_other (show E ≠ D from fun e => hn.1 (e ▸ hE))]
      exact (hD E (by simp [hE])).2
    · have h1 := (hD D (by simp)).1
      have hp : Below B w (w.putObj D (.deferred none)) := ⟨rfl, rfl, rfl, by simp, fun k hk => World.putObj_heap_other (show k ≠ D by omega)⟩
      exact hp.trans hb

set_option maxRecDepth 100000 in
set_option maxHeartbeats 1600000 in
theorem picksJoin_walk (a : Option Addr) (n c : Nat) (ps : List PD) (b : Option Addr) (n2 c2 : Nat) (qs : List PD) (most : Int) (w : World) (hn : ps.length = n) (hc : PiecesAt w a ps) (hnone : a = none → c = 0) (hn2 : qs.length = n2) (hc2 : PiecesAt w b qs) (hnone2 : b = none → c2 = 0) (hwf : ∀ p ∈ ps, -9223372036854775808 ≤ p.f ∧ p.t ≤ 9223372036854775807) :
    Calls Try.prog 5 #[.slice a n c, .slice b n2 c2, .int .i64 most] w fun e w' => e = .returned (.bool true) ∧ Below w.heap.size w w' := by
  have HN := Lib.hid hn; clear hn
  have HC := Lib.hid hc; clear hc
  have HZ := Lib.hid hnone; clear hnone
  have HN2 := Lib.hid hn2; clear hn2
  have HC2 := Lib.hid hc2; clear hc2
  have HZ2 := Lib.hid hnone2; clear hnone2
  have HWf := Lib.hid hwf; clear hwf
  refine calls_of_wpM Try.func5 rfl ?_
  simp only [Try.ntmps5, List.size_toArray, List.length_cons, List.length_nil, Nat.reduceAdd, Nat.reduceSub, Array.replicate_succ, Array.replicate_zero, List.push_toArray, List.append_toArray, List.nil_append, List.cons_append]
  obtain ⟨bM, hbM⟩ : ∃ bM, bM = w.heap.size := ⟨_, rfl⟩
  have HW0 : Hid (Below w.heap.size w ((w.alloc (.cells #[.int .i64 most] 3)).alloc (.cells #[.bool false] 4)) ∧ ((w.alloc (.cells #[.int .i64 most] 3)).alloc (.cells #[.bool false] 4)).heap[bM]? = some (.cells #[.int .i64 most] 3 (0, 0)) ∧
      ((w.alloc (.cells #[.int .i64 most] 3)).alloc (.cells #[.bool false] 4)).heap[bM + 1]? = some (.cells #[.bool false] 4 (0, 0)) ∧ ((w.alloc (.cells #[.int .i64 most] 3)).alloc (.cells #[.bool false] 4)).heap.size = bM + 1 + 1) := Lib.hid (by
    rw [hbM]
    refine ⟨((Below.refl _ w).alloc (Nat.le_refl _) _).alloc (by simp) _, ?_, ?_, by simp⟩
    · rw [Below.heap_alloc _ _ _ (by simp)]
      exact heap_alloc_new w _
    · have := heap_alloc_new (w.alloc (.cells #[.int .i64 most] 3)) (.cells #[.bool false] 4)
      simpa using this)
  go_upto_region 1 with (fail)
  rw [← hbM]
  generalize ((w.alloc (.cells #[.int .i64 most] 3)).alloc (.cells #[.bool false] 4)) = w0 at *
  have HBM := Lib.hid hbM; clear hbM
  by_cases h6 : 600 < n ∨ 600 < n2
  · have hd : (600 : Int) < (n : Int) ∨ (¬ (600 : Int) < (n : Int) ∧ (600 : Int) < (n2 : Int)) := by omega
    clear h6
    rcases hd with h6i | ⟨h6i, h6j⟩
    all_goals
      go_wp2_with fail
      refine (awake_walk _).mono ?_
      rintro e w1 ⟨rfl, hb⟩
      have hbl : bM + 1 < w0.heap.size := by rw [HW0.out.2.2.2]; omega
      have HR := Lib.hid ((hb.block (bM + 1) hbl).trans HW0.out.2.2.1)
      have q1 := cell_of_row w1 (bM + 1) 0 _ _ (0, 0) HR.out
      simp at q1
      have f1 := frozen_of_row w1 (bM + 1) 0 _ _ HR.out
      have q2 := World.cell?_setCell_same' w1 ⟨bM + 1, 0, none⟩ (.bool true) (by rw [q1]; rfl)
      have HEnd := Lib.hid (show Below w.heap.size w (w1.setCell ⟨bM + 1, 0, none⟩ (.bool true)) from (below_sq HW0.out.1 hb).setCell (p := ⟨bM + 1, 0, none⟩) (by show w.heap.size ≤ bM + 1; rw [HBM.out]; omega) _)
      clear hb
      go_wp2
      refine leaves_nil (v := .bool true) (by simp [results, Try.results5, go_sem, q2]) ?_
      exact ⟨rfl, HEnd.out⟩
  · have h6i : ¬ (600 : Int) < (n : Int) := by omega
    have h6j : ¬ (600 : Int) < (n2 : Int) := by omega
    have hn6 : n ≤ 600 := by omega
    have hn7 : n2 ≤ 600 := by omega
    clear h6
    have HC0 := Lib.hid (HC.out.below HW0.out.1 (Nat.le_refl _))
    have HD0 := Lib.hid (HC2.out.below HW0.out.1 (Nat.le_refl _))
    go_wp2_with fail
    refine (lent_walk a n c ps w0 HN.out (by omega) HC0.out HZ.out).mono ?_
    rintro e w1 ⟨gx, cx, rfl, ho, hb⟩
    have HX1 := Lib.hid (Slot.mk' ho)
    have hcap : n + 2 ≤ cx := by obtain ⟨g', e, h1, h2, h3, h4⟩ := ho.at (by omega); exact h3
    have HB1 := Lib.hid hb; clear ho hb
    go_wp2_with fail
    refine (lent_walk b n2 c2 qs w1 HN2.out (by omega) (HD0.out.below HB1.out (Nat.le_refl _)) HZ2.out).mono ?_
    rintro e w2 ⟨gy, cy, rfl, ho, hb⟩
    have HY2 := Lib.hid (Slot.mk' ho)
    have hcap2 : n2 + 2 ≤ cy := by obtain ⟨g', e, h1, h2, h3, h4⟩ := ho.at (by omega); exact h3
    have HX2 := Lib.hid (HX1.out.below hb (Nat.le_refl _))
    have hs2 := hb.size
    have HB2 := Lib.hid (below_sq HB1.out hb); clear ho hb HX1
    -- p, q
    go_wp2_with fail
    refine (Join_walk (some ⟨gx, 0, none⟩) n cx ps w2 HN.out (by omega) HX2.out.own.pieces.ahead (fun h => by cases h)).mono ?_
    rintro e w3 ⟨ap, np, cp, rfl, ho, hb⟩
    have HSp := Lib.hid (Slot.mk' ho)
    have HLp := Lib.hid ho.len
    have hs3 := hb.size
    have HB3 := Lib.hid (below_sq HB2.out hb)
    have HX3 := Lib.hid (HX2.out.below hb (Nat.le_refl _))
    have HY3 := Lib.hid (HY2.out.below hb (Nat.le_refl _))
    clear ho hb HX2 HY2
    go_wp2_with fail
    refine (Join_walk (some ⟨gx, 0, none⟩) n cx ps w3 HN.out (by omega) HX3.out.own.pieces.ahead (fun h => by cases h)).mono ?_
    rintro e w4 ⟨aq, nq, cq, rfl, ho, hb⟩
    have HSq := Lib.hid (Slot.mk' ho)
    obtain rfl : nq = np := by have := ho.len; have := HLp.out; omega
    have hs4 := hb.size
    have HB4 := Lib.hid (below_sq HB3.out hb)
    have HX4 := Lib.hid (HX3.out.below hb (Nat.le_refl _))
    have HY4 := Lib.hid (HY3.out.below hb (Nat.le_refl _))
    have HSp4 := Lib.hid (HSp.out.below hb (Nat.le_refl _))
    clear ho hb HX3 HY3 HSp
    -- t, u
    go_wp2_with fail
    refine (Turn_walk (some ⟨gx, 0, none⟩) n cx ps (some ⟨gy, 0, none⟩) n2 cy qs w4 HN.out (by omega) HX4.out.own.pieces.ahead (fun h => by cases h) HN2.out (by omega) HY4.out.own.pieces.ahead (fun h => by cases h)).mono ?_
    rintro e w5 ⟨at_, nt, ct, rfl, ho, hb⟩
    have HSt := Lib.hid (Slot.mk' ho)
    have HLt := Lib.hid ho.len
    have hs5 := hb.size
    have HB5 := Lib.hid (below_sq HB4.out hb)
    have HX5 := Lib.hid (HX4.out.below hb (Nat.le_refl _))
    have HY5 := Lib.hid (HY4.out.below hb (Nat.le_refl _))
    have HSp5 := Lib.hid (HSp4.out.below hb (Nat.le_refl _))
    have HSq5 := Lib.hid (HSq.out.below hb (Nat.le_refl _))
    clear ho hb HX4 HY4 HSp4 HSq
    go_wp2_with fail
    refine (Turn_walk (some ⟨gx, 0, none⟩) n cx ps (some ⟨gy, 0, none⟩) n2 cy qs w5 HN.out (by omega) HX5.out.own.pieces.ahead (fun h => by cases h) HN2.out (by omega) HY5.out.own.pieces.ahead (fun h => by cases h)).mono ?_
    rintro e w6 ⟨au, nu, cu, rfl, ho, hb⟩
    have HSu := Lib.hid (Slot.mk' ho)
    obtain rfl : nu = nt := by have := ho.len; have := HLt.out; omega
    have hs6 := hb.size
    have HB6 := Lib.hid (below_sq HB5.out hb)
    have HX6 := Lib.hid (HX5.out.below hb (Nat.le_refl _))
    have HY6 := Lib.hid (HY5.out.below hb (Nat.le_refl _))
    have HSp6 := Lib.hid (HSp5.out.below hb (Nat.le_refl _))
    have HSq6 := Lib.hid (HSq5.out.below hb (Nat.le_refl _))
    have HSt6 := Lib.hid (HSt.out.below hb (Nat.le_refl _))
    clear ho hb HX5 HY5 HSp5 HSq5 HSt
    -- want, turned
    go_wp2_with fail
    refine (rJoin_walk a n c ps w6 HN.out (by omega) (HC0.out.below HB6.out (Nat.le_refl _))).mono ?_
    rintro e w7 ⟨aw, nw, cw, rfl, ho, hb⟩
    have HSw := Lib.hid (Slot.mk' ho)
    obtain rfl : nw = nq := by have := ho.len; have := HLp.out; omega
    have hs7 := hb.size
    have HB7 := Lib.hid (below_sq HB6.out hb)
    have HX7 := Lib.hid (HX6.out.below hb (Nat.le_refl _))
    have HY7 := Lib.hid (HY6.out.below hb (Nat.le_refl _))
    have HSp7 := Lib.hid (HSp6.out.below hb (Nat.le_refl _))
    have HSq7 := Lib.hid (HSq6.out.below hb (Nat.le_refl _))
    have HSt7 := Lib.hid (HSt6.out.below hb (Nat.le_refl _))
    have HSu7 := Lib.hid (HSu.out.below hb (Nat.le_refl _))
    clear ho hb HX6 HY6 HSp6 HSq6 HSt6 HSu
    go_wp2_with fail
    refine (rTurn_walk a n c ps b n2 c2 qs w7 HN.out (by omega) (HC0.out.below HB7.out (Nat.le_refl _)) HN2.out (by omega) (HD0.out.below HB7.out (Nat.le_refl _))).mono ?_
    rintro e w8 ⟨ad, nd, cd, rfl, ho, hb⟩
    obtain rfl : nd = nu := by have := ho.len; have := HLt.out; omega
    obtain ⟨bW, hbW⟩ : ∃ bW, bW = w8.heap.size := ⟨_, rfl⟩
    have HW9 : Hid (Below w8.heap.size w8 (w8.alloc (.cells #[.slice aw nw cw] 22)) ∧ (w8.alloc (.cells #[.slice aw nw cw] 22)).heap[bW]? = some (.cells #[.slice aw nw cw] 22 (0, 0)) ∧ (w8.alloc (.cells #[.slice aw nw cw] 22)).heap.size = bW + 1) := Lib.hid (by
      rw [hbW]
      exact ⟨(Below.refl _ _).alloc (Nat.le_refl _) _, heap_alloc_new w8 _, by simp⟩)
    go_upto_region 7 with (fail)
    rw [← hbW]
    generalize (w8.alloc (.cells #[.slice aw nw cw] 22)) = w9 at *
    have HBW := Lib.hid hbW; clear hbW
    have hs8 := hb.size
    have HB8 := Lib.hid (below_sq HB7.out hb)
    have HB9 := Lib.hid (below_sq HB8.out HW9.out.1)
    have hb2 := below_sq hb HW9.out.1
    have HSd := Lib.hid ((Slot.mk' ho).below HW9.out.1 (Nat.le_refl _))
    have HX9 := Lib.hid (HX7.out.below hb2 (Nat.le_refl _))
    have HY9 := Lib.hid (HY7.out.below hb2 (Nat.le_refl _))
    have HSp9 := Lib.hid (HSp7.out.below hb2 (Nat.le_refl _))
    have HSq9 := Lib.hid (HSq7.out.below hb2 (Nat.le_refl _))
    have HSt9 := Lib.hid (HSt7.out.below hb2 (Nat.le_refl _))
    have HSu9 := Lib.hid (HSu7.out.below hb2 (Nat.le_refl _))
    have HSw9 := Lib.hid (HSw.out.below hb2 (Nat.le_refl _))
    clear ho hb hb2 HX7 HY7 HSp7 HSq7 HSt7 HSu7 HSw
    have hnp : nw ≤ 600 := by have := joinL_length ps; have := HN.out; have := HLp.out; omega
    have hnt : nd ≤ 1200 := by have := turnL_le ps qs; have := HN.out; have := HN2.out; have := HLt.out; omega
    have HCe := Lib.hid (And.intro hs2 (And.intro hs3 (And.intro hs4 (And.intro hs5 (And.intro hs6 (And.intro hs7 hs8))))))
    clear hs2 hs3 hs4 hs5 hs6 hs7 hs8
    have e9 := cell_of_row w9 bW 0 _ _ (0, 0) HW9.out.2.1
    simp at e9
    have hbWl : bW < w9.heap.size := by rw [HW9.out.2.2]; omega
    -- the answers
    go_wp2_with fail
    refine (Same_walk ap nw cp (joinL ps) aw nw cw (joinL ps) w9 HLp.out HLp.out (by omega) HSp9.out.own.pieces HSw9.out.own.pieces).mono ?_
    rintro e w10 ⟨rfl, hb⟩
    rw [decide_eq_true rfl]
    have HK10 := Lib.hid hb; clear hb
    go_wp2_with fail
    refine (Same_walk at_ nd ct (turnL ps qs) ad nd cd (turnL ps qs) w10 HLt.out HLt.out (by omega) (HSt9.out.own.pieces.below HK10.out (Nat.le_refl _)) (HSd.out.own.pieces.below HK10.out (Nat.le_refl _))).mono ?_
    rintro e w11 ⟨rfl, hb⟩
    rw [decide_eq_true rfl]
    have HK11 := Lib.hid (below_sq HK10.out hb); clear hb
    go_wp2_with fail
    refine (kept_walk gx cx a n c ps w11 HN.out (by omega) hcap (HX9.out.own.pieces.below HK11.out (Nat.le_refl _)) (HC0.out.below (below_sq HB9.out HK11.out) (Nat.le_refl _))).mono ?_
    rintro e w12 ⟨rfl, hb⟩
    have HK12 := Lib.hid (below_sq HK11.out hb); clear hb
    go_wp2_with fail
    refine (kept_walk gy cy b n2 c2 qs w12 HN2.out (by omega) hcap2 (HY9.out.own.pieces.below HK12.out (Nat.le_refl _)) (HD0.out.below (below_sq HB9.out HK12.out) (Nat.le_refl _))).mono ?_
    rintro e w13 ⟨rfl, hb⟩
    have HK13 := Lib.hid (below_sq HK12.out hb); clear hb
    have e13 : w13.cell? ⟨bW, 0, none⟩ = some (.slice aw nw cw) := (HK13.out.cell (p := ⟨bW, 0, none⟩) hbWl).trans e9
    have HX13 := Lib.hid (HX9.out.below HK13.out (Nat.le_refl _))
    have HSp13 := Lib.hid (HSp9.out.below HK13.out (Nat.le_refl _))
    have HSq13 := Lib.hid (HSq9.out.below HK13.out (Nat.le_refl _))
    have HSt13 := Lib.hid (HSt9.out.below HK13.out (Nat.le_refl _))
    have HSu13 := Lib.hid (HSu9.out.below HK13.out (Nat.le_refl _))
    have HSw13 := Lib.hid (HSw9.out.below HK13.out (Nat.le_refl _))
    have HSd13 := Lib.hid (HSd.out.below HK13.out (Nat.le_refl _))
    have HB13 := Lib.hid (below_sq HB9.out HK13.out)
    have HBx := Lib.hid ((HK13.out.block bW hbWl).trans HW9.out.2.1)
    have HF : Hid (w1.heap.size ≤ w2.heap.size ∧ w2.heap.size ≤ w3.heap.size ∧ w3.heap.size ≤ w4.heap.size ∧ w4.heap.size ≤ w5.heap.size ∧ w5.heap.size ≤ w6.heap.size ∧ w6.heap.size ≤ w7.heap.size ∧ w7.heap.size ≤ w8.heap.size ∧ w8.heap.size = bW ∧ bW < w13.heap.size ∧ w0.heap.size ≤ w1.heap.size) := Lib.hid ⟨HCe.out.1, HCe.out.2.1, HCe.out.2.2.1, HCe.out.2.2.2.1, HCe.out.2.2.2.2.1, HCe.out.2.2.2.2.2.1, HCe.out.2.2.2.2.2.2, HBW.out.symm, Nat.lt_of_lt_of_le hbWl HK13.out.size, HB1.out.size⟩
    clear HCe HX9 HSp9 HSq9 HSt9 HSu9 HSw9 HSd HY9 HK10 HK11 HK12 HK13 e9 hbWl HW9 HB3 HB4 HB5 HB6 HB7 HB8 HB9 HB2
    go_wp2_with fail
    refine (grown2_walk w0.heap.size ap nw cp (joinL ps) aq cq aw cw (joinL ps) w13 (by omega) HB13.out.size HLp.out (HSp13.out.own.mono (by have := HF.out; omega)) HSq13.out.own.pieces HSw13.out.own.pieces (HSp13.out.away HSq13.out (.inr (by have := HF.out; omega))) (HSp13.out.away HSw13.out (.inr (by have := HF.out; omega)))).mono ?_
    rintro e w14 ⟨rfl, hb, hon⟩
    have HB14 := Lib.hid (HB13.out.trans hb)
    have HX14 := Lib.hid (HX13.out.only HSp13.out (by have := HF.out; omega) hon)
    have HSt14 := Lib.hid (HSt13.out.only HSp13.out (by have := HF.out; omega) hon)
    have HSu14 := Lib.hid (HSu13.out.only HSp13.out (by have := HF.out; omega) hon)
    have HSw14 := Lib.hid (HSw13.out.only HSp13.out (by have := HF.out; omega) hon)
    have HSd14 := Lib.hid (HSd13.out.only HSp13.out (by have := HF.out; omega) hon)
    have HBx14 := Lib.hid ((hon.2 bW (by have := HF.out; omega) (fun e => by have := HSp13.out.top bW e.symm; have := HF.out; omega)).trans HBx.out)
    have HG14 := Lib.hid hon.1
    clear hb hon e13 HX13 HSt13 HSu13 HSw13 HSd13 HBx HSp13 HSq13
    go_wp2_with fail
    refine (grown2_walk w0.heap.size at_ nd ct (turnL ps qs) au cu ad cd (turnL ps qs) w14 (by omega) HB14.out.size HLt.out (HSt14.out.own.mono (by have := HF.out; omega)) HSu14.out.own.pieces HSd14.out.own.pieces (HSt14.out.away HSu14.out (.inr (by have := HF.out; omega))) (HSt14.out.away HSd14.out (.inr (by have := HF.out; omega)))).mono ?_
    rintro e w15 ⟨rfl, hb, hon⟩
    have HB15 := Lib.hid (HB14.out.trans hb)
    have HX15 := Lib.hid (HX14.out.only HSt14.out (by have := HF.out; omega) hon)
    have HSw15 := Lib.hid (HSw14.out.only HSt14.out (by have := HF.out; omega) hon)
    have HBx15 := Lib.hid ((hon.2 bW (by have := HF.out; have := HG14.out; omega) (fun e => by have := HSt14.out.top bW e.symm; have := HF.out; omega)).trans HBx14.out)
    have HG15 := Lib.hid (Nat.le_trans HG14.out hon.1)
    clear hb hon HX14 HSw14 HBx14 HSt14 HSu14 HSd14
    go_wp2_with fail
    refine (Places_walk (some ⟨gx, 0, none⟩) n cx ps w15 HN.out (by omega) HX15.out.own.pieces.ahead (fun h => by cases h)).mono ?_
    rintro e w16 ⟨bP, aL, nL, cL, rfl, c0, hoL, hbP, hb⟩
    have HOL := Lib.hid hoL
    have hnL := hoL.len
    have HBx16 := Lib.hid ((hb.block bW (by have := HF.out; have := HG15.out; omega)).trans HBx15.out)
    have HB16 := Lib.hid (HB15.out.trans (hb.mono HB15.out.size))
    have HSw16 := Lib.hid (HSw15.out.below hb (Nat.le_refl _))
    have HBP := Lib.hid c0
    clear hoL hb c0 HX15 HSw15 HBx15
    have qF := fun (w : World) (cs : Array Value) => run_eql_func_nil (P := Try.prog) w 42 (.func 56) #[] cs _ _ _ Try.underlying42
    go_wp2
    have HAl := Lib.hid (And.intro ((Below.refl _ w16).alloc (Nat.le_refl _) (.cells #[.int .i64 0] 3)) (heap_alloc_new w16 (.cells #[.int .i64 0] 3)))
    refine wp_loop (fun A W => ∃ (r bR : Nat) (ds : List Deferred) (u17 u18 u19 u20 u89 u90 u91 u92 u93 u94 u95 u96 u97 u98 u99 u100 u101 u102 u103 u104 u105 u106 u107 u108 u109 u110 u111 u112 u113 u114 u115 u116 u117 u118 u119 u120 u121 u122 u123 u124 u125 u126 u127 u128 u129 u130 u131 u132 u133 u134 u135 u136 u137 u138 u139 u140 u141 u142 u143 u144 u145 u146 u147 u148 u149 u150 u151 u152 u153 u154 u155 u156 u157 u158 u159 u160 u161 : Value), A = { tmps := #[Value.slice a n c, Value.slice b n2 c2, Value.int IntKind.i64 most, undef, undef, Value.pointer (some { block := bM, off := 0 }), Value.pointer (some { block := bM + 1, off := 0 }), Value.slice (some { block := gx, off := 0 }) n cx, Value.slice (some { block := gy, off := 0 }) n2 cy, Value.slice ap nw cp, Value.slice aq nw cq, Value.slice at_ nd ct, Value.slice au nd cu, Value.pointer (some { block := bW, off := 0 }), Value.slice ad nd cd, Value.func (Fn.func 56) #[] #[Value.pointer (some { block := bP, off := 0 })], Value.pointer (some { block := bR, off := 0 }), u17, u18, u19, u20, Value.slice a n c, Value.int IntKind.i64 (n : Nat), Value.bool false, Value.bool false, Value.slice b n2 c2, Value.int IntKind.i64 (n2 : Nat), Value.bool false, Value.bool false, undef, Value.slice a n c, Value.slice (some { block := gx, off := 0 }) n cx, Value.slice b n2 c2, Value.slice (some { block := gy, off := 0 }) n2 cy, Value.slice (some { block := gx, off := 0 }) n cx, Value.slice ap nw cp, Value.slice (some { block := gx, off := 0 }) n cx, Value.slice aq nw cq, Value.slice (some { block := gx, off := 0 }) n cx, Value.slice (some { block := gy, off := 0 }) n2 cy, Value.slice at_ nd ct, Value.slice (some { block := gx, off := 0 }) n cx, Value.slice (some { block := gy, off := 0 }) n2 cy, Value.slice au nd cu, Value.slice a n c, Value.slice aw nw cw, Value.slice a n c, Value.slice b n2 c2, Value.slice ad nd cd, Value.slice ap nw cp, Value.slice aw nw cw, Value.bool true, Value.bool false, Value.bool false, Value.slice at_ nd ct, Value.slice ad nd cd, Value.bool true, Value.bool false, Value.bool false, Value.bool false, Value.slice (some { block := gx, off := 0 }) n cx, Value.slice a n c, Value.bool true, Value.bool false, Value.bool false, Value.bool false, Value.slice (some { block := gy, off := 0 }) n2 cy, Value.slice b n2 c2, Value.bool true, Value.bool false, Value.bool false, Value.bool false, Value.slice ap nw cp, Value.slice aq nw cq, Value.slice aw nw cw, Value.bool true, Value.bool false, Value.bool false, Value.bool false, Value.slice at_ nd ct, Value.slice au nd cu, Value.slice ad nd cd, Value.bool true, Value.bool false, Value.bool false, Value.slice (some { block := gx, off := 0 }) n cx, Value.func (Fn.func 56) #[] #[Value.pointer (some { block := bP, off := 0 })], Value.func (Fn.func 56) #[] #[Value.pointer (some { block := bP, off := 0 })], Value.bool false, u89, u90, u91, u92, u93, u94, u95, u96, u97, u98, u99, u100, u101, u102, u103, u104, u105, u106, u107, u108, u109, u110, u111, u112, u113, u114, u115, u116, u117, u118, u119, u120, u121, u122, u123, u124, u125, u126, u127, u128, u129, u130, u131, u132, u133, u134, u135, u136, u137, u138, u139, u140, u141, u142, u143, u144, u145, u146, u147, u148, u149, u150, u151, u152, u153, u154, u155, u156, u157, u158, u159, u160, u161, undef], defers := ds } ∧ JoR w16 r bR ds W) mJ ?st ?rd
    case st => exact ⟨0, w16.heap.size, [], _, _, _, _, _, _, _, _, _, _, _, _, _, _, _, _, _, _, _, _, _, _, _, _, _, _, _, _, _, _, _, _, _, _, _, _, _, _, _, _, _, _, _, _, _, _, _, _, _, _, _, _, _, _, _, _, _, _, _, _, _, _, _, _, _, _, _, _, _, _, _, _, _, _, _, _, _, rfl, Nat.zero_le _, Nat.le_refl _, HAl.out.1, HAl.out.2, [], rfl, List.nodup_nil, fun D hD => by cases hD⟩
    case rd =>
      rintro A W ⟨r, bR, ds, u17, u18, u19, u20, u89, u90, u91, u92, u93, u94, u95, u96, u97, u98, u99, u100, u101, u102, u103, u104, u105, u106, u107, u108, u109, u110, u111, u112, u113, u114, u115, u116, u117, u118, u119, u120, u121, u122, u123, u124, u125, u126, u127, u128, u129, u130, u131, u132, u133, u134, u135, u136, u137, u138, u139, u140, u141, u142, u143, u144, u145, u146, u147, u148, u149, u150, u151, u152, u153, u154, u155, u156, u157, u158, u159, u160, u161, rfl, hrel⟩
      obtain ⟨hr3, hbR, hbW, hcR, Ds, hds, hnd, hDs⟩ := hrel
      have HWb := Lib.hid hbW; clear hbW
      have HcR := Lib.hid hcR; clear hcR
      have HDs := Lib.hid (And.intro hds (And.intro hnd hDs)); clear hds hnd hDs
      have qR := cell_of_row W bR 0 _ _ (0, 0) HcR.out
      simp at qR
      have hbWl : bW < w16.heap.size := (Array.getElem?_eq_some_iff.1 HBx16.out).1
      have qW := cell_of_row W bW 0 _ _ (0, 0) ((HWb.out.block bW hbWl).trans HBx16.out)
      simp at qW
      have hbMl : bM < w0.heap.size := by rw [HW0.out.2.2.2]; omega
      have hMl : bM + 1 < w0.heap.size := by rw [HW0.out.2.2.2]; omega
      have h016 : w0.heap.size ≤ w16.heap.size := HB16.out.size
      have HBW := Lib.hid (HB16.out.trans (HWb.out.mono h016))
      have qM := cell_of_row W bM 0 _ _ (0, 0) ((HBW.out.block bM hbMl).trans HW0.out.2.1)
      simp at qM
      have HRs := Lib.hid ((HBW.out.block (bM + 1) hMl).trans HW0.out.2.2.1)
      have hPl : bP < w16.heap.size := World.block_lt_of_cell? w16 _ HBP.out
      have HPc := Lib.hid ((HWb.out.cell (p := ⟨bP, 0, none⟩) hPl).trans HBP.out)
      have HOw := Lib.hid (HOL.out.below HWb.out (Nat.le_refl _))
      have HSw := Lib.hid (HSw16.out.below HWb.out (Nat.le_refl _))
      refine joinR_walk rfl _ ds W bW bR bM bP aw nw cw r most (joinL ps) HLp.out (by omega) (joinL_ok ps).1 (fun p hp => ?wf) HSw.out.own.pieces qW qR qM hr3 ?sq _ _ _ _ _ _ _ _ _ _ _ _ _ _ _ _ _ _ _ _ _ _ _ _ _ _ _ _ _ _ _ _ _ _ _ _ _ _ _ _ _ _ _ _ _ _ _ _ _ _ _ _ _ _ _ _ _ _ _ _ _ _ _ _ _ _ _ _ _ _ _ _ _ _ _ _ _ _ _ _ _ _ _ _ _ _ _ _ _ _ _ _ _ _ _ _ _ _ _ _ _ _ _ _ _ _ _ _ _ _ _ _ _ _ _ _ _ _ _ _ _ _ _ _ _ _ _ _ _ _ _ _ _ _ _ _ _ _ _ _ _ _ _ _ _ _ _ _ _ _ _ _ _ _ _ _ _ _ ?ex ?nx
      case wf => exact join_within HWf.out hp
      case sq =>
        intro w' hb
        have hPl2 : bP < W.heap.size := World.block_lt_of_cell? W _ HPc.out
        refine places_stops (joinL ps) aL nL cL bP (fun k => k < W.heap.size) w' hnL (by have := HLp.out; omega) (HOw.out.below hb (Nat.le_refl _)).pieces (fun b' o' e => ?_) (joinL_ok ps).1 ((hb.cell (p := ⟨bP, 0, none⟩) hPl2).trans HPc.out) (fun p hp => join_within HWf.out hp)

        rcases HOw.out.form with ⟨h, -, -⟩ | ⟨g, h, -, hg⟩
        · rw [h] at e; cases e
        · rw [h] at e; cases e; exact hg
      case ex =>
        rintro h3 u89' u90'
        have hwl : w.heap.size ≤ w16.heap.size := Nat.le_trans HW0.out.1.size h016
        have hM16 : bM + 1 < w16.heap.size := Nat.lt_of_lt_of_le hMl h016
        have hM2 : bM + 1 < W.heap.size := Nat.lt_of_lt_of_le hM16 HWb.out.size
        have hMw : w.heap.size ≤ bM + 1 := by rw [HBM.out]; omega
        have HEnd := Lib.hid (HW0.out.1.trans (HBW.out.mono HW0.out.1.size))
        clear h3 qR qW qM
        go_wp2_with fail
        refine (awake_walk _).mono ?_
        rintro e w17 ⟨rfl, hb⟩
        have HR := Lib.hid ((hb.block (bM + 1) hM2).trans HRs.out)
        have q1 := cell_of_row w17 (bM + 1) 0 _ _ (0, 0) HR.out
        simp at q1
        have f1 := frozen_of_row w17 (bM + 1) 0 _ _ HR.out
        have q2 := World.cell?_setCell_same' w17 ⟨bM + 1, 0, none⟩ (.bool true) (by rw [q1]; rfl)
        have HE2 := Lib.hid (show Below w.heap.size w (w17.setCell ⟨bM + 1, 0, none⟩ (.bool true)) from (HEnd.out.trans (hb.mono HEnd.out.size)).setCell (p := ⟨bM + 1, 0, none⟩) hMw _)
        have HD2 := Lib.hid (fun (D : Nat) (hD : D ∈ Ds) => show w16.heap.size ≤ D ∧ (w17.setCell ⟨bM + 1, 0, none⟩ (.bool true)).heap[D]? = some (.deferred (some [])) from by
          obtain ⟨h1, h2, h3⟩ := HDs.out.2.2 D hD
          have hl := (Array.getElem?_eq_some_iff.1 h3).1
          refine ⟨h1, ?_⟩
          rw [heap_setCell_other w17 ⟨bM + 1, 0, none⟩ D _ (by simp; omega), hb.block D hl]
          exact h3)
        have HDz := Lib.hid HDs.out.1
        clear hb
        go_wp2
        rw [HDz.out]
        refine leaves_marks Ds _ HDs.out.2.1 HD2.out (fun w' hb' => ?_)
        have q3 : w'.cell? ⟨bM + 1, 0, none⟩ = some (.bool true) := (hb'.cell (p := ⟨bM + 1, 0, none⟩) hM16).trans q2
        refine leaves_nil (v := .bool true) (by simp [results, Try.results5, go_sem, q3]) ?_
        exact ⟨rfl, HE2.out.trans (hb'.mono hwl)⟩
      case nx =>
        rintro hr x17 x18 x19 x20 x89 x90 x91 x92 x93 x94 x95 x96 x97 x98 x99 x100 x101 x102 x103 x104 x105 x106 x107 x108 x109 x110 x111 x112 x113 x114 x115 x116 x117 x118 x119 x120 x121 x122 x123 x124 x125 x126 x127 x128 x129 x130 x131 x132 x133 x134 x135 x136 x137 x138 x139 x140 x141 x142 x143 x144 x145 x146 x147 x148 x149 x150 x151 x152 x153 x154 x155 x156 x157 x158 x159 x160 x161 bR' D W' hb hbR' hc' hD hne hDm
        have q' := cell_of_row W' bR' 0 _ _ (0, 0) hc'
        simp at q'
        show And _ _
        refine ⟨⟨r + 1, bR', _, _, _, _, _, _, _, _, _, _, _, _, _, _, _, _, _, _, _, _, _, _, _, _, _, _, _, _, _, _, _, _, _, _, _, _, _, _, _, _, _, _, _, _, _, _, _, _, _, _, _, _, _, _, _, _, _, _, _, _, _, _, _, _, _, _, _, _, _, _, _, _, _, _, _, _, _, _, rfl, hr, Nat.le_trans HWb.out.size hbR', below_sq HWb.out hb, hc', D :: Ds, by rw [HDs.out.1]; rfl, List.nodup_cons.2 ⟨fun hm => ?_, HDs.out.2.1⟩, fun E hE => ?_⟩, ?_⟩
        · have := (Array.getElem?_eq_some_iff.1 (HDs.out.2.2 D hm).2.2).1
          omega
        · rcases List.mem_cons.1 hE with rfl | hE
          · exact ⟨Nat.le_trans HWb.out.size hD, hne, hDm⟩
          · obtain ⟨h1, h2, h3⟩ := HDs.out.2.2 E hE
            have hl := (Array.getElem?_eq_some_iff.1 h3).1
            exact ⟨h1, by omega, (hb.block E hl).trans h3⟩
        · rw [mJ_of (b := bR') (r := r + 1) rfl (by simpa using q'), mJ_of (b := bR) (r := r) rfl (by simpa using qR)]
          omega
end Go.Proofs.Ytkcdcgijbaepmaa
