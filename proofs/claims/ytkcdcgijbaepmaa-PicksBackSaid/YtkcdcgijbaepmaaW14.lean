/-
  The walk of picks.may.
-/
import Derived.Test.YtkcdcgijbaepmaaW13
import Derived.Maps.Own
import Derived.Maps.OwnOps
import Derived.Maps.Views
set_option linter.unusedVariables false
namespace Go.Proofs.Ytkcdcgijbaepmaa
open Go.RowKit Go.Maps

theorem intLaw : Keyed Try.prog 3 := int_keyed Try.underlying3
theorem intZero (w : World) : (zeroValue 3).run Try.prog w = .ok (.int .i64 0) w := by kernel_rfl
/-- the map says 1 at what was met -/
def Met {H : Type} (D : DataW H) (os : List Int) : Prop := IsMap D ∧ ∀ z, D.atKey (.int .i64 z) (.lit (.int .i64 0)) = .lit (.int .i64 (if z ∈ os then 1 else 0))
theorem Met.nil {H : Type} : Met (H := H) (.map []) [] := ⟨isMap_empty, fun z => rfl⟩
theorem Met.put {H : Type} {D : DataW H} {os : List Int} (h : Met D os) (z : Int) (hz : WideAt.IsKeyLit (.int .i64 z)) : Met (D.put (.int .i64 z) (.lit (.int .i64 1))) (os ++ [z]) := by
  refine ⟨h.1.put _ _, fun y => ?_⟩
  by_cases e : y = z
  · subst e
    rw [atKey_put_same h.1 hz, if_pos (by simp)]
  · rw [atKey_put_other (by simpa using e), h.2 y]
    by_cases hy : y ∈ os
    · rw [if_pos hy, if_pos (by simp [hy])]
    · rw [if_neg hy, if_neg (by simp [hy, e])]
def MayR {H : Type} (w : World) (n : Nat) (os : List Int) (i : Value) (wr : World) : Prop :=
  ∃ (k : Nat) (D : DataW H), k ≤ n ∧ i = .int .i64 k ∧ OrdP (os.take k) ∧ Met D (os.take k) ∧ wr.ownsMap Try.prog 3 (plainElem (H := H) Try.prog 3) w.heap.size k D ∧ Below w.heap.size w wr
theorem take_snoc (os : List Int) (k : Nat) (h : k < os.length) : os.take (k + 1) = os.take k ++ [os[k]] := List.take_succ_eq_append_getElem h

set_option maxRecDepth 100000 in
set_option maxHeartbeats 2000000 in
theorem may_walk (a : Option Addr) (n c : Nat) (os : List Int) (w : World) (hn : os.length = n) (hlt : n ≤ 65536) (hc : Ints .i64 w a os) :
    Calls Try.prog 39 #[.slice a n c] w fun e w' => e = .returned (.bool (orderB os)) ∧ Below w.heap.size w w' := by
  have HN := Lib.hid hn; clear hn
  have HC := Lib.hid hc; clear hc
  have hmm := @run_makeMap Try.prog
  go_enter Try.func39, Try.ntmps39
  go_wp2
  go_loopw [9] (MayR (H := Unit) w n os) (fun i _ => n - (intOf i).toNat)
  case atStart => exact ⟨0, _, Nat.zero_le _, rfl, ord_nil os, Met.nil, World.ownsMap_made _ _ _ _, (Below.refl _ _).alloc (Nat.le_refl _) _⟩
  case round =>
    obtain ⟨k, D, hk, rfl, hord, hmet, hown, hbel⟩ := hrel
    have HO := Lib.hid hord; clear hord
    have HM := Lib.hid hmet; clear hmet
    have HW := Lib.hid hown; clear hown
    have HB := Lib.hid hbel; clear hbel
    clear hmm
    by_cases hkn : k < n
    · have hk1 : k < os.length := by rw [HN.out]; exact hkn
      obtain ⟨b, o, ha⟩ := HC.out.some (by omega)
      subst ha
      have cz := (HC.out.below HB.out (Nat.le_refl _)).get k hk1
      have HRg := Lib.hid (fun h => ord_range hk1 h)
      have HTw : Hid (os[k] ∈ os.take k → orderB os = false) := Lib.hid (fun h => by
        obtain ⟨j, hj, e⟩ := List.mem_iff_getElem.1 h
        rw [List.length_take] at hj
        rw [List.getElem_take] at e
        exact ord_twice (show j < k by omega) hk1 e)
      have HSt : Hid (0 ≤ os[k] → os[k] ≤ 1048576 → os[k] ∉ os.take k → OrdP (os.take (k + 1))) := Lib.hid (fun h0 h1 hnn => ord_step HO.out hk1 h0 h1 (fun j hj hl e => hnn (by
        rw [← e]
        exact List.mem_iff_getElem.2 ⟨j, by rw [List.length_take]; omega, List.getElem_take⟩)))
      have HTk := Lib.hid (take_snoc os k hk1)
      generalize os[k] = z at *
      have hki : (k : Int) < (n : Int) := by omega
      by_cases h0 : z < 0
      · have HR := Lib.hid (HRg.out (.inl h0))
        go_wp2
        go_ret
        exact ⟨by rw [HR.out]; rfl, HB.out⟩
      · by_cases h1 : (1048576 : Int) < z
        · have HR := Lib.hid (HRg.out (.inr h1))
          go_wp2
          go_ret
          exact ⟨by rw [HR.out]; rfl, HB.out⟩
        · have hwf : (Lit.int .i64 z).wf = true := WalkArith.wf_i64 (by omega)
          have HKey := Lib.hid (keyOf_int_mk Try.underlying3 hwf)
          clear hwf
          by_cases hin : z ∈ os.take k
          · have HR := Lib.hid (HTw.out hin)
            have HAt := Lib.hid (HM.out.2 z)
            rw [if_pos hin] at HAt
            clear hin
            obtain ⟨c9, hrun, hat, _⟩ := HW.out.lookup_int intLaw Try.underlying71 Try.underlying3 (intZero _) HKey.out
            obtain rfl : c9 = 1 := by have := HAt.out.symm.trans hat; simpa using this.symm
            clear hat
            go_wp2
            go_ret
            exact ⟨by rw [HR.out]; rfl, HB.out⟩
          · have HS2 := Lib.hid (HSt.out (by omega) (by omega) hin)
            have HAt := Lib.hid (HM.out.2 z)
            rw [if_neg hin] at HAt
            clear hin
            obtain ⟨c9, hrun, hat, _⟩ := HW.out.lookup_int intLaw Try.underlying71 Try.underlying3 (intZero _) HKey.out
            obtain rfl : c9 = 0 := by have := HAt.out.symm.trans hat; simpa using this.symm
            clear hat
            go_wp2_with (at_mapUpdate; refine wpList_mapUpdate_own _ rfl _ _ _ 71 rfl 3 3 intLaw Try.underlying71 _ w.heap.size k _ rfl HW.out (by unfold maxLen; omega) _ _ _ rfl rfl HKey.out _ [] (plainElem_int Try.underlying3 (WalkArith.wf_i64 (by omega))) ?_; intro w1 hown1 hgrow1)
            have HW1 := Lib.hid hown1
            have HB1 := Lib.hid (HB.out.grown hgrow1 HB.out.size (fun j hj => by cases hj; exact Nat.le_refl _))
            have HM1 := Lib.hid (HM.out.put z trivial)
            rw [← HTk.out] at HM1
            clear hown1 hgrow1
            go_wp2
            go_roundw
            case rel => exact ⟨k + 1, _, by omega, by go_num, HS2.out, HM1.out, HW1.out, HB1.out⟩
            case measure => simp [intOf]; omega
    · have HR : Hid (orderB os = true) := Lib.hid (decide_eq_true (by
        have := HO.out
        rwa [List.take_of_length_le (by have := HN.out; omega)] at this))
      go_wp2
      go_ret
      exact ⟨by rw [HR.out]; rfl, HB.out⟩
end Go.Proofs.Ytkcdcgijbaepmaa
