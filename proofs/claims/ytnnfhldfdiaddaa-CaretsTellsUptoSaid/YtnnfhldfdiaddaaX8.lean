/-
  The program's line: the next stop, the stop before; carets of no place.
-/
import Derived.Test.YtnnfhldfdiaddaaX4
import Derived.Test.YtnnfhldfdiaddaaL5
set_option linter.unusedVariables false
namespace Go.Proofs.Ytnnfhldfdiaddaa
open Go.RowKit

theorem Next_no (g : Nat) (base : Int) (lv ws : List Int) (a : Int) (w : World) (h : IsLine w g base lv ws) (ha : a < 0 ∨ (lv.length : Int) ≤ a) :
    Calls Try.prog 27 #[.pointer (some ⟨g, 0, none⟩), .int .i64 a] w fun e w' => e = .returned (.tuple #[.int .i64 0, .bool false]) ∧ w = w' := by
  obtain ⟨n, m, aL, cL, aO, cO, aA, cA, bC, oC, cC, hn, hm, hM, hmn, hn2, iL, iO, iA, iC⟩ := h.open
  have HH := Lib.hid h; clear h
  have k1 := hM.k1
  rw [hn.out] at ha
  by_cases h1 : a < 0
  · clear ha
    go_enter Try.func27, Try.ntmps27
    go_wp2_with fail
    refine (none_walk g base lv ws _ HH.out).mono ?_
    rintro e w' ⟨rfl, rfl⟩
    go_wp2
    go_ret2
    exact ⟨rfl, rfl⟩
  · have h2 : (n : Int) ≤ a := by omega
    clear ha
    go_enter Try.func27, Try.ntmps27
    go_wp2_with fail
    refine (none_walk g base lv ws _ HH.out).mono ?_
    rintro e w' ⟨rfl, rfl⟩
    go_wp2
    go_ret2
    exact ⟨rfl, rfl⟩
theorem Back_no (g : Nat) (base : Int) (lv ws : List Int) (a : Int) (w : World) (h : IsLine w g base lv ws) (ha : a < 1 ∨ (lv.length : Int) < a) :
    Calls Try.prog 28 #[.pointer (some ⟨g, 0, none⟩), .int .i64 a] w fun e w' => e = .returned (.tuple #[.int .i64 0, .bool false]) ∧ w = w' := by
  obtain ⟨n, m, aL, cL, aO, cO, aA, cA, bC, oC, cC, hn, hm, hM, hmn, hn2, iL, iO, iA, iC⟩ := h.open
  have HH := Lib.hid h; clear h
  have k1 := hM.k1
  rw [hn.out] at ha
  by_cases h1 : a < 1
  · clear ha
    go_enter Try.func28, Try.ntmps28
    go_wp2_with fail
    refine (none_walk g base lv ws _ HH.out).mono ?_
    rintro e w' ⟨rfl, rfl⟩
    go_wp2
    go_ret2
    exact ⟨rfl, rfl⟩
  · have h2 : (n : Int) < a := by omega
    clear ha
    go_enter Try.func28, Try.ntmps28
    go_wp2_with fail
    refine (none_walk g base lv ws _ HH.out).mono ?_
    rintro e w' ⟨rfl, rfl⟩
    go_wp2
    go_ret2
    exact ⟨rfl, rfl⟩

def NextL (lv : List Int) (a n : Nat) (v : Value) : Prop := ∃ k : Nat, a < k ∧ k ≤ n ∧ v = .int .i64 k ∧ ∀ j, a < j → j < k → lv.getD j 0 = -1
def BackL (lv : List Int) (a : Nat) (v : Value) : Prop := ∃ k : Nat, k < a ∧ v = .int .i64 k ∧ ∀ j, k < j → j < a → lv.getD j 0 = -1
set_option maxHeartbeats 1000000 in
theorem Next_walk (g : Nat) (base : Int) (lv ws : List Int) (a : Nat) (w : World) (h : IsLine w g base lv ws) (ha : a < lv.length) :
    Calls Try.prog 27 #[.pointer (some ⟨g, 0, none⟩), .int .i64 a] w (StepPost (IsNext lv a) w) := by
  obtain ⟨n, m, aL, cL, aO, cO, aA, cA, bC, oC, cC, hn, hm, hM, hmn, hn2, iL, iO, iA, iC⟩ := h.open
  have HH := Lib.hid h; clear h
  have k1 := hM.k1
  have k3 := hM.k3
  rw [hn.out] at ha
  go_enter Try.func27, Try.ntmps27
  go_wp2_with fail
  refine (none_walk g base lv ws _ HH.out).mono ?_
  rintro e w' ⟨rfl, rfl⟩
  go_wp2
  go_loop [1] (NextL lv a n) (fun v => n - (intOf v).toNat)
  case atStart => exact ⟨a + 1, by omega, by omega, by go_num, fun j h1 h2 => by omega⟩
  case round =>
    obtain ⟨k, hk, hkn, rfl, hgone⟩ := hrel
    have HG := Lib.hid hgone; clear hgone
    by_cases hlt : k < n
    · have hkl : k < lv.length := by rw [hn.out]; exact hlt
      have hp := place_at lv k hkl
      obtain ⟨bA, oA, ha⟩ := iA.out.some (by rw [placesL_length]; omega)
      subst ha
      have c3 := iA.out.get k (by rw [placesL_length]; exact hkl)
      generalize (placesL lv)[k]'(by rw [placesL_length]; exact hkl) = y at *
      rcases hp with ⟨h1, h2⟩ | ⟨h1, h2, h3⟩
      · have HG2 : Hid (∀ j, a < j → j < k + 1 → lv.getD j 0 = -1) := by
          refine Lib.hid (fun j hj1 hj2 => ?_)
          by_cases e : j = k
          · rw [e]; exact h1
          · exact HG.out j hj1 (by omega)
        subst h2
        clear h1
        go_wp2
        go_round
        case rel => exact ⟨k + 1, by omega, by omega, by go_num, HG2.out⟩
        case measure => simp [intOf]; omega
      · have HR : Hid (IsNext lv a k) := Lib.hid ⟨hk, by omega, .inr h1, HG.out⟩
        clear h1 h3
        go_wp2
        go_ret2
        exact ⟨k, rfl, HR.out, Below.refl _ _⟩
    · obtain rfl : k = n := by omega
      have HR : Hid (IsNext lv a k) := Lib.hid ⟨hk, by rw [hn.out]; exact Nat.le_refl _, .inl hn.out.symm, HG.out⟩
      go_wp2
      go_ret2
      exact ⟨k, rfl, HR.out, Below.refl _ _⟩
set_option maxHeartbeats 1000000 in
theorem Back_walk (g : Nat) (base : Int) (lv ws : List Int) (a : Nat) (w : World) (h : IsLine w g base lv ws) (h1a : 1 ≤ a) (ha : a ≤ lv.length) :
    Calls Try.prog 28 #[.pointer (some ⟨g, 0, none⟩), .int .i64 a] w (StepPost (IsBack lv a) w) := by
  obtain ⟨n, m, aL, cL, aO, cO, aA, cA, bC, oC, cC, hn, hm, hM, hmn, hn2, iL, iO, iA, iC⟩ := h.open
  have HH := Lib.hid h; clear h
  have k1 := hM.k1
  have k3 := hM.k3
  rw [hn.out] at ha
  go_enter Try.func28, Try.ntmps28
  go_wp2_with fail
  refine (none_walk g base lv ws _ HH.out).mono ?_
  rintro e w' ⟨rfl, rfl⟩
  go_wp2
  go_loop [1] (BackL lv a) (fun v => (intOf v).toNat)
  case atStart => exact ⟨a - 1, by omega, by rw [show ((a - 1 : Nat) : Int) = (a : Int) - 1 by omega], fun j h1 h2 => by omega⟩
  case round =>
    obtain ⟨k, hk, rfl, hgone⟩ := hrel
    have HG := Lib.hid hgone; clear hgone
    by_cases hlt : 0 < k
    · have hkl : k < lv.length := by rw [hn.out]; omega
      have hkn : k < n := by omega
      have hp := place_at lv k hkl
      obtain ⟨bA, oA, ha⟩ := iA.out.some (by rw [placesL_length]; omega)
      subst ha
      have c3 := iA.out.get k (by rw [placesL_length]; exact hkl)
      generalize (placesL lv)[k]'(by rw [placesL_length]; exact hkl) = y at *
      rcases hp with ⟨h1, h2⟩ | ⟨h1, h2, h3⟩
      · have HG2 : Hid (∀ j, k - 1 < j → j < a → lv.getD j 0 = -1) := by
          refine Lib.hid (fun j hj1 hj2 => ?_)
          by_cases e : j = k
          · rw [e]; exact h1
          · exact HG.out j (by omega) hj2
        subst h2
        have HK := Lib.hid (show ((k : Int) - 1) = ((k - 1 : Nat) : Int) by omega)
        clear h1
        go_wp2
        go_round
        case rel => exact ⟨k - 1, by omega, by rw [HK.out], HG2.out⟩
        case measure => simp [intOf]; omega
      · have HR : Hid (IsBack lv a k) := Lib.hid ⟨hk, .inr h1, HG.out⟩
        clear h1 h3
        go_wp2
        go_ret2
        exact ⟨k, rfl, HR.out, Below.refl _ _⟩
    · obtain rfl : k = 0 := by omega
      have HR : Hid (IsBack lv a 0) := Lib.hid ⟨hk, .inl rfl, HG.out⟩
      go_wp2
      go_ret2
      exact ⟨0, rfl, HR.out, Below.refl _ _⟩

def noCaret : Value := .tuple #[.agg #[.int .i64 0, .int .i64 0, .int .i64 0, .int .i64 0, .bool false], .int .i64 250]
theorem Caret_no (g : Nat) (base : Int) (lv ws : List Int) (a : Int) (w : World) (h : IsLine w g base lv ws) (ha : a < 0 ∨ (lv.length : Int) < a) :
    Calls Try.prog 15 #[.pointer (some ⟨g, 0, none⟩), .int .i64 a] w fun e w' => e = .returned noCaret ∧ Below w.heap.size w w' := by
  obtain ⟨n, m, aL, cL, aO, cO, aA, cA, bC, oC, cC, hn, hm, hM, hmn, hn2, iL, iO, iA, iC⟩ := h.open
  have HH := Lib.hid h
  have hgl := h.lt
  clear h
  have k1 := hM.k1
  rw [hn.out] at ha
  by_cases h1 : a < 0
  · clear ha
    go_enter Try.func15, Try.ntmps15
    go_wp2_with fail
    refine (none_walk g base lv ws _ (HH.out.below ((Below.refl _ w).alloc (Nat.le_refl _) _) (Nat.le_refl _))).mono ?_
    rintro e w' ⟨rfl, rfl⟩
    go_wp2
    exact bodyPost_ret (v := noCaret) (by simp [noCaret, results, Try.results15, go_sem]) rfl ⟨rfl, by go_grown⟩
  · have h2 : (n : Int) < a := by omega
    clear ha
    go_enter Try.func15, Try.ntmps15
    go_wp2_with fail
    refine (none_walk g base lv ws _ (HH.out.below ((Below.refl _ w).alloc (Nat.le_refl _) _) (Nat.le_refl _))).mono ?_
    rintro e w' ⟨rfl, rfl⟩
    go_wp2
    exact bodyPost_ret (v := noCaret) (by simp [noCaret, results, Try.results15, go_sem]) rfl ⟨rfl, by go_grown⟩
theorem rCaret_no (g : Nat) (base : Int) (lv ws : List Int) (a : Int) (w : World) (h : IsRef w g base lv ws) (ha : a < 0 ∨ (lv.length : Int) < a) :
    Calls Try.prog 41 #[.pointer (some ⟨g, 0, none⟩), .int .i64 a] w fun e w' => e = .returned noCaret ∧ Below w.heap.size w w' := by
  have hgl := h.lt
  obtain ⟨aL, cL, aW, cW, aO, cO, aA, cA, hb, i1, i2, i3, i4⟩ := h.mem
  have k1 := cell_of_row w g 1 _ _ (0, 0) hb
  simp at k1
  clear hb i1 i2 i3 i4 h
  by_cases h1 : a < 0
  · clear ha
    go_enter Try.func41, Try.ntmps41
    go_wp2
    exact bodyPost_ret (v := noCaret) (by simp [noCaret, results, Try.results41, go_sem]) rfl ⟨rfl, by go_grown⟩
  · have h2 : (lv.length : Int) < a := by omega
    clear ha
    go_enter Try.func41, Try.ntmps41
    go_wp2
    exact bodyPost_ret (v := noCaret) (by simp [noCaret, results, Try.results41, go_sem]) rfl ⟨rfl, by go_grown⟩
end Go.Proofs.Ytnnfhldfdiaddaa
