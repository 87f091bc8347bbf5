/-
  The document's line: where a character ends, where Next and Back stop.
-/
import Derived.Test.YtnnfhldfdiaddaaX2
set_option linter.unusedVariables false
namespace Go.Proofs.Ytnnfhldfdiaddaa
open Go.RowKit

theorem endR_walk (g : Nat) (base : Int) (lv ws : List Int) (i : Nat) (w : World) (h : IsRef w g base lv ws) (hi : i < lv.length) (h0 : 0 ≤ lv[i] ∧ lv[i] ≤ 126) (hp : 0 ≤ (placesL lv).getD i 0 ∧ (placesL lv).getD i 0 ≤ 1048576) :
    Calls Try.prog 52 #[.pointer (some ⟨g, 0, none⟩), .int .i64 i] w fun e w' => e = .returned (.int .i64 ((placesL lv).getD i 0 + 1 - lv[i] % 2)) ∧ w = w' := by
  obtain ⟨aL, cL, aW, cW, aO, cO, aA, cA, hb, i1, i2, i3, i4⟩ := h.mem
  have k1 := cell_of_row w g 1 _ _ (0, 0) hb
  have k4 := cell_of_row w g 4 _ _ (0, 0) hb
  simp at k1 k4
  obtain ⟨bL, oL, ha⟩ := i1.some (by omega)
  subst ha
  obtain ⟨bA, oA, ha⟩ := i4.some (by rw [placesL_length]; omega)
  subst ha
  have c1 := i1.get i hi
  have c4 := i4.get i (by rw [placesL_length]; exact hi)
  rw [show (placesL lv)[i]'(by rw [placesL_length]; exact hi) = (placesL lv).getD i 0 by simp [placesL_length, hi]] at c4
  generalize (placesL lv).getD i 0 = p at *
  have htm : lv[i].tmod 2 = lv[i] % 2 := Int.tmod_eq_emod_of_nonneg h0.1
  generalize lv[i] = z at *
  clear hb i1 i2 i3 i4 h
  by_cases h1 : z % 2 = 1
  · rw [h1] at htm ⊢
    clear h1
    go_enter Try.func52, Try.ntmps52
    go_wp2
    go_ret
    exact ⟨by simp, rfl⟩
  · have h2 : z % 2 = 0 := by omega
    rw [h2] at htm ⊢
    clear h1 h2
    go_enter Try.func52, Try.ntmps52
    go_wp2
    go_ret
    exact ⟨by simp, rfl⟩

def stopP (lv : List Int) (i : Nat) : Bool := decide (i = 0 ∨ i = lv.length ∨ 0 ≤ lv.getD i 0)
theorem stopR_walk (g : Nat) (base : Int) (lv ws : List Int) (i : Nat) (w : World) (h : IsRef w g base lv ws) (hi : i ≤ lv.length) :
    Calls Try.prog 54 #[.pointer (some ⟨g, 0, none⟩), .int .i64 i] w fun e w' => e = .returned (.bool (stopP lv i)) ∧ w = w' := by
  obtain ⟨aL, cL, aW, cW, aO, cO, aA, cA, hb, i1, i2, i3, i4⟩ := h.mem
  have k1 := cell_of_row w g 1 _ _ (0, 0) hb
  simp at k1
  clear hb i2 i3 i4 h
  by_cases h0 : i = 0
  · have HD := Lib.hid (show stopP lv i = true from decide_eq_true (.inl h0))
    have hb0 : ((i : Int) == 0) = true := by simpa using h0
    clear h0
    go_enter Try.func54, Try.ntmps54
    go_wp2
    go_ret
    exact ⟨by rw [HD.out]; rfl, rfl⟩
  · have hb0 : ((i : Int) == 0) = false := by simpa using h0
    by_cases h1 : i = lv.length
    · have HD := Lib.hid (show stopP lv i = true from decide_eq_true (.inr (.inl h1)))
      have hb1 : ((i : Int) == (lv.length : Int)) = true := by simp [h1]
      clear h0 h1
      go_enter Try.func54, Try.ntmps54
      go_wp2
      go_ret
      exact ⟨by rw [HD.out]; rfl, rfl⟩
    · have hil : i < lv.length := by omega
      have hb1 : ((i : Int) == (lv.length : Int)) = false := by simp; omega
      obtain ⟨bL, oL, ha⟩ := i1.some (by omega)
      subst ha
      have c1 := i1.get i hil
      have hg : lv.getD i 0 = lv[i] := by simp [hil]
      by_cases h2 : 0 ≤ lv[i]
      · have HD := Lib.hid (show stopP lv i = true from decide_eq_true (.inr (.inr (by rw [hg]; exact h2))))
        clear h0 h1 i1 hg
        generalize lv[i] = z at *
        go_enter Try.func54, Try.ntmps54
        go_wp2
        go_ret
        exact ⟨by rw [HD.out]; rfl, rfl⟩
      · have HD := Lib.hid (show stopP lv i = false from decide_eq_false (by rw [hg]; omega))
        clear h0 h1 i1 hg
        generalize lv[i] = z at *
        go_enter Try.func54, Try.ntmps54
        go_wp2
        go_ret
        exact ⟨by rw [HD.out]; rfl, rfl⟩
end Go.Proofs.Ytnnfhldfdiaddaa
