/-
  The document's line: the next stop, the stop before.
-/
import Derived.Test.YtnnfhldfdiaddaaX3
import Derived.Deep.QuietTactic
import Derived.BigQuiet
set_option linter.unusedVariables false
namespace Go.Proofs.Ytnnfhldfdiaddaa
open Go.RowKit

/-- r is the first stop behind a -/
def IsNext (lv : List Int) (a r : Nat) : Prop := a < r ∧ r ≤ lv.length ∧ (r = lv.length ∨ lv.getD r 0 ≠ -1) ∧ ∀ j, a < j → j < r → lv.getD j 0 = -1
theorem IsNext.uniq {lv : List Int} {a r s : Nat} (h : IsNext lv a r) (k : IsNext lv a s) : r = s := by
  obtain ⟨h1, h2, h3, h4⟩ := h
  obtain ⟨k1, k2, k3, k4⟩ := k
  rcases Nat.lt_trichotomy r s with hlt | e | hlt
  · rcases h3 with e | e
    · omega
    · exact absurd (k4 r h1 hlt) e
  · exact e
  · rcases k3 with e | e
    · omega
    · exact absurd (h4 s k1 hlt) e
/-- r is the last stop ahead of a -/
def IsBack (lv : List Int) (a r : Nat) : Prop := r < a ∧ (r = 0 ∨ lv.getD r 0 ≠ -1) ∧ ∀ j, r < j → j < a → lv.getD j 0 = -1
theorem IsBack.uniq {lv : List Int} {a r s : Nat} (h : IsBack lv a r) (k : IsBack lv a s) : r = s := by
  obtain ⟨h1, h3, h4⟩ := h
  obtain ⟨k1, k3, k4⟩ := k
  rcases Nat.lt_trichotomy r s with hlt | e | hlt
  · rcases k3 with e | e
    · omega
    · exact absurd (h4 s hlt k1) e
  · exact e
  · rcases h3 with e | e
    · omega
    · exact absurd (k4 r hlt h1) e
def StepPost (P : Nat → Prop) (w : World) (e : Ending) (w' : World) : Prop := ∃ r : Nat, e = .returned (.tuple #[.int .i64 r, .bool true]) ∧ P r ∧ Below w.heap.size w w'

theorem rNext_no (g : Nat) (base : Int) (lv ws : List Int) (a : Int) (w : World) (h : IsRef w g base lv ws) (ha : a < 0 ∨ (lv.length : Int) ≤ a) :
    Calls Try.prog 45 #[.pointer (some ⟨g, 0, none⟩), .int .i64 a] w fun e w' => e = .returned (.tuple #[.int .i64 0, .bool false]) ∧ w = w' := by
  obtain ⟨aL, cL, aW, cW, aO, cO, aA, cA, hb, i1, i2, i3, i4⟩ := h.mem
  have k1 := cell_of_row w g 1 _ _ (0, 0) hb
  simp at k1
  clear hb i1 i2 i3 i4 h
  by_cases h1 : a < 0
  · clear ha
    go_enter Try.func45, Try.ntmps45
    go_wp2
    go_ret2
    exact ⟨rfl, rfl⟩
  · have h2 : (lv.length : Int) ≤ a := by omega
    clear ha
    go_enter Try.func45, Try.ntmps45
    go_wp2
    go_ret2
    exact ⟨rfl, rfl⟩
theorem rBack_no (g : Nat) (base : Int) (lv ws : List Int) (a : Int) (w : World) (h : IsRef w g base lv ws) (ha : a < 1 ∨ (lv.length : Int) < a) :
    Calls Try.prog 46 #[.pointer (some ⟨g, 0, none⟩), .int .i64 a] w fun e w' => e = .returned (.tuple #[.int .i64 0, .bool false]) ∧ w = w' := by
  obtain ⟨aL, cL, aW, cW, aO, cO, aA, cA, hb, i1, i2, i3, i4⟩ := h.mem
  have k1 := cell_of_row w g 1 _ _ (0, 0) hb
  simp at k1
  clear hb i1 i2 i3 i4 h
  by_cases h1 : a < 1
  · clear ha
    go_enter Try.func46, Try.ntmps46
    go_wp2
    go_ret2
    exact ⟨rfl, rfl⟩
  · have h2 : (lv.length : Int) < a := by omega
    clear ha
    go_enter Try.func46, Try.ntmps46
    go_wp2
    go_ret2
    exact ⟨rfl, rfl⟩

theorem stopR_at (g : Nat) (base : Int) (lv ws : List Int) (z : Int) (i : Nat) (hz : z = (i : Int)) (w : World) (h : IsRef w g base lv ws) (hi : i ≤ lv.length) :
    Calls Try.prog 54 #[.pointer (some ⟨g, 0, none⟩), .int .i64 z] w fun e w' => e = .returned (.bool (stopP lv i)) ∧ w = w' := by
  subst hz
  exact stopR_walk g base lv ws i w h hi
theorem stop_yes {lv : List Int} {i : Nat} (h : stopP lv i = true) (hi : i ≤ lv.length) : i = 0 ∨ i = lv.length ∨ lv.getD i 0 ≠ -1 := by
  have := of_decide_eq_true h
  omega
theorem stop_no {lv : List Int} (hok : okL lv = true) {i : Nat} (h : stopP lv i = false) (hi : i ≤ lv.length) : i ≠ 0 ∧ i < lv.length ∧ lv.getD i 0 = -1 := by
  have h2 := of_decide_eq_false h
  have hl : i < lv.length := by omega
  have := okL_get lv hok i hl
  have hg : lv.getD i 0 = lv[i] := by simp [hl]
  exact ⟨by omega, hl, by omega⟩
def NextLoop (lv : List Int) (a : Nat) (v : Value) : Prop := ∃ k : Nat, a ≤ k ∧ k < lv.length ∧ v = .int .i64 k ∧ ∀ j, a < j → j ≤ k → lv.getD j 0 = -1
def BackLoop (lv : List Int) (a : Nat) (v : Value) : Prop := ∃ k : Nat, 1 ≤ k ∧ k ≤ a ∧ v = .int .i64 k ∧ ∀ j, k ≤ j → j < a → lv.getD j 0 = -1

theorem rNext_walk (g : Nat) (base : Int) (lv ws : List Int) (a : Nat) (w : World) (h : IsRef w g base lv ws) (ha : a < lv.length) :
    Calls Try.prog 45 #[.pointer (some ⟨g, 0, none⟩), .int .i64 a] w (StepPost (IsNext lv a) w) := by
  have HH := Lib.hid h
  have HK := Lib.hid h.ok.ok
  have hlen := h.ok.len
  obtain ⟨aL, cL, aW, cW, aO, cO, aA, cA, hb, i1, i2, i3, i4⟩ := h.mem
  have k1 := cell_of_row w g 1 _ _ (0, 0) hb
  simp at k1
  have hd0 : decide ((a : Int) < 0) = false := decide_eq_false (by omega)
  have hd1 : decide (lv.length ≤ a) = false := decide_eq_false (by omega)
  clear hb i1 i2 i3 i4 h
  go_enter Try.func45, Try.ntmps45
  go_wp2
  go_loop [1] (NextLoop lv a) (fun v => lv.length - (intOf v).toNat)
  case atStart => exact ⟨a, Nat.le_refl _, ha, rfl, fun j h1 h2 => by omega⟩
  case round =>
    obtain ⟨k, hk, hkl, rfl, hgone⟩ := hrel
    have HG := Lib.hid hgone; clear hgone
    go_wp2_with fail
    refine (stopR_at g base lv ws _ (k + 1) (by simp) _ HH.out (by omega)).mono ?_
    rintro e w' ⟨rfl, rfl⟩
    cases hs : stopP lv (k + 1) with
    | true =>
      have HS := Lib.hid (stop_yes hs (by omega)); clear hs
      go_wp2
      go_ret2
      refine ⟨k + 1, by simp, ⟨by omega, by omega, by have := HS.out; omega, fun j h1 h2 => HG.out j h1 (by omega)⟩, Below.refl _ _⟩
    | false =>
      have HS := Lib.hid (stop_no HK.out hs (by omega)); clear hs
      go_wp2
      go_round
      case rel =>
        have := HS.out
        refine ⟨k + 1, by omega, by omega, by go_num, fun j h1 h2 => ?_⟩
        by_cases e : j = k + 1
        · rw [e]; exact this.2.2
        · exact HG.out j h1 (by omega)
      case measure => simp [intOf]; omega
theorem rBack_walk (g : Nat) (base : Int) (lv ws : List Int) (a : Nat) (w : World) (h : IsRef w g base lv ws) (h1a : 1 ≤ a) (ha : a ≤ lv.length) :
    Calls Try.prog 46 #[.pointer (some ⟨g, 0, none⟩), .int .i64 a] w (StepPost (IsBack lv a) w) := by
  have HH := Lib.hid h
  have HK := Lib.hid h.ok.ok
  have hlen := h.ok.len
  obtain ⟨aL, cL, aW, cW, aO, cO, aA, cA, hb, i1, i2, i3, i4⟩ := h.mem
  have k1 := cell_of_row w g 1 _ _ (0, 0) hb
  simp at k1
  have hd0 : decide ((a : Int) < 1) = false := decide_eq_false (by omega)
  have hd1 : decide (lv.length < a) = false := decide_eq_false (by omega)
  clear hb i1 i2 i3 i4 h
  go_enter Try.func46, Try.ntmps46
  go_wp2
  go_loop [1] (BackLoop lv a) (fun v => (intOf v).toNat)
  case atStart => exact ⟨a, h1a, Nat.le_refl _, rfl, fun j h1 h2 => by omega⟩
  case round =>
    obtain ⟨k, hk, hkl, rfl, hgone⟩ := hrel
    have HG := Lib.hid hgone; clear hgone
    have hk2 : ((k : Int) - 1) = ((k - 1 : Nat) : Int) := by omega
    have HK2 := Lib.hid hk2; clear hk2
    go_wp2_with fail
    refine (stopR_at g base lv ws _ (k - 1) HK2.out _ HH.out (by omega)).mono ?_
    rintro e w' ⟨rfl, rfl⟩
    cases hs : stopP lv (k - 1) with
    | true =>
      have HS := Lib.hid (stop_yes hs (by omega)); clear hs
      go_wp2
      go_ret2
      refine ⟨k - 1, by rw [HK2.out]; rfl, ⟨by omega, by have := HS.out; omega, fun j h1 h2 => HG.out j (by omega) (by omega)⟩, Below.refl _ _⟩
    | false =>
      have HS := Lib.hid (stop_no HK.out hs (by omega)); clear hs
      go_wp2
      go_round
      case rel =>
        have := HS.out
        refine ⟨k - 1, by omega, by omega, by rw [HK2.out], fun j h1 h2 => ?_⟩
        by_cases e : j = k - 1
        · rw [e]; exact this.2.2
        · exact HG.out j (by omega) h2
      case measure => simp [intOf]; omega
end Go.Proofs.Ytnnfhldfdiaddaa
