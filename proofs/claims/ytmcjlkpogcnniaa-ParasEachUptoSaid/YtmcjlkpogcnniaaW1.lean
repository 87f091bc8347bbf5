/-
  Walks: what begins an isolate; a class and a number as they are asked.
-/
import Derived.Test.YtmcjlkpogcnniaaBase3
import Derived.Test.YtmcjlkpogcnniaaP2
import Derived.Test.YtmcjlkpogcnniaaProg
import Derived.Deep.QuietTactic
import Derived.BigQuiet
set_option linter.unusedVariables false
namespace Go.Proofs.Ytmcjlkpogcnniaa
open Go.RowKit

theorem begins_walk (c : Int) (w : World) : Calls Try.prog 46 #[.int .u8 c] w fun e w' => e = .returned (.bool (decide (begC c))) ∧ w = w' := by
  by_cases h20 : c = 20
  · subst h20
    go_enter Try.func46, Try.ntmps46
    go_wp2
    go_ret
    exact ⟨rfl, rfl⟩
  · by_cases h21 : c = 21
    · subst h21
      go_enter Try.func46, Try.ntmps46
      go_wp2
      go_ret
      exact ⟨rfl, rfl⟩
    · have b20 : (c == 20) = false := by simpa using h20
      have b21 : (c == 21) = false := by simpa using h21
      have HR : Hid (decide (begC c) = (c == 22)) := Lib.hid (by
        have : begC c ↔ c = 22 := by unfold begC; omega
        rw [Bool.eq_iff_iff]; simp [this])
      clear h20 h21
      go_enter Try.func46, Try.ntmps46
      go_wp2
      go_ret
      exact ⟨by rw [HR.out]; rfl, rfl⟩
theorem Begins_walk (c : Int) (w : World) : Calls Try.prog 34 #[.int .u8 c] w fun e w' => e = .returned (.bool (decide (begC c))) ∧ w = w' := by
  by_cases h20 : c = 20
  · subst h20
    go_enter Try.func34, Try.ntmps34
    go_wp2
    go_ret
    exact ⟨rfl, rfl⟩
  · by_cases h21 : c = 21
    · subst h21
      go_enter Try.func34, Try.ntmps34
      go_wp2
      go_ret
      exact ⟨rfl, rfl⟩
    · have b20 : (c == 20) = false := by simpa using h20
      have b21 : (c == 21) = false := by simpa using h21
      have HR : Hid (decide (begC c) = (c == 22)) := Lib.hid (by
        have : begC c ↔ c = 22 := by unfold begC; omega
        rw [Bool.eq_iff_iff]; simp [this])
      clear h20 h21
      go_enter Try.func34, Try.ntmps34
      go_wp2
      go_ret
      exact ⟨by rw [HR.out]; rfl, rfl⟩

def knownC (c : Int) : Int := if c < 1 ∨ 23 < c then 14 else c
def askedR (r : Int) : Int := if r < 0 ∨ 1114111 < r then 65533 else r
theorem known_walk (c : Int) (w : World) : Calls Try.prog 42 #[.int .u8 c] w fun e w' => e = .returned (.int .u8 (knownC c)) ∧ w = w' := by
  by_cases h1 : c < 1
  · have HR := Lib.hid (show knownC c = 14 from if_pos (.inl h1))
    go_enter Try.func42, Try.ntmps42
    go_wp2
    go_ret
    exact ⟨by rw [HR.out]; rfl, rfl⟩
  · by_cases h2 : 23 < c
    · have HR := Lib.hid (show knownC c = 14 from if_pos (.inr h2))
      go_enter Try.func42, Try.ntmps42
      go_wp2
      go_ret
      exact ⟨by rw [HR.out]; rfl, rfl⟩
    · have HR := Lib.hid (show knownC c = c from if_neg (by omega))
      go_enter Try.func42, Try.ntmps42
      go_wp2
      go_ret
      exact ⟨by rw [HR.out]; rfl, rfl⟩
theorem rClass_walk (c : Int) (w : World) : Calls Try.prog 38 #[.int .u8 c] w fun e w' => e = .returned (.int .u8 (knownC c)) ∧ w = w' := by
  by_cases h1 : c < 1
  · have HR := Lib.hid (show knownC c = 14 from if_pos (.inl h1))
    go_enter Try.func38, Try.ntmps38
    go_wp2
    go_ret
    exact ⟨by rw [HR.out]; rfl, rfl⟩
  · by_cases h2 : 23 < c
    · have HR := Lib.hid (show knownC c = 14 from if_pos (.inr h2))
      go_enter Try.func38, Try.ntmps38
      go_wp2
      go_ret
      exact ⟨by rw [HR.out]; rfl, rfl⟩
    · have HR := Lib.hid (show knownC c = c from if_neg (by omega))
      go_enter Try.func38, Try.ntmps38
      go_wp2
      go_ret
      exact ⟨by rw [HR.out]; rfl, rfl⟩
theorem asked_walk (c : Int) (w : World) : Calls Try.prog 43 #[.int .i32 c] w fun e w' => e = .returned (.int .i32 (askedR c)) ∧ w = w' := by
  by_cases h1 : c < 0
  · have HR := Lib.hid (show askedR c = 65533 from if_pos (.inl h1))
    go_enter Try.func43, Try.ntmps43
    go_wp2
    go_ret
    exact ⟨by rw [HR.out]; rfl, rfl⟩
  · by_cases h2 : 1114111 < c
    · have HR := Lib.hid (show askedR c = 65533 from if_pos (.inr h2))
      go_enter Try.func43, Try.ntmps43
      go_wp2
      go_ret
      exact ⟨by rw [HR.out]; rfl, rfl⟩
    · have HR := Lib.hid (show askedR c = c from if_neg (by omega))
      go_enter Try.func43, Try.ntmps43
      go_wp2
      go_ret
      exact ⟨by rw [HR.out]; rfl, rfl⟩
theorem rRune_walk (c : Int) (w : World) : Calls Try.prog 44 #[.int .i32 c] w fun e w' => e = .returned (.int .i32 (askedR c)) ∧ w = w' := by
  by_cases h1 : c < 0
  · have HR := Lib.hid (show askedR c = 65533 from if_pos (.inl h1))
    go_enter Try.func44, Try.ntmps44
    go_wp2
    go_ret
    exact ⟨by rw [HR.out]; rfl, rfl⟩
  · by_cases h2 : 1114111 < c
    · have HR := Lib.hid (show askedR c = 65533 from if_pos (.inr h2))
      go_enter Try.func44, Try.ntmps44
      go_wp2
      go_ret
      exact ⟨by rw [HR.out]; rfl, rfl⟩
    · have HR := Lib.hid (show askedR c = c from if_neg (by omega))
      go_enter Try.func44, Try.ntmps44
      go_wp2
      go_ret
      exact ⟨by rw [HR.out]; rfl, rfl⟩
theorem Try.elemInt : Elem Try.prog 48 3 (.int .i64 0) 8 := ⟨Try.underlying48, by kernel_rfl, by kernel_rfl⟩
theorem Try.elemClass : Elem Try.prog 29 22 (.int .u8 0) 1 := ⟨Try.underlying29, by kernel_rfl, by kernel_rfl⟩
theorem Try.elemRune : Elem Try.prog 26 21 (.int .i32 0) 4 := ⟨Try.underlying26, by kernel_rfl, by kernel_rfl⟩
end Go.Proofs.Ytmcjlkpogcnniaa
