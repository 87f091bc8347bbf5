/-
  Plain laws: what belongs together lies one within the other, or apart.
-/
import Derived.Test.YtmcjlkpogcnniaaP2
set_option linter.unusedVariables false
namespace Go.Proofs.Ytmcjlkpogcnniaa

theorem pairs_other (cl : List Int) (i : Nat) (hi : i < cl.length) (hb : ¬ begC (cl.getD i 0)) :
    (matchL cl).getD i 0 = -1 ∨ (cl.getD i 0 = 23 ∧ ∃ m : Nat, (matchL cl).getD i 0 = (m : Int) ∧ m < i ∧ (matchL cl).getD m 0 = (i : Int)) := by
  have h := match_inv cl
  by_cases h23 : cl.getD i 0 = 23
  · rcases h.pdi i hi h23 with h1 | ⟨m, h1, h2, _, h4⟩
    · exact .inl h1
    · exact .inr ⟨h23, m, h1, h2, h4⟩
  · exact .inl (h.other i hi hb h23)
theorem pairs_in (cl : List Int) (i m k : Nat) (hi : i < cl.length) (hb : begC (cl.getD i 0)) (hm : (matchL cl).getD i 0 = (m : Int)) (hml : m < cl.length) (h1 : i < k) (h2 : k < m) :
    cl.getD k 0 ≠ 11 ∧ (begC (cl.getD k 0) → (matchL cl).getD k 0 < (m : Int)) ∧ (cl.getD k 0 = 23 → (i : Int) < (matchL cl).getD k 0) := by
  have h := (match_inv cl).shut i hi hb (by rw [hm]; omega) k h1 (by rw [hm]; omega)
  rw [hm] at h
  exact h
theorem getD_at (l : List Int) (i : Nat) (h : i < l.length) : l.getD i 0 = l[i] := by simp [h]
end Go.Proofs.Ytmcjlkpogcnniaa
