/-
  Plain laws: the paragraphs.
-/
import Derived.Test.YtmcjlkpogcnniaaP2
set_option linter.unusedVariables false
namespace Go.Proofs.Ytmcjlkpogcnniaa

/-- does a paragraph end behind place i? -/
def cutAt (l cl : List Int) (i : Nat) : Prop := cl.getD i 0 = 11 ∧ ¬ (i + 1 < l.length ∧ l.getD i 0 = 13 ∧ l.getD (i + 1) 0 = 10 ∧ cl.getD (i + 1) 0 = 11)
instance (l cl : List Int) (i : Nat) : Decidable (cutAt l cl i) := by unfold cutAt; infer_instance
def splitTo (l cl : List Int) : Nat → List (Nat × Nat) × Nat
  | 0 => ([], 0)
  | k + 1 => if cutAt l cl k then ((splitTo l cl k).1 ++ [((splitTo l cl k).2, k + 1)], k + 1) else splitTo l cl k
def splitL (l cl : List Int) : List (Nat × Nat) :=
  if (splitTo l cl cl.length).2 < cl.length then (splitTo l cl cl.length).1 ++ [((splitTo l cl cl.length).2, cl.length)] else (splitTo l cl cl.length).1
theorem splitTo_yes (l cl : List Int) (k : Nat) (h : cutAt l cl k) : splitTo l cl (k + 1) = ((splitTo l cl k).1 ++ [((splitTo l cl k).2, k + 1)], k + 1) := by rw [splitTo, if_pos h]
theorem splitTo_no (l cl : List Int) (k : Nat) (h : ¬ cutAt l cl k) : splitTo l cl (k + 1) = splitTo l cl k := by rw [splitTo, if_neg h]
theorem splitTo_le (l cl : List Int) (k : Nat) : (splitTo l cl k).1.length ≤ k ∧ (splitTo l cl k).2 ≤ k := by
  induction k with
  | zero => simp [splitTo]
  | succ k ih =>
    by_cases h : cutAt l cl k
    · rw [splitTo_yes _ _ _ h]; simp; omega
    · rw [splitTo_no _ _ _ h]; omega

/-- what a list of pieces is told to be -/
structure CutInv (l cl : List Int) (k : Nat) (ps : List (Nat × Nat)) (from_ : Nat) : Prop where
  le : from_ ≤ k
  end_ : from_ = match ps.getLast? with | some p => p.2 | none => 0
  first : ∀ p, ps[0]? = some p → p.1 = 0
  next : ∀ i p q, ps[i]? = some p → ps[i + 1]? = some q → q.1 = p.2
  piece : ∀ p ∈ ps, p.1 < p.2 ∧ p.2 ≤ k ∧ cutAt l cl (p.2 - 1) ∧ ∀ j, p.1 ≤ j → j + 1 < p.2 → ¬ cutAt l cl j
  tail : ∀ j, from_ ≤ j → j < k → ¬ cutAt l cl j
theorem CutInv.all (l cl : List Int) (k : Nat) : CutInv l cl k (splitTo l cl k).1 (splitTo l cl k).2 := by
  induction k with
  | zero => exact ⟨Nat.le_refl _, rfl, fun p h => by simp [splitTo] at h, fun i p q h => by simp [splitTo] at h, fun p h => by simp [splitTo] at h, fun j h1 h2 => by omega⟩
  | succ k ih =>
    by_cases h : cutAt l cl k
    · rw [splitTo_yes _ _ _ h]
      generalize splitTo l cl k = s at *
      obtain ⟨ps, f⟩ := s
      have hle := ih.le
      simp only at hle ih ⊢
      refine ⟨Nat.le_refl _, by simp, ?_, ?_, ?_, fun j h1 h2 => by omega⟩
      · intro p hp
        cases ps with
        | nil => simp at hp; rw [← hp]; exact ih.end_
        | cons x t => exact ih.first p (by simpa using hp)
      · intro i p q hp hq
        by_cases hi : i + 1 < ps.length
        · rw [List.getElem?_append_left (by omega)] at hp hq
          exact ih.next i p q hp hq
        · have hi2 : i + 1 = ps.length := by
            have := (List.getElem?_eq_some_iff.1 hq).1
            simp at this; omega
          rw [List.getElem?_append_left (by omega)] at hp
          rw [hi2] at hq
          simp at hq
          rw [← hq]
          have e := ih.end_
          rw [List.getLast?_eq_getElem?, show ps.length - 1 = i by omega, hp] at e
          exact e
      · intro p hp
        rcases List.mem_append.1 hp with hp | hp
        · have := ih.piece p hp
          exact ⟨this.1, by omega, this.2.2⟩
        · obtain rfl : p = (f, k + 1) := by simpa using hp
          exact ⟨by simp; omega, Nat.le_refl _, by simpa using h, fun j h1 h2 => ih.tail j h1 (by simp at h2; omega)⟩
    · rw [splitTo_no _ _ _ h]
      refine ⟨by have := ih.le; omega, ih.end_, ih.first, ih.next, fun p hp => ?_, fun j h1 h2 => ?_⟩
      · have := ih.piece p hp
        exact ⟨this.1, by omega, this.2.2⟩
      · by_cases e : j = k
        · rw [e]; exact h
        · exact ih.tail j h1 (by omega)
end Go.Proofs.Ytmcjlkpogcnniaa
