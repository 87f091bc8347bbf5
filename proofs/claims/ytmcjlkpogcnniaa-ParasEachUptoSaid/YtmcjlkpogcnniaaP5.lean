/-
  Plain laws: the pieces cover the list.
-/
import Derived.Test.YtmcjlkpogcnniaaP3
import Derived.Test.YtmcjlkpogcnniaaP4
set_option linter.unusedVariables false
namespace Go.Proofs.Ytmcjlkpogcnniaa

/-- where the first i pieces end -/
def endAt (ps : List (Nat × Nat)) : Nat → Nat
  | 0 => 0
  | i + 1 => (ps.getD i (0, 0)).2
structure CutF (l cl : List Int) (ps : List (Nat × Nat)) : Prop where
  one : ∀ i (h : i < ps.length), (ps[i]).1 = endAt ps i ∧ (ps[i]).1 < (ps[i]).2 ∧ (ps[i]).2 ≤ cl.length ∧ (i + 1 < ps.length → cl.getD ((ps[i]).2 - 1) 0 = 11) ∧ ∀ j, (ps[i]).1 ≤ j → j + 1 < (ps[i]).2 → ¬ cutAt l cl j
  last : endAt ps ps.length = cl.length
theorem endAt_succ (ps : List (Nat × Nat)) (i : Nat) (h : i < ps.length) : endAt ps (i + 1) = (ps[i]).2 := by simp [endAt, h]
theorem endAt_app (ps qs : List (Nat × Nat)) (i : Nat) (h : i ≤ ps.length) : endAt (ps ++ qs) i = endAt ps i := by
  cases i with
  | zero => rfl
  | succ i => simp [endAt, List.getElem?_append_left (show i < ps.length by omega)]

theorem cut_facts (l cl : List Int) : CutF l cl (splitL l cl) := by
  have I := CutInv.all l cl cl.length
  unfold splitL
  generalize splitTo l cl cl.length = s at *
  obtain ⟨qs, f⟩ := s
  simp only at I ⊢
  have hend : f = endAt qs qs.length := by
    rw [I.end_]
    cases h : qs.length with
    | zero => have := List.eq_nil_of_length_eq_zero h; subst this; rfl
    | succ m =>
      rw [List.getLast?_eq_getElem?, h]
      simp [endAt, show m < qs.length by omega]
  have hone : ∀ i (h : i < qs.length), (qs[i]).1 = endAt qs i := by
    intro i h
    cases i with
    | zero => exact I.first _ (by simp [h])
    | succ i =>
      rw [endAt_succ _ _ (by omega)]
      exact I.next i _ _ (by simp [show i < qs.length by omega]) (by simp [h])
  by_cases hf : f < cl.length
  · rw [if_pos hf]
    constructor
    · intro i h
      by_cases hi : i < qs.length
      · have p := I.piece _ (List.getElem_mem hi)
        rw [List.getElem_append_left hi, endAt_app _ _ _ (by omega)]
        exact ⟨hone i hi, p.1, p.2.1, fun _ => p.2.2.1.1, p.2.2.2⟩
      · have hi2 : i = qs.length := by simp at h; omega
        subst hi2
        rw [endAt_app _ _ _ (Nat.le_refl _)]
        simp only [List.getElem_concat_length]
        exact ⟨hend, hf, Nat.le_refl _, fun h => by simp at h, fun j h1 h2 => I.tail j h1 (by omega)⟩
    · rw [show (qs ++ [(f, cl.length)]).length = qs.length + 1 by simp, endAt_succ _ _ (by simp)]
      simp
  · rw [if_neg hf]
    constructor
    · intro i hi
      have p := I.piece _ (List.getElem_mem hi)
      exact ⟨hone i hi, p.1, p.2.1, fun _ => p.2.2.1.1, p.2.2.2⟩
    · have := I.le
      omega
theorem not_cut (l cl : List Int) (k q : Nat) (hk : k < q) (h : ∀ j, k ≤ j → j < q → ¬ cutAt l cl j) (h11 : cl.getD k 0 = 11) : k + 1 < l.length ∧ l.getD k 0 = 13 ∧ l.getD (k + 1) 0 = 10 ∧ k + 1 = q := by
  have e : ∀ j, ¬ cutAt l cl j → cl.getD j 0 = 11 → j + 1 < l.length ∧ l.getD j 0 = 13 ∧ l.getD (j + 1) 0 = 10 ∧ cl.getD (j + 1) 0 = 11 := fun j hj h1 => by
    unfold cutAt at hj
    exact Classical.byContradiction fun hh => hj ⟨h1, hh⟩
  obtain ⟨h1, h2, h3, h4⟩ := e k (h k (Nat.le_refl _) hk) h11
  refine ⟨h1, h2, h3, ?_⟩
  by_cases hq : k + 1 < q
  · have := (e (k + 1) (h (k + 1) (by omega) hq) h4).2.1
    omega
  · omega
end Go.Proofs.Ytmcjlkpogcnniaa
