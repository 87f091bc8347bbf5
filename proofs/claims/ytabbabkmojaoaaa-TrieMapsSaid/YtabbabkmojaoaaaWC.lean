/-
  The document's functions: plain laws of runs (what is found at a number).
-/
import Derived.Test.YtabbabkmojaoaaaWB
set_option linter.unusedVariables false
set_option linter.unusedSimpArgs false
namespace Go.Proofs.Ytabbabkmojaoaaa

theorem withL_form (L : List (Int × Int)) (t v : Int) : (∃ x, L = L.dropLast ++ [x] ∧ x.2 = v ∧ withL L t v = L.dropLast ++ [(t, v)]) ∨ withL L t v = L ++ [(t, v)] := by
  unfold withL
  cases h : L.getLast? with
  | none => exact .inr (by rw [List.getLast?_eq_none_iff.1 h]; rfl)
  | some x =>
    simp only
    by_cases e : x.2 = v
    · rw [if_pos e]
      obtain ⟨hne, e2⟩ := List.getLast?_eq_some_iff.1 h
      exact .inl ⟨x, by rw [e2]; simp, e, rfl⟩
    · rw [if_neg e]; exact .inr rfl
/-- the ends of the runs lie ahead of n -/
theorem runL_lt (F : Nat → Int) : ∀ n, ∀ x ∈ runL F n, x.1 < (n : Int)
  | 0, x, h => by simp [runL] at h
  | n + 1, x, h => by
    have ih := runL_lt F n
    rw [runL] at h
    rcases withL_form (runL F n) (n : Nat) (F n) with ⟨y, h1, h2, h3⟩ | h3
    · rw [h3] at h
      rcases List.mem_append.1 h with h | h
      · have := ih x (List.dropLast_subset _ h); omega
      · rw [List.mem_singleton.1 h]; simp only; omega
    · rw [h3] at h
      rcases List.mem_append.1 h with h | h
      · have := ih x h; omega
      · rw [List.mem_singleton.1 h]; simp only; omega
/-- what is found at r: the first run that ends at r or behind it -/
theorem runL_find (F : Nat → Int) : ∀ n r, r < n → ∃ A x B, runL F n = A ++ x :: B ∧ (∀ y ∈ A, y.1 < (r : Int)) ∧ (r : Int) ≤ x.1 ∧ x.2 = F r
  | 0, r, h => absurd h (Nat.not_lt_zero _)
  | n + 1, r, h => by
    have ih := runL_find F n
    have hlt := runL_lt F n
    rw [runL]
    rcases withL_form (runL F n) (n : Nat) (F n) with ⟨y, h1, h2, h3⟩ | h3
    · rw [h3]
      by_cases e : r = n
      · subst e
        exact ⟨_, (_, _), [], rfl, fun z hz => hlt z (List.dropLast_subset _ hz), Int.le_refl _, rfl⟩
      · obtain ⟨A, x, B, k1, k2, k3, k4⟩ := ih r (by omega)
        rw [h1] at k1
        rcases List.append_eq_append_iff.1 k1 with ⟨C, e1, e2⟩ | ⟨C, e1, e2⟩
        · cases C with
          | nil =>
            rw [List.nil_append] at e2
            have : y = x := by simpa using (List.cons.inj e2).1
            subst this
            refine ⟨A, ((n : Int), F n), [], ?_, k2, by simp only; omega, by simp only; rw [← h2, k4]⟩
            rw [e1]; simp
          | cons z C =>
            have := congrArg List.length e2
            simp at this
        · cases C with
          | nil =>
            rw [List.nil_append] at e2
            have : x = y := by simpa using (List.cons.inj e2).1
            subst this
            refine ⟨A, ((n : Int), F n), [], ?_, k2, by simp only; omega, by simp only; rw [← h2, k4]⟩
            rw [e1]; simp
          | cons z C =>
            obtain ⟨e3, e4⟩ := List.cons.inj e2
            subst e3
            exact ⟨A, x, C ++ [((n : Int), F n)], by rw [e1]; simp, k2, k3, k4⟩
    · rw [h3]
      by_cases e : r = n
      · subst e
        exact ⟨_, (_, _), [], rfl, hlt, Int.le_refl _, rfl⟩
      · obtain ⟨A, x, B, k1, k2, k3, k4⟩ := ih r (by omega)
        exact ⟨A, x, B ++ [((n : Int), F n)], by rw [k1]; simp, k2, k3, k4⟩
end Go.Proofs.Ytabbabkmojaoaaa
