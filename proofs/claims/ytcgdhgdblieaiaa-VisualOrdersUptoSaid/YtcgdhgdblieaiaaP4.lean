/-
  Plain laws: the places of a line with characters that are Gone, and its order.
-/
import Derived.Test.YtcgdhgdblieaiaaP2
import Derived.Test.YtcgdhgdblieaiaaW1
namespace Go.Proofs.Ytcgdhgdblieaiaa

theorem shown_vals (W : List Int) (h : ∀ x ∈ W, -1 ≤ x) (k : Nat) (hk : k ≤ W.length) : (shownIdx (W.take k)).map (fun j => W.getD j.toNat 0) = shownL (W.take k) := by
  induction k with
  | zero => simp [shownIdx, shownL]
  | succ k ih =>
    have hl : k < W.length := by omega
    rw [shownIdx_snoc W k hl, List.map_append, ih (by omega)]
    have hx := h _ (List.getElem_mem hl)
    by_cases e : W[k] = -1
    · rw [if_pos e, shownL_no W k hl (by omega)]; simp
    · rw [if_neg e, shownL_yes W k hl (by omega)]; simp [hl]

theorem shown_vals' (W : List Int) (h : ∀ x ∈ W, -1 ≤ x) : (shownIdx W).map (fun j => W.getD j.toNat 0) = shownL W := by
  have := shown_vals W h W.length (Nat.le_refl _)
  rwa [List.take_length] at this

theorem gone (W : List Int) (h : ∀ x ∈ W, -1 ≤ x ∧ x ≤ 126) : ord W = (ord (shownL W)).map (fun j => (shownIdx W).getD j.toNat 0) := by
  have hv := shown_vals' W (fun x hx => (h x hx).1)
  have hlen : (shownIdx W).length = (shownL W).length := by rw [← hv]; simp
  have hL : ∀ x ∈ shownL W, 0 ≤ x ∧ x ≤ 126 := by
    intro x hx
    unfold shownL at hx
    rw [List.mem_filter] at hx
    have := h x hx.1
    simp at hx
    omega
  have hi : shownIdx (shownL W) = (List.range (shownL W).length).map (fun (i : Nat) => (i : Int)) := shownIdx_all _ (fun x hx => by have := hL x hx; omega)
  have b1 := high_bd W (fun x hx => (h x hx).2)
  have b2 := high_bd (shownL W) (fun x hx => (hL x hx).2)
  rw [ord_eq W 126 b1.1 b1.2, ord_eq (shownL W) 126 b2.1 b2.2, hi]
  have nat : ∀ (k : Nat) (X : List Int), (∀ x ∈ X, 0 ≤ x ∧ x < (shownL W).length) → (passes (shownL W) k X).map (fun j => (shownIdx W).getD j.toNat 0) = passes W k (X.map (fun j => (shownIdx W).getD j.toNat 0)) := by
    intro k
    induction k with
    | zero => intro X _; rfl
    | succ k ih =>
      intro X hX
      rw [passes, passes, turns_map, ih _ (fun x hx => hX x ((turns_mem _ _ _).1 hx))]
      congr 2
      refine turns_congr _ _ _ ?_
      intro x hx
      have := hX x hx
      have h1 : x.toNat < (shownIdx W).length := by omega
      have h2 : x.toNat < (shownL W).length := by omega
      have e := List.getElem_of_eq hv.symm h2
      simp only [List.getElem_map] at e
      unfold lvGe
      simp only [List.getD_eq_getElem?_getD, List.getElem?_eq_getElem h1, List.getElem?_eq_getElem h2, Option.getD_some] at e ⊢
      rw [e]
  rw [nat 126 _ (by intro x hx; simp at hx; obtain ⟨a, ha, rfl⟩ := hx; omega)]
  congr 1
  apply List.ext_getElem (by simp [hlen])
  intro i h1 h2
  simp [h1]

theorem shownIdx_push (W : List Int) (x : Int) (hx : x ≠ -1) : shownIdx (W ++ [x]) = shownIdx W ++ [(W.length : Int)] := by
  have := shownIdx_snoc (W ++ [x]) W.length (by simp)
  rw [List.take_of_length_le (by simp)] at this
  rw [this]; simp [hx]
theorem shownIdx_push_gone (W : List Int) : shownIdx (W ++ [-1]) = shownIdx W := by
  have := shownIdx_snoc (W ++ [-1]) W.length (by simp)
  rw [List.take_of_length_le (by simp)] at this
  rw [this]; simp
theorem shownL_push (W : List Int) (x : Int) (hx : 0 ≤ x) : shownL (W ++ [x]) = shownL W ++ [x] := by simp [shownL, hx]
theorem shownL_push_gone (W : List Int) : shownL (W ++ [-1]) = shownL W := by simp [shownL]

/-- numbers that count: none is below 0, they come to no more than k -/
structure Counts (M : List Int) (n : Nat) (k : Nat) : Prop where
  len : M.length = n
  pos : ∀ x ∈ M, 0 ≤ x
  sum : M.sum ≤ k
theorem sum_set (M : List Int) (i : Nat) (h : i < M.length) (x : Int) : (M.set i x).sum = M.sum + (x - M[i]) := by
  induction M generalizing i with
  | nil => simp at h
  | cons y t ih =>
    cases i with
    | zero => simp; omega
    | succ i => simp at h; simp [ih i h]; omega
theorem sum_nonneg (M : List Int) (h : ∀ x ∈ M, 0 ≤ x) : 0 ≤ M.sum := by
  induction M with
  | nil => simp
  | cons y t ih => simp; have := h y (by simp); have := ih (fun x hx => h x (by simp [hx])); omega
theorem le_sum (M : List Int) (h : ∀ x ∈ M, 0 ≤ x) (i : Nat) (hi : i < M.length) : M[i] ≤ M.sum := by
  induction M generalizing i with
  | nil => simp at hi
  | cons y t ih =>
    have h2 := sum_nonneg t (fun x hx => h x (by simp [hx]))
    cases i with
    | zero => simp; omega
    | succ i => simp at hi; simp; have := ih (fun x hx => h x (by simp [hx])) i hi; have := h y (by simp); omega
theorem sum_replicate0 (n : Nat) : (List.replicate n (0 : Int)).sum = 0 := by
  induction n with
  | zero => rfl
  | succ n ih => rw [List.replicate_succ, List.sum_cons, ih]; rfl
theorem Counts.start (n : Nat) : Counts (List.replicate n 0) n 0 := ⟨by simp, fun x hx => by simp at hx; omega, by rw [sum_replicate0]; omega⟩
theorem Counts.up {M : List Int} {n k : Nat} (h : Counts M n k) (i : Nat) (hi : i < M.length) : Counts (M.set i (M[i] + 1)) n (k + 1) := by
  have h0 := h.pos _ (List.getElem_mem hi)
  refine ⟨by simp [h.len], ?_, by rw [sum_set M i hi]; have := h.sum; omega⟩
  intro x hx
  rcases List.mem_or_eq_of_mem_set hx with hx | rfl
  · exact h.pos x hx
  · omega
theorem Counts.at {M : List Int} {n k : Nat} (h : Counts M n k) (i : Nat) (hi : i < M.length) : 0 ≤ M[i] ∧ M[i] ≤ k := by
  have h0 := h.pos _ (List.getElem_mem hi)
  have := le_sum M h.pos i hi
  have := h.sum
  omega
/-- of the first i of them, and j more that are no more than the next -/
theorem sum_take_le (M : List Int) (h : ∀ x ∈ M, 0 ≤ x) (i : Nat) (hi : i < M.length) : (M.take i).sum + M[i] ≤ M.sum := by
  induction M generalizing i with
  | nil => simp at hi
  | cons y t ih =>
    have h2 := sum_nonneg t (fun x hx => h x (by simp [hx]))
    cases i with
    | zero => simp; omega
    | succ i => simp at hi; simp; have := ih (fun x hx => h x (by simp [hx])) i hi; omega
theorem sum_take_succ (M : List Int) (i : Nat) (hi : i < M.length) : (M.take (i + 1)).sum = (M.take i).sum + M[i] := by
  rw [List.take_succ_eq_append_getElem hi, List.sum_append]; simp only [List.sum_cons, List.sum_nil, Int.add_zero]
end Go.Proofs.Ytcgdhgdblieaiaa
