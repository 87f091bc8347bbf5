/-
  Plain laws: the stretches of a function.
-/
import Derived.Test.YtabbabkmojaoaaaTZ
set_option linter.unusedVariables false
set_option linter.unusedSimpArgs false
namespace Go.Proofs.Ytabbabkmojaoaaa

open Go.RowKit
theorem three_set {W : World} {b : Nat} {t : TypeId} {x y z : Value} (h : W.heap[b]? = some (.cells #[x, y, z] t (0, 0))) (x' y' z' : Value) :
    (((W.setCell ⟨b, 0, none⟩ x').setCell ⟨b, 1, none⟩ y').setCell ⟨b, 2, none⟩ z').heap[b]? = some (.cells #[x', y', z'] t (0, 0)) ∧ W.grownBy (((W.setCell ⟨b, 0, none⟩ x').setCell ⟨b, 1, none⟩ y').setCell ⟨b, 2, none⟩ z') (some b) := by
  have h1 := heap_setCell_same W b 0 _ _ x' h
  have h2 := heap_setCell_same _ b 1 _ _ y' h1
  have h3 := heap_setCell_same _ b 2 _ _ z' h2
  exact ⟨h3, grown_trans (grown_trans (grown_store W b 0 _) (grown_store _ b 1 _)) (grown_store _ b 2 _)⟩
structure Stretch (α : Type) where
  f : Nat
  t : Nat
  v : α
section
variable {α : Type}
/-- behind n numbers: the stretches that are closed, and where the open one begins -/
def spT (ne : α → α → Bool) (f : Nat → α) : Nat → List (Stretch α) × Nat
  | 0 => ([], 0)
  | n + 1 => if n = 0 then ([], 0) else if ne (f n) (f (spT ne f n).2) = true then ((spT ne f n).1 ++ [⟨(spT ne f n).2, n - 1, f (spT ne f n).2⟩], n) else spT ne f n
theorem spT_one (ne : α → α → Bool) (f : Nat → α) : spT ne f 1 = ([], 0) := by rw [spT, if_pos rfl]
theorem spT_cut {ne : α → α → Bool} {f : Nat → α} {n : Nat} (hn : n ≠ 0) (h : ne (f n) (f (spT ne f n).2) = true) : spT ne f (n + 1) = ((spT ne f n).1 ++ [⟨(spT ne f n).2, n - 1, f (spT ne f n).2⟩], n) := by
  rw [spT, if_neg hn, if_pos h]
theorem spT_on {ne : α → α → Bool} {f : Nat → α} {n : Nat} (hn : n ≠ 0) (h : ¬ ne (f n) (f (spT ne f n).2) = true) : spT ne f (n + 1) = spT ne f n := by
  rw [spT, if_neg hn, if_neg h]
theorem spT_lt (ne : α → α → Bool) (f : Nat → α) (n : Nat) (hn : n ≠ 0) : (spT ne f n).2 < n := by
  induction n with
  | zero => exact absurd rfl hn
  | succ n ih =>
    by_cases h0 : n = 0
    · subst h0; rw [spT_one]; exact Nat.lt_succ_self _
    · by_cases h : ne (f n) (f (spT ne f n).2) = true
      · rw [spT_cut h0 h]; exact Nat.lt_succ_self _
      · rw [spT_on h0 h]; have := ih h0; omega
/-- all stretches of the numbers below n -/
def spL (ne : α → α → Bool) (f : Nat → α) (n : Nat) : List (Stretch α) := (spT ne f n).1 ++ [⟨(spT ne f n).2, n - 1, f (spT ne f n).2⟩]
theorem spT_pre (ne : α → α → Bool) (f : Nat → α) (n j : Nat) : (spT ne f n).1 <+: (spT ne f (n + j)).1 := by
  induction j with
  | zero => exact List.prefix_refl _
  | succ j ih =>
    rw [← Nat.add_assoc]
    by_cases h0 : n + j = 0
    · have : n = 0 := by omega
      subst this
      exact List.nil_prefix
    · by_cases h : ne (f (n + j)) (f (spT ne f (n + j)).2) = true
      · rw [spT_cut h0 h]; exact ih.trans (List.prefix_append _ _)
      · rw [spT_on h0 h]; exact ih
/-- what is told when number n opens a stretch -/
theorem spT_told {ne : α → α → Bool} {f : Nat → α} {n N : Nat} (hn : n ≠ 0) (h : ne (f n) (f (spT ne f n).2) = true) (hN : n < N) :
    (spT ne f n).1.length < (spL ne f N).length ∧ (spT ne f n).1 ++ [⟨(spT ne f n).2, n - 1, f (spT ne f n).2⟩] = (spL ne f N).take ((spT ne f n).1.length + 1) := by
  have h1 := spT_pre ne f (n + 1) (N - (n + 1))
  rw [show n + 1 + (N - (n + 1)) = N by omega, spT_cut hn h] at h1
  have h2 : (spT ne f n).1 ++ [⟨(spT ne f n).2, n - 1, f (spT ne f n).2⟩] <+: spL ne f N := h1.trans (List.prefix_append _ _)
  have h3 := h2.length_le
  rw [List.length_append, List.length_singleton] at h3
  refine ⟨by omega, ?_⟩
  have h4 := List.prefix_iff_eq_take.1 h2
  rw [List.length_append, List.length_singleton] at h4
  exact h4
theorem spL_last (ne : α → α → Bool) (f : Nat → α) (N : Nat) : (spT ne f N).1.length < (spL ne f N).length ∧ (spT ne f N).1 ++ [⟨(spT ne f N).2, N - 1, f (spT ne f N).2⟩] = (spL ne f N).take ((spT ne f N).1.length + 1) := by
  unfold spL
  refine ⟨by simp, ?_⟩
  rw [List.take_of_length_le (by simp)]
end
end Go.Proofs.Ytabbabkmojaoaaa
