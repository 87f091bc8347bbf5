/-
  What 'Build' answers, in short (float64).
-/
import Derived.Test.YtabbabkmojaoaaaTEF
import Derived.Test.YtabbabkmojaoaaaTQF
set_option linter.unusedVariables false
set_option linter.unusedSimpArgs false
namespace Go.Proofs.Ytabbabkmojaoaaa.VF
open Go.RowKit
attribute [local go_sem] run_store_float

/-- what 'Build' answers, in short -/
def BldQ (w : World) (rest : El) (l : List SpanD) (e : Ending) (w' : World) : Prop :=
  Below w.heap.size w w' ∧
    ((∃ i, i < l.length ∧ badS (l.getD i default) ∧ (∀ j, j < i → ¬ badS (l.getD j default)) ∧ e = .returned (.tuple #[.pointer none, .int .i64 (i : Nat), .int .i64 110])) ∨
     ((∀ j, j < l.length → ¬ badS (l.getD j default)) ∧ ∃ k, k < l.length ∧ meetS l k ∧ (∀ j, j < k → ¬ meetS l j) ∧ e = .returned (.tuple #[.pointer none, .int .i64 (k : Nat), .int .i64 111])) ∨
     ((∀ j, j < l.length → ¬ badS (l.getD j default)) ∧ (∀ j, j < l.length → ¬ meetS l j) ∧ ∃ g S, e = .returned (.tuple #[.pointer (some ⟨g, 0, none⟩), .int .i64 0, .int .i64 0]) ∧ w.heap.size ≤ g ∧
       Made8 (fS rest l) S ∧ TrieAt val8 148 64 w' g (trieS S)))
theorem bldQ_of {w : World} {rest : El} {l : List SpanD} {e : Ending} {w' : World} (hi : InjB eq8 (blkF (fS rest l))) (h : BldPost w rest l e w') : BldQ w rest l e w' := by
  obtain ⟨h1, h2⟩ := h
  refine ⟨h1, ?_⟩
  rcases h2 with h2 | h2 | ⟨h3, h4, g, h5, h6, am, cm, al, cl, h7⟩
  · exact .inl h2
  · exact .inr (.inl h2)
  · have hM := made8 (fS rest l) hi 17408 rfl
    generalize mkF (fS rest l) 17408 = S at *
    exact .inr (.inr ⟨h3, h4, g, S, h5, h6, hM, trieS_at hM h7⟩)
end Go.Proofs.Ytabbabkmojaoaaa.VF
