/-
  Small laws: boxes, a walk of same.
-/
import Derived.Laws.BytesArg
import Derived.Deep.RegionLaw
import Derived.Lib.QuietBelow
import Derived.Great.BuildSlice
import Derived.Test.YtbmphakfgoompaaRQ
import Derived.Test.YtbmphakfgoompaaTN
import Derived.Test.YtbmphakfgoompaaTZ
set_option linter.unusedVariables false
set_option linter.unusedSimpArgs false
namespace Go.Proofs.Ytbmphakfgoompaa
open Go.RowKit
attribute [local go_sem] Oper.semAt_some wide_fn

theorem lies_below {w W : World} (h : Below w.heap.size w W) : Lies w W := fun k hk => h.block k hk
/-- a box more -/
theorem box_fact (w : World) (x : Value) (t : TypeId) : Below w.heap.size w (w.alloc (.cells #[x] t)) ∧ (w.alloc (.cells #[x] t)).heap[w.heap.size]? = some (.cells #[x] t (0, 0)) ∧ (w.alloc (.cells #[x] t)).heap.size = w.heap.size + 1 :=
  ⟨(Below.refl _ w).alloc (Nat.le_refl _) _, heap_alloc_new w _, World.size_alloc w _⟩
theorem box_cell {w : World} {b : Nat} {x : Value} {t : TypeId} (h : w.heap[b]? = some (.cells #[x] t (0, 0))) : w.cell? ⟨b, 0, none⟩ = some x := cell_of_row w b 0 _ _ (0, 0) h
theorem setbox_fact (w : World) (x y : Value) (t : TypeId) : Below w.heap.size w ((w.alloc (.cells #[x] t)).setRow w.heap.size #[y]) ∧ ((w.alloc (.cells #[x] t)).setRow w.heap.size #[y]).heap[w.heap.size]? = some (.cells #[y] t (0, 0)) ∧ ((w.alloc (.cells #[x] t)).setRow w.heap.size #[y]).heap.size = w.heap.size + 1 := by
  obtain ⟨f1, f2, f3⟩ := box_fact w x t
  refine ⟨⟨f1.os, f1.tape, f1.output, by rw [setRow_size]; exact f1.size, fun k hk => by rw [setRow_other _ w.heap.size k _ (by omega)]; exact f1.block k hk⟩, setRow_heap _ w.heap.size _ #[y] _ _ f2, by rw [setRow_size]; exact f3⟩
end Go.Proofs.Ytbmphakfgoompaa
