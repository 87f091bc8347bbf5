/-
  The contracts of a line's functions at no line.
-/
import Derived.Test.YtnnfhldfdiaddaaL1
import Derived.Test.YtnnfhldfdiaddaaRF1
set_option linter.unusedVariables false
namespace Go.Proofs.Ytnnfhldfdiaddaa
open Go.RowKit
attribute [local go_sem] Oper.semAt_some

theorem Width_nil (w : World) :
    Calls Try.prog 19 #[.pointer none] w fun e w' => e = .returned (.int .i64 0) ∧ Below w.heap.size w w' := by
  go_enter Try.func19, Try.ntmps19
  go_wp2_with fail
  refine (none_nil _).mono ?_
  rintro e w' ⟨rfl, rfl⟩
  go_wp2
  go_ret
  exact ⟨rfl, Below.refl _ _⟩

theorem Column_nil (at_ : Int) (w : World) :
    Calls Try.prog 21 #[.pointer none, .int .i64 at_] w fun e w' => e = .returned (.tuple #[.int .i64 0, .int .i64 1]) ∧ Below w.heap.size w w' := by
  go_enter Try.func21, Try.ntmps21
  go_wp2_with fail
  refine (none_nil _).mono ?_
  rintro e w' ⟨rfl, rfl⟩
  go_wp2
  go_ret2
  exact ⟨rfl, Below.refl _ _⟩

theorem Right_nil (at_ : Int) (w : World) :
    Calls Try.prog 22 #[.pointer none, .int .i64 at_] w fun e w' => e = .returned (.tuple #[.int .i64 0, .bool false]) ∧ Below w.heap.size w w' := by
  go_enter Try.func22, Try.ntmps22
  go_wp2_with fail
  refine (none_nil _).mono ?_
  rintro e w' ⟨rfl, rfl⟩
  go_wp2
  go_ret2
  exact ⟨rfl, Below.refl _ _⟩

theorem Left_nil (at_ : Int) (w : World) :
    Calls Try.prog 23 #[.pointer none, .int .i64 at_] w fun e w' => e = .returned (.tuple #[.int .i64 0, .bool false]) ∧ Below w.heap.size w w' := by
  go_enter Try.func23, Try.ntmps23
  go_wp2_with fail
  refine (none_nil _).mono ?_
  rintro e w' ⟨rfl, rfl⟩
  go_wp2
  go_ret2
  exact ⟨rfl, Below.refl _ _⟩

theorem Next_nil (at_ : Int) (w : World) :
    Calls Try.prog 27 #[.pointer none, .int .i64 at_] w fun e w' => e = .returned (.tuple #[.int .i64 0, .bool false]) ∧ Below w.heap.size w w' := by
  go_enter Try.func27, Try.ntmps27
  go_wp2_with fail
  refine (none_nil _).mono ?_
  rintro e w' ⟨rfl, rfl⟩
  go_wp2
  go_ret2
  exact ⟨rfl, Below.refl _ _⟩

theorem Back_nil (at_ : Int) (w : World) :
    Calls Try.prog 28 #[.pointer none, .int .i64 at_] w fun e w' => e = .returned (.tuple #[.int .i64 0, .bool false]) ∧ Below w.heap.size w w' := by
  go_enter Try.func28, Try.ntmps28
  go_wp2_with fail
  refine (none_nil _).mono ?_
  rintro e w' ⟨rfl, rfl⟩
  go_wp2
  go_ret2
  exact ⟨rfl, Below.refl _ _⟩

theorem Hit_nil (at_ : Int) (w : World) :
    Calls Try.prog 20 #[.pointer none, .int .i64 at_] w fun e w' => e = .returned (.tuple #[.int .i64 0, .int .u8 2]) ∧ Below w.heap.size w w' := by
  go_enter Try.func20, Try.ntmps20
  go_wp2_with fail
  refine (Shown_nil _).mono ?_
  rintro e w' ⟨rfl, rfl⟩
  go_wp2
  go_ret2
  exact ⟨rfl, Below.refl _ _⟩

theorem Place_nil (at_ ed : Int) (w : World) :
    Calls Try.prog 14 #[.pointer none, .int .i64 at_, .int .u8 ed] w fun e w' => e = .returned (.tuple #[.int .i64 0, .int .i64 1]) ∧ Below w.heap.size w w' := by
  go_enter Try.func14, Try.ntmps14
  go_wp2_with fail
  refine (Len_nil _).mono ?_
  rintro e w' ⟨rfl, rfl⟩
  go_wp2_with fail
  refine (none_nil _).mono ?_
  rintro e w' ⟨rfl, rfl⟩
  go_wp2
  go_ret2
  exact ⟨rfl, Below.refl _ _⟩

theorem Caret_nil (at_ : Int) (w : World) :
    Calls Try.prog 15 #[.pointer none, .int .i64 at_] w fun e w' => e = .returned (.tuple #[.agg #[.int .i64 0, .int .i64 0, .int .i64 0, .int .i64 0, .bool false], .int .i64 1]) ∧ Below w.heap.size w w' := by
  have hb : Below w.heap.size w (w.alloc (.cells #[.int .i64 0, .int .i64 0, .int .i64 0, .int .i64 0, .bool false] 39)) := (Below.refl _ w).alloc (Nat.le_refl _) _
  have hblk := heap_alloc_new w (.cells #[.int .i64 0, .int .i64 0, .int .i64 0, .int .i64 0, .bool false] 39)
  have HB := Lib.hid hb; clear hb
  have HBK := Lib.hid hblk; clear hblk
  go_enter Try.func15, Try.ntmps15
  go_wp2_with fail
  refine (none_nil _).mono ?_
  rintro e w' ⟨rfl, rfl⟩
  generalize w.alloc (.cells #[.int .i64 0, .int .i64 0, .int .i64 0, .int .i64 0, .bool false] 39) = w5 at *
  have hblk := HBK.out
  have r0 := cell_of_row w5 w.heap.size 0 _ _ (0, 0) hblk
  have r1 := cell_of_row w5 w.heap.size 1 _ _ (0, 0) hblk
  have r2 := cell_of_row w5 w.heap.size 2 _ _ (0, 0) hblk
  have r3 := cell_of_row w5 w.heap.size 3 _ _ (0, 0) hblk
  have r4 := cell_of_row w5 w.heap.size 4 _ _ (0, 0) hblk
  have f0 := frozen_of_row w5 w.heap.size 0 _ _ hblk
  have f1 := frozen_of_row w5 w.heap.size 1 _ _ hblk
  have f2 := frozen_of_row w5 w.heap.size 2 _ _ hblk
  have f3 := frozen_of_row w5 w.heap.size 3 _ _ hblk
  have f4 := frozen_of_row w5 w.heap.size 4 _ _ hblk
  simp at r0 r1 r2 r3 r4
  clear hblk
  go_wp2
  refine bodyPost_ret (v := .tuple #[.agg #[.int .i64 0, .int .i64 0, .int .i64 0, .int .i64 0, .bool false], .int .i64 1]) (by simp [results, Try.results15, go_sem, r0, r1, r2, r3, r4]) rfl ?_
  refine ⟨rfl, ?_⟩
  exact ((((HB.out.setCell (Nat.le_refl _) _).setCell (Nat.le_refl _) _).setCell (Nat.le_refl _) _).setCell (Nat.le_refl _) _).setCell (Nat.le_refl _) _

theorem Across_walk (v : Value) (hv : v.oneCell' = true) (w : World) :
    Calls Try.prog 29 #[v] w fun e w' => e = .returned (.func (.func 48) #[] #[.pointer (some ⟨w.heap.size, 0, none⟩)]) ∧
      w'.cell? ⟨w.heap.size, 0, none⟩ = some v ∧ w'.heap.size = w.heap.size + 1 ∧ Below w.heap.size w w' := by
  go_enter Try.func29, Try.ntmps29
  go_wp2
  go_ret
  have c0 := cell_of_row _ w.heap.size 0 _ _ (0, 0) (heap_alloc_new w (.cells #[v] 29))
  exact ⟨rfl, c0, by simp, (Below.refl _ w).alloc (Nat.le_refl _) _⟩

/-- the iterator over the places of no line -/
theorem across_none (B1 : Nat) (enc : Nat → Array Value) (R : Nat → Prop) (w : World) (h1 : w.cell? ⟨B1, 0, none⟩ = some (.pointer none)) :
    SeqX Try.prog 48 #[.pointer (some ⟨B1, 0, none⟩)] enc R (fun xs => xs = []) (fun _ => False) 0 w := by
  intro l J Jx W hW hJ hJx hY h0
  refine callsIn_wide.2 ?_
  have H0 := Lib.hid h0; clear h0 hJ hJx hY
  have q1 : W.cell? ⟨B1, 0, none⟩ = some (.pointer none) := by rw [hW.cell (p := ⟨B1, 0, none⟩) (World.block_lt_of_cell? w _ h1)]; exact h1
  clear h1 hW
  go_enter Try.func48, Try.ntmps48
  go_wp2_with fail
  refine (none_nil _).mono ?_
  rintro e w' ⟨rfl, rfl⟩
  go_wp2
  refine bodyPost_ret (results_none rfl _ _ _) rfl ?_
  exact ⟨⟨_, rfl⟩, .inl ⟨_, [], rfl, H0.out⟩⟩
end Go.Proofs.Ytnnfhldfdiaddaa
