/-
  Runs in memory; the comparison by which they are sorted.
-/
import Derived.Test.YtcgdhgdblieaiaaG2
import Derived.Test.YtcgdhgdblieaiaaSO
import Derived.Test.YtcgdhgdblieaiaaW9
import Derived.Shelf.SlSortCmp.KitK
import Derived.Shelf.SlSortCmp.InsertionK
set_option linter.unusedVariables false
namespace Go.Proofs.Ytcgdhgdblieaiaa
open Go.RowKit
open Go.Sort (grow alloc_eq_grow grow_grow)

def cellsR (r : RunD) : List Value := [.int .i64 (r.f : Nat), .int .i64 (r.t : Nat), .int .i8 r.l]
theorem cellsR_length (r : RunD) : (cellsR r).length = 3 := rfl
def flatR (rs : List RunD) : List Value := rs.flatMap cellsR
theorem flatR_length (rs : List RunD) : (flatR rs).length = rs.length * 3 := by
  induction rs with
  | nil => rfl
  | cons x t ih => simp only [flatR, List.flatMap_cons, List.length_append, cellsR_length] at *; rw [ih, List.length_cons]; omega
theorem flatR_push (rs : List RunD) (r : RunD) : flatR (rs ++ [r]) = flatR rs ++ [.int .i64 (r.f : Nat), .int .i64 (r.t : Nat), .int .i8 r.l] := by simp [flatR, cellsR]
theorem flatR_get (rs : List RunD) (i : Nat) (hi : i < rs.length) : (flatR rs)[i * 3]? = some (.int .i64 (rs[i].f : Nat)) ∧ (flatR rs)[i * 3 + 1]? = some (.int .i64 (rs[i].t : Nat)) ∧ (flatR rs)[i * 3 + 2]? = some (.int .i8 rs[i].l) := by
  induction rs generalizing i with
  | nil => simp at hi
  | cons x t ih =>
    have e : flatR (x :: t) = cellsR x ++ flatR t := by simp [flatR]
    rw [e]
    cases i with
    | zero => simp [cellsR]
    | succ i =>
      have hi' : i < t.length := by simpa using hi
      have h := ih i hi'
      have hl : (cellsR x).length = 3 := rfl
      refine ⟨?_, ?_, ?_⟩
      · rw [List.getElem?_append_right (by omega), hl, show (i + 1) * 3 - 3 = i * 3 by omega]; exact h.1
      · rw [List.getElem?_append_right (by omega), hl, show (i + 1) * 3 + 1 - 3 = i * 3 + 1 by omega]; exact h.2.1
      · rw [List.getElem?_append_right (by omega), hl, show (i + 1) * 3 + 2 - 3 = i * 3 + 2 by omega]; exact h.2.2
theorem flatR_set (rs : List RunD) (r : RunD) (t : Nat) (x : Int) (hx : x = (t : Nat)) : (flatR (rs ++ [r])).set (rs.length * 3 + 1) (.int .i64 x) = flatR (rs ++ [⟨r.f, t, r.l⟩]) := by
  subst hx
  rw [flatR_push, flatR_push, List.set_append_right _ _ (by rw [flatR_length]; omega), flatR_length, show rs.length * 3 + 1 - rs.length * 3 = 1 by omega]
  rfl

theorem Try.elemRun : ElemN Try.prog 61 68 (.agg #[.int .i64 0, .int .i64 0, .int .i8 0]) 3 24 := ⟨Try.underlying61, by kernel_rfl, by kernel_rfl, by decide⟩
def OwnR (B : Nat) (w : World) (a : Option Addr) (n c : Nat) (rs : List RunD) : Prop := w.ownsRow B 68 3 (.slice a n c) n (flatR rs)
theorem OwnR.len {B : Nat} {w : World} {a : Option Addr} {n c : Nat} {rs : List RunD} (h : OwnR B w a n c rs) : rs.length = n := by
  have := h.1
  rw [flatR_length] at this
  omega
def RunsAt (w : World) (a : Option Addr) (rs : List RunD) : Prop :=
  ∀ i (h : i < rs.length), ∃ b o, a = some ⟨b, o, none⟩ ∧ w.cell? ⟨b, o + i * 3, none⟩ = some (.int .i64 (rs[i].f : Nat)) ∧ w.cell? ⟨b, o + i * 3 + 1, none⟩ = some (.int .i64 (rs[i].t : Nat)) ∧ w.cell? ⟨b, o + i * 3 + 2, none⟩ = some (.int .i8 rs[i].l)
theorem RunsAt.get {w : World} {b o : Nat} {rs : List RunD} (h : RunsAt w (some ⟨b, o, none⟩) rs) (i : Nat) (hi : i < rs.length) :
    w.cell? ⟨b, o + i * 3, none⟩ = some (.int .i64 (rs[i].f : Nat)) ∧ w.cell? ⟨b, o + i * 3 + 1, none⟩ = some (.int .i64 (rs[i].t : Nat)) ∧ w.cell? ⟨b, o + i * 3 + 2, none⟩ = some (.int .i8 rs[i].l) := by
  obtain ⟨b', o', e, hc⟩ := h i hi
  simp only [Option.some.injEq, Addr.mk.injEq, and_true] at e
  obtain ⟨rfl, rfl⟩ := e
  exact hc
theorem RunsAt.some {w : World} {a : Option Addr} {rs : List RunD} (h : RunsAt w a rs) (hn : 0 < rs.length) : ∃ b o, a = Option.some ⟨b, o, none⟩ := by
  obtain ⟨b, o, e, _⟩ := h 0 hn
  exact ⟨b, o, e⟩
theorem RunsAt.below {w w' : World} {B : Nat} {a : Option Addr} {rs : List RunD} (h : RunsAt w a rs) (hb : Below B w w') (hB : w.heap.size ≤ B) : RunsAt w' a rs := by
  intro i hi
  obtain ⟨b, o, rfl, h1, h2, h3⟩ := h i hi
  have hl : b < B := Nat.lt_of_lt_of_le (World.block_lt_of_cell? w _ h1) hB
  exact ⟨b, o, rfl, by rw [hb.cell (p := ⟨b, o + i * 3, none⟩) hl]; exact h1, by rw [hb.cell (p := ⟨b, o + i * 3 + 1, none⟩) hl]; exact h2, by rw [hb.cell (p := ⟨b, o + i * 3 + 2, none⟩) hl]; exact h3⟩
theorem OwnR.at {B : Nat} {w : World} {a : Option Addr} {n c : Nat} {rs : List RunD} (h : OwnR B w a n c rs) (hn : 0 < n) : ∃ g, a = some ⟨g, 0, none⟩ ∧ B ≤ g ∧ g < w.heap.size ∧ n ≤ c ∧ c ≤ maxLen := by
  rcases h.2 with ⟨_, h0⟩ | ⟨g, cap', cur, e, hb, hg, hnc, hcm, _⟩
  · omega
  · simp only [Value.slice.injEq] at e
    obtain ⟨rfl, _, rfl⟩ := e
    exact ⟨g, rfl, hb, (Array.getElem?_eq_some_iff.1 hg).1, hnc, hcm⟩
theorem OwnR.runs {B : Nat} {w : World} {a : Option Addr} {n c : Nat} {rs : List RunD} (h : OwnR B w a n c rs) : RunsAt w a rs := by
  intro i hi
  have hl := h.len
  obtain ⟨g, rfl, _⟩ := h.at (by omega)
  obtain ⟨h1, h2, h3⟩ := flatR_get rs i hi
  refine ⟨g, 0, rfl, ?_, ?_, ?_⟩
  · rw [Nat.zero_add, World.ownsRow.cellAt h (i * 3) (by omega)]; exact h1
  · rw [Nat.zero_add, World.ownsRow.cellAt h (i * 3 + 1) (by omega)]; exact h2
  · rw [Nat.zero_add, World.ownsRow.cellAt h (i * 3 + 2) (by omega)]; exact h3
theorem OwnR.below {B B' : Nat} {w w' : World} {a : Option Addr} {n c : Nat} {rs : List RunD} (h : OwnR B w a n c rs) (hb : Below B' w w') (hB : w.heap.size ≤ B') : OwnR B w' a n c rs := by
  refine ⟨h.1, ?_⟩
  rcases h.2 with hn | ⟨g, cap, cur, e, hbg, hgg, rest⟩
  · exact .inl hn
  · exact .inr ⟨g, cap, cur, e, hbg, by rw [hb.block g (by have := (Array.getElem?_eq_some_iff.1 hgg).1; omega)]; exact hgg, rest⟩
theorem OwnR.nil (B : Nat) (w : World) : OwnR B w none 0 0 [] := World.ownsRow_nil w B _ 3
theorem OwnR.blk {B : Nat} {w : World} {a : Option Addr} {n c : Nat} {rs : List RunD} (h : OwnR B w a n c rs) : ∀ k, (Value.slice a n c).ownBlock = some k → B ≤ k := fun k hk => (World.ownsRow.lt h k hk).1
theorem OwnR.app {B : Nat} {w w' : World} {a : Option Addr} {n c : Nat} {rs : List RunD} (h : OwnR B w a n c rs) (hg : w.grownBy w' (Value.slice a n c).ownBlock) (hB : B ≤ w.heap.size) : Below B w w' := Below.ofGrown hg hB h.blk

theorem drewN_grow (w : World) (os : Array Obj) (q : Nat) : (grow w os).drewN q = grow (w.drewN q) os := rfl

set_option maxHeartbeats 1000000 in
/-- the comparison -/
theorem runsCmp_walk (lv : List Int) (bx n cA : Nat) (aA : Option Addr) (x y : RunD) (W : World) (hn : lv.length = n) (hlt : n ≤ 1048576) (hbx : W.cell? ⟨bx, 0, none⟩ = some (.slice aA n cA)) (hA : Ints .i64 W aA (placesL lv)) (hx : RunOk lv lv.length x) (hy : RunOk lv lv.length y) :
    Calls Try.prog 52 #[.agg #[.int .i64 (x.f : Nat), .int .i64 (x.t : Nat), .int .i8 x.l], .agg #[.int .i64 (y.f : Nat), .int .i64 (y.t : Nat), .int .i8 y.l], .pointer (some ⟨bx, 0, none⟩)] W fun e w' => e = .returned (.int .i64 (keyR lv x - keyR lv y)) ∧ ∃ q os', w' = grow (W.drewN q) os' := by
  have hxl : x.f < lv.length := by have := hx.lt; have := hx.le; omega
  have hyl : y.f < lv.length := by have := hy.lt; have := hy.le; omega
  obtain ⟨b, o, ha⟩ := hA.some (by rw [placesL_length]; omega)
  subst ha
  have c1 := hA.get x.f (by rw [placesL_length]; exact hxl)
  have c2 := hA.get y.f (by rw [placesL_length]; exact hyl)
  have e1 : (placesL lv)[x.f]'(by rw [placesL_length]; exact hxl) = keyR lv x := by simp [keyR, placesL_length, hxl]
  have e2 : (placesL lv)[y.f]'(by rw [placesL_length]; exact hyl) = keyR lv y := by simp [keyR, placesL_length, hyl]
  rw [e1] at c1
  rw [e2] at c2
  have b1 := keyR_bd hx
  have b2 := keyR_bd hy
  have hbl := World.block_lt_of_cell? W _ c1
  have hbxl := World.block_lt_of_cell? W _ hbx
  simp only at hbl hbxl
  have i1 : (x.f : Int) < (n : Int) := by omega
  have i2 : (y.f : Int) < (n : Int) := by omega
  have b1' : keyR lv x ≤ 1048576 := by omega
  have b2' : keyR lv y ≤ 1048576 := by omega
  have b10 := b1.1
  have b20 := b2.1
  clear e1 e2 hA b1 b2 hx hy hn
  generalize keyR lv x = kx at *
  generalize keyR lv y = ky at *
  have hsub : IntKind.i64.wrap (kx - ky) = kx - ky := IntWalk.i64_in _ (by omega)
  go_enter Try.func52, Try.ntmps52
  go_wp2
  go_quiet (fail)
  go_wp2
  go_ret
  exact ⟨rfl, _, _, by rw [alloc_eq_grow, alloc_eq_grow, grow_grow, drewN_grow]⟩
end Go.Proofs.Ytcgdhgdblieaiaa
