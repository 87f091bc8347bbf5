/-
  Tries in memory: their blocks as cells.
-/
import Derived.Test.YtabbabkmojaoaaaBase5
import Derived.Test.YtabbabkmojaoaaaTM
import Derived.Deep.MidRow
set_option linter.unusedVariables false
namespace Go.Proofs.Ytabbabkmojaoaaa
open Go.RowKit

/-- a trie: its three stages -/
structure TrieD (α : Type) where
  top : List Nat
  mid : List (List Nat)
  low : List (List α)

def num16 (k : Nat) : Value := .int .u16 (k : Nat)
theorem num16_inj {a b : Nat} (h : num16 a = num16 b) : a = b := by
  simp only [num16, Value.int.injEq, true_and] at h
  omega
def val8 (x : Int) : Value := .int .u8 x

section
variable {α : Type}
/-- the blocks that a slice holds -/
def BlocksAt (val : α → Value) (n : Nat) (w : World) (a : Option Addr) (L : List (List α)) : Prop :=
  ∀ i, (h : i < L.length) → ∃ b o, a = some ⟨b, o, none⟩ ∧ w.rangeAt b (o + i * n) (blkC val L[i])
theorem BlocksAt.get {val : α → Value} {n : Nat} {w : World} {b o : Nat} {L : List (List α)} (h : BlocksAt val n w (some ⟨b, o, none⟩) L) (i : Nat) (hi : i < L.length) : w.rangeAt b (o + i * n) (blkC val L[i]) := by
  obtain ⟨b', o', e, hc⟩ := h i hi
  simp only [Option.some.injEq, Addr.mk.injEq, and_true] at e
  obtain ⟨rfl, rfl⟩ := e
  exact hc
theorem BlocksAt.some {val : α → Value} {n : Nat} {w : World} {a : Option Addr} {L : List (List α)} (h : BlocksAt val n w a L) (hn : 0 < L.length) : ∃ b o, a = Option.some ⟨b, o, none⟩ := by
  obtain ⟨b, o, e, _⟩ := h 0 hn
  exact ⟨b, o, e⟩
theorem rangeAt_below {w w' : World} {B b o : Nat} {cs : List Value} (h : w.rangeAt b o cs) (hb : Below B w w') (hB : w.heap.size ≤ B) : w'.rangeAt b o cs := fun j v hv => by
  have h1 := h j v hv
  rw [hb.cell (p := ⟨b, o + j, none⟩) (Nat.lt_of_lt_of_le (World.block_lt_of_cell? w _ h1) hB)]
  exact h1
theorem BlocksAt.below {val : α → Value} {n : Nat} {w w' : World} {B : Nat} {a : Option Addr} {L : List (List α)} (h : BlocksAt val n w a L) (hb : Below B w w') (hB : w.heap.size ≤ B) : BlocksAt val n w' a L := fun i hi => by
  obtain ⟨b, o, e, hr⟩ := h i hi
  exact ⟨b, o, e, rangeAt_below hr hb hB⟩
/-- one cell of a block of one-cell elements -/
theorem blkC_get {val : α → Value} (h1 : ∀ a, (val a).cells.toList = [val a]) (l : List α) (j : Nat) (hj : j < l.length) : (blkC val l)[j]? = some (val l[j]) := by
  induction l generalizing j with
  | nil => simp at hj
  | cons a l ih =>
    rw [blkC, List.flatMap_cons, ← blkC, h1]
    cases j with
    | zero => simp
    | succ j => simpa using ih j (by simpa using hj)
theorem BlocksAt.cell {val : α → Value} (h1 : ∀ a, (val a).cells.toList = [val a]) {n : Nat} {w : World} {b o : Nat} {L : List (List α)} (h : BlocksAt val n w (Option.some ⟨b, o, none⟩) L) (i : Nat) (hi : i < L.length) (j : Nat) (hj : j < L[i].length) :
    w.cell? ⟨b, o + i * n + j, none⟩ = Option.some (val L[i][j]) := h.get i hi j _ (blkC_get h1 _ j hj)

def trieC (T : TrieD α) (am : Option Addr) (cm : Nat) (al : Option Addr) (cl : Nat) : List Value := T.top.map num16 ++ [Value.slice am T.mid.length cm, Value.slice al T.low.length cl]
/-- a trie's own block -/
def TrieAt (val : α → Value) (ty : TypeId) (n : Nat) (w : World) (g : Nat) (T : TrieD α) : Prop :=
  ∃ am cm al cl, w.heap[g]? = some (.cells (trieC T am cm al cl).toArray ty (0, 0)) ∧ BlocksAt num16 64 w am T.mid ∧ BlocksAt val n w al T.low
/-- its numbers are such as lead to blocks -/
structure TrieOk (T : TrieD α) : Prop where
  top : T.top.length = 272
  mid : ∀ m ∈ T.mid, m.length = 64
  low : ∀ l ∈ T.low, l.length = 64
  topN : ∀ k ∈ T.top, k < T.mid.length
  midN : ∀ m ∈ T.mid, ∀ k ∈ m, k < T.low.length
  midL : T.mid.length ≤ 272
  lowL : T.low.length ≤ 17408
theorem TrieAt.below {val : α → Value} {ty : TypeId} {n : Nat} {w w' : World} {B g : Nat} {T : TrieD α} (h : TrieAt val ty n w g T) (hb : Below B w w') (hB : w.heap.size ≤ B) : TrieAt val ty n w' g T := by
  obtain ⟨am, cm, al, cl, h1, h2, h3⟩ := h
  exact ⟨am, cm, al, cl, by rw [hb.block g (by have := (Array.getElem?_eq_some_iff.1 h1).1; omega)]; exact h1, h2.below hb hB, h3.below hb hB⟩
theorem TrieAt.cell_mid {val : α → Value} {ty : TypeId} {w : World} {g : Nat} {T : TrieD α} {am : Option Addr} {cm : Nat} {al : Option Addr} {cl : Nat} (hk : TrieOk T) (h : w.heap[g]? = some (.cells (trieC T am cm al cl).toArray ty (0, 0))) :
    w.cell? ⟨g, 272, none⟩ = some (.slice am T.mid.length cm) := by
  rw [cell_of_row w g 272 _ _ (0, 0) h]
  simp [trieC, hk.top]
theorem TrieAt.cell_low {val : α → Value} {ty : TypeId} {w : World} {g : Nat} {T : TrieD α} {am : Option Addr} {cm : Nat} {al : Option Addr} {cl : Nat} (hk : TrieOk T) (h : w.heap[g]? = some (.cells (trieC T am cm al cl).toArray ty (0, 0))) :
    w.cell? ⟨g, 273, none⟩ = some (.slice al T.low.length cl) := by
  rw [cell_of_row w g 273 _ _ (0, 0) h]
  simp [trieC, hk.top]
theorem TrieAt.cell_top {val : α → Value} {ty : TypeId} {w : World} {g : Nat} {T : TrieD α} {am : Option Addr} {cm : Nat} {al : Option Addr} {cl : Nat} (hk : TrieOk T) (h : w.heap[g]? = some (.cells (trieC T am cm al cl).toArray ty (0, 0))) (j : Nat) (hj : j < 272) :
    w.cell? ⟨g, j, none⟩ = some (num16 (T.top.getD j 0)) := by
  have hjl : j < T.top.length := by rw [hk.top]; exact hj
  rw [cell_of_row w g j _ _ (0, 0) h]
  simp [trieC, hjl, List.getElem?_append]
/-- what a trie gives of a number -/
def lookT (d : α) (T : TrieD α) (r : Nat) : α := ((T.low.getD ((T.mid.getD (T.top.getD (r / 4096) 0) []).getD (r / 64 % 64) 0) []).getD (r % 64) d)
/-- a number that is none is looked up as FFFD -/
def runeR (r : Int) : Nat := if r < 0 ∨ 1114111 < r then 65533 else r.toNat
theorem runeR_le (r : Int) : runeR r ≤ 1114111 := by unfold runeR; split <;> omega
end
theorem num16_cells (k : Nat) : (num16 k).cells.toList = [num16 k] := rfl
theorem val8_cells (k : Int) : (val8 k).cells.toList = [val8 k] := rfl
end Go.Proofs.Ytabbabkmojaoaaa
