/-
  Small laws over the model alone: the first part of a row of the call's own.
-/
import Derived.Test.YtabbabkmojaoaaaBase2
set_option linter.unusedVariables false
namespace Go.Proofs.Ytabbabkmojaoaaa
open Go.RowKit

theorem Own.take {B : Nat} {E : TypeId} {w : World} {a : Option Addr} {n cap : Nat} {xs : List Value} (h : Own B E w a n cap xs) (m : Nat) (hm : m ≤ n) : Own B E w a m cap (xs.take m) := by
  have hl := h.len
  refine ⟨by simp; omega, ?_⟩
  rcases h.2 with ⟨e, h0⟩ | ⟨g, cap', cur, e, hb, hg, hnc, hcm, hcs, ht⟩
  · simp at e
    obtain ⟨rfl, rfl, rfl⟩ := e
    obtain rfl : m = 0 := by omega
    exact .inl ⟨rfl, rfl⟩
  · simp only [Value.slice.injEq] at e
    obtain ⟨rfl, _, rfl⟩ := e
    refine .inr ⟨g, cap, cur, rfl, hb, hg, by omega, hcm, hcs, ?_⟩
    rw [← ht, List.take_take]
    congr 1
    omega
def natsI (l : List Nat) : List Int := l.map (fun (j : Nat) => (j : Int))
theorem natsI_length (l : List Nat) : (natsI l).length = l.length := by simp [natsI]
theorem natsI_push (l : List Nat) (x : Nat) : natsI (l ++ [x]) = natsI l ++ [(x : Int)] := by simp [natsI]
theorem natsI_dropLast (l : List Nat) : natsI l.dropLast = (natsI l).take (l.length - 1) := by
  unfold natsI
  rw [List.dropLast_eq_take, List.map_take]
theorem ivs_take (k : IntKind) (l : List Int) (m : Nat) : (ivs k l).take m = ivs k (l.take m) := by simp [ivs, List.map_take]
/-- where the row's own block is -/
theorem Own.blockAt {B : Nat} {E : TypeId} {w : World} {a : Option Addr} {n cap : Nat} {xs : List Value} (h : Own B E w a n cap xs) {g : Nat} (hg : g < B) : (Value.slice a n cap).ownBlock = none ∨ (Value.slice a n cap).ownBlock ≠ some g := by
  cases hk : (Value.slice a n cap).ownBlock with
  | none => exact .inl rfl
  | some k => exact .inr (fun e => by have := h.blk k hk; simp at e; omega)
theorem Own.form {B : Nat} {E : TypeId} {w : World} {a : Option Addr} {n cap : Nat} {xs : List Value} (h : Own B E w a n cap xs) : (a = none ∧ n = 0 ∧ cap = 0) ∨ ∃ g, a = some ⟨g, 0, none⟩ ∧ B ≤ g ∧ g < w.heap.size ∧ n ≤ cap ∧ cap ≤ maxLen := by
  rcases h.2 with ⟨e, h0⟩ | ⟨g, cap', cur, e, hb, hg, hnc, hcm, hcs, ht⟩
  · simp at e
    exact .inl e
  · simp only [Value.slice.injEq] at e
    obtain ⟨rfl, _, rfl⟩ := e
    exact .inr ⟨g, rfl, hb, (Array.getElem?_eq_some_iff.1 hg).1, hnc, hcm⟩
theorem size_set (w : World) (p : Addr) (u : Value) : (w.setCell p u).heap.size = w.heap.size := by simp
theorem below_seq {w w1 w2 : World} (h1 : Below w.heap.size w w1) (h2 : Below w1.heap.size w1 w2) : Below w.heap.size w w2 := h1.trans (h2.mono h1.size)
end Go.Proofs.Ytabbabkmojaoaaa
