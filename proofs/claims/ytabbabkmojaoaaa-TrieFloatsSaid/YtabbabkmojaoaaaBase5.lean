/-
  Small laws over the model alone: stores of several cells into rows of the call's own.
-/
import Derived.Test.YtabbabkmojaoaaaBase4
import Derived.Deep.MidRow
set_option linter.unusedVariables false
namespace Go.Proofs.Ytabbabkmojaoaaa
open Go.RowKit

theorem grown_storeN (b : Nat) : ∀ (vs : List Value) (o : Nat) (w : World), w.grownBy (w.setCells b o vs) (some b)
  | [], o, w => ⟨rfl, rfl, rfl, Nat.le_refl _, fun _ _ _ => rfl⟩
  | v :: r, o, w => by
    have h1 := grown_store w b o v
    have h2 := grown_storeN b r (o + 1) (w.setCell ⟨b, o, none⟩ v)
    rw [World.setCells]
    refine ⟨h2.os.trans h1.os, h2.tape.trans h1.tape, h2.output.trans h1.output, Nat.le_trans h1.size h2.size, fun k hk hne => ?_⟩
    rw [h2.block k (Nat.lt_of_lt_of_le hk h1.size) hne, h1.block k hk hne]
theorem below_setCells {B : Nat} {w w' : World} (h : Below B w w') (b o : Nat) (vs : List Value) (hb : B ≤ b) : Below B w (w'.setCells b o vs) := by
  induction vs generalizing o w' with
  | nil => exact h
  | cons v r ih => rw [World.setCells]; exact ih (h.setCell (p := ⟨b, o, none⟩) hb v) (o + 1)

/-- a row of the call's own, whatever stands in it, s cells an element -/
def Any (s B : Nat) (E : TypeId) (w : World) (a : Option Addr) (n cap : Nat) : Prop := ∃ xs, w.ownsRow B E s (.slice a n cap) n xs
theorem Any.at {s B : Nat} {E : TypeId} {w : World} {a : Option Addr} {n cap : Nat} (h : Any s B E w a n cap) (hn : 0 < n) : ∃ g, a = some ⟨g, 0, none⟩ ∧ B ≤ g ∧ g < w.heap.size := by
  obtain ⟨xs, h⟩ := h
  rcases h.2 with ⟨e, h0⟩ | ⟨g, cap', cur, e, hb, hg, _⟩
  · omega
  · simp only [Value.slice.injEq] at e
    obtain ⟨rfl, _, rfl⟩ := e
    exact ⟨g, rfl, hb, (Array.getElem?_eq_some_iff.1 hg).1⟩
theorem Any.there {s B : Nat} {E : TypeId} {w : World} {g n cap : Nat} (h : Any s B E w (some ⟨g, 0, none⟩) n cap) (i : Nat) (hi : i < n) : w.there g (i * s) s := by
  obtain ⟨xs, h⟩ := h
  intro j hj
  have hlt : i * s + j < n * s := by
    calc i * s + j < i * s + s := by omega
      _ = (i + 1) * s := by rw [Nat.add_mul, Nat.one_mul]
      _ ≤ n * s := Nat.mul_le_mul_right _ (by omega)
  refine ⟨?_, World.ownsRow.frozenAt h _⟩
  rw [World.ownsRow.cellAt h _ hlt]
  have := h.1
  rw [List.getElem?_eq_getElem (by omega)]
  rfl
theorem Any.setCells {s B : Nat} {E : TypeId} {w : World} {g n cap : Nat} (h : Any s B E w (some ⟨g, 0, none⟩) n cap) (o : Nat) (vs : List Value) : Any s B E (w.setCells g o vs) (some ⟨g, 0, none⟩) n cap := by
  induction vs generalizing o w with
  | nil => exact h
  | cons v r ih =>
    rw [World.setCells]
    obtain ⟨xs, h⟩ := h
    exact ih ⟨_, (World.ownsRow.stored h o v).1⟩ (o + 1)
theorem Own2.any {B : Nat} {E : TypeId} {w : World} {a : Option Addr} {n cap : Nat} {ps : List (Nat × Nat)} (h : Own2 B E w a n cap ps) : Any 2 B E w a n cap := ⟨_, h⟩
theorem Own.any {B : Nat} {E : TypeId} {w : World} {a : Option Addr} {n cap : Nat} {xs : List Value} (h : Own B E w a n cap xs) : Any 1 B E w a n cap := ⟨_, h⟩
theorem ownsRow_apart {B s : Nat} {E : TypeId} {w : World} {a : Option Addr} {n cap : Nat} {xs : List Value} (h : w.ownsRow B E s (.slice a n cap) n xs) {g : Nat} (hg : g < B) : (Value.slice a n cap).ownBlock = none ∨ (Value.slice a n cap).ownBlock ≠ some g := by
  cases hk : (Value.slice a n cap).ownBlock with
  | none => exact .inl rfl
  | some k => exact .inr (fun e => by have := (World.ownsRow.lt h k hk).1; simp at e; omega)
theorem Own2.setLow {B : Nat} {E : TypeId} {w : World} {a : Option Addr} {n cap : Nat} {ps : List (Nat × Nat)} (h : Own2 B E w a n cap ps) (g o : Nat) (vs : List Value) (hg : g < B) : Own2 B E (w.setCells g o vs) a n cap ps :=
  World.ownsRow.kept h (grown_storeN g vs o w) (ownsRow_apart h hg)
theorem Any.setLow {s B : Nat} {E : TypeId} {w : World} {a : Option Addr} {n cap : Nat} (h : Any s B E w a n cap) (g o : Nat) (vs : List Value) (hg : g < B) : Any s B E (w.setCells g o vs) a n cap := by
  obtain ⟨xs, h⟩ := h
  exact ⟨xs, World.ownsRow.kept h (grown_storeN g vs o w) (ownsRow_apart h hg)⟩
/-- two cells, as a store of a pair meets them -/
theorem there_two {w : World} {g o : Nat} (h : w.there g o 2) (x : Value) : ∃ u0 u1, w.cell? ⟨g, o, none⟩ = some u0 ∧ w.frozen? ⟨g, o, none⟩ = false ∧ (w.setCell ⟨g, o, none⟩ x).cell? ⟨g, o + 1, none⟩ = some u1 ∧ (w.setCell ⟨g, o, none⟩ x).frozen? ⟨g, o + 1, none⟩ = false := by
  obtain ⟨h0, f0⟩ := h 0 (by omega)
  obtain ⟨h1, f1⟩ := h 1 (by omega)
  obtain ⟨u0, e0⟩ := Option.isSome_iff_exists.1 h0
  obtain ⟨u1, e1⟩ := Option.isSome_iff_exists.1 h1
  refine ⟨u0, u1, e0, f0, ?_, ?_⟩
  · rw [World.cell?_setCell_other _ _ _ _ (by simp)]; exact e1
  · have := World.frozen?_setCells g [x] o w ⟨g, o + 1, none⟩
    rw [World.setCells, World.setCells] at this
    rw [this]; exact f1
end Go.Proofs.Ytabbabkmojaoaaa
