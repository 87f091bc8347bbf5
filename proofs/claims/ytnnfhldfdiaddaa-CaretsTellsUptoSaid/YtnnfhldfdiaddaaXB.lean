/-
  Lines whose memory lies from a block on: they stay whatever turns below it.
-/
import Derived.Test.YtnnfhldfdiaddaaX1
import Derived.Test.YtnnfhldfdiaddaaRF1
set_option linter.unusedVariables false
namespace Go.Proofs.Ytnnfhldfdiaddaa
open Go.RowKit

def Ab (B : Nat) (a : Option Addr) : Prop := ∀ b o s, a = some ⟨b, o, s⟩ → B ≤ b
theorem Own.ab {B : Nat} {E : TypeId} {w : World} {a : Option Addr} {n cap : Nat} {xs : List Value} (h : Own B E w a n cap xs) : Ab B a := by
  rintro b o s rfl
  exact h.blk b rfl
theorem Ab.mono {B B' : Nat} {a : Option Addr} (h : Ab B a) (hB : B' ≤ B) : Ab B' a := fun b o s e => Nat.le_trans hB (h b o s e)
theorem ints_but {n : Nat} {X : Nat → Prop} {W W' : World} {k : IntKind} {a : Option Addr} {zs : List Int} (h : Ints k W a zs) (hb : But n X W W') (hn : W.heap.size ≤ n) (ha : ∀ b o, a = some ⟨b, o, none⟩ → ¬ X b) : Ints k W' a zs := by
  intro i hi
  obtain ⟨b, o, rfl, hc⟩ := h i hi
  exact ⟨b, o, rfl, hb.cell hc (Nat.lt_of_lt_of_le (World.block_lt_of_cell? W _ hc) hn) (ha b o rfl)⟩
structure IsLineX (B : Nat) (w : World) (g : Nat) (base : Int) (lv ws : List Int) : Prop where
  ok : LineOk base lv ws
  gB : B ≤ g
  mem : ∃ aL cL aO cO aA cA aC cC, w.heap[g]? = some (.cells #[.int .i8 base, .slice aL lv.length cL, .slice aO (ord lv).length cO, .slice aA lv.length cA, .slice aC ((ord lv).length + 1) cC] 64 (0, 0)) ∧
    (Ints .i8 w aL lv ∧ Ints .i64 w aO (ord lv) ∧ Ints .i64 w aA (placesL lv) ∧ Ints .i64 w aC (colsL ws (ord lv))) ∧ Ab B aL ∧ Ab B aO ∧ Ab B aA ∧ Ab B aC
theorem IsLineX.line {B : Nat} {w : World} {g : Nat} {base : Int} {lv ws : List Int} (h : IsLineX B w g base lv ws) : IsLine w g base lv ws := by
  obtain ⟨aL, cL, aO, cO, aA, cA, aC, cC, h1, h2, _⟩ := h.mem
  exact ⟨h.ok, aL, cL, aO, cO, aA, cA, aC, cC, h1, h2⟩
theorem IsLineX.but {B n : Nat} {X : Nat → Prop} {w w' : World} {g : Nat} {base : Int} {lv ws : List Int} (h : IsLineX B w g base lv ws) (hb : But n X w w') (hn : w.heap.size ≤ n) (hX : ∀ k, X k → k < B) : IsLineX B w' g base lv ws := by
  obtain ⟨aL, cL, aO, cO, aA, cA, aC, cC, h1, ⟨i1, i2, i3, i4⟩, b1, b2, b3, b4⟩ := h.mem
  have hx : ∀ b, B ≤ b → ¬ X b := fun b hb hx => by have := hX b hx; omega
  exact ⟨h.ok, h.gB, aL, cL, aO, cO, aA, cA, aC, cC, hb.keep h1 (Nat.lt_of_lt_of_le (Array.getElem?_eq_some_iff.1 h1).1 hn) (hx _ h.gB),
    ⟨ints_but i1 hb hn (fun b o e => hx b (b1 b o _ e)), ints_but i2 hb hn (fun b o e => hx b (b2 b o _ e)), ints_but i3 hb hn (fun b o e => hx b (b3 b o _ e)), ints_but i4 hb hn (fun b o e => hx b (b4 b o _ e))⟩, b1, b2, b3, b4⟩
theorem IsLineX.below {B : Nat} {w w' : World} {g : Nat} {base : Int} {lv ws : List Int} (h : IsLineX B w g base lv ws) (hb : Below w.heap.size w w') : IsLineX B w' g base lv ws :=
  h.but (X := fun _ => False) (But.of_below hb) (Nat.le_refl _) (fun _ h => h.elim)

/-- the document's line, that keeps the lists it was given -/
structure RefX (B : Nat) (w : World) (g : Nat) (base : Int) (lv ws : List Int) (a : Option Addr) (cap : Nat) (a1 : Option Addr) (cap1 : Nat) : Prop where
  ok : LineOk base lv ws
  gB : B ≤ g
  mem : ∃ aO cO aA cA, w.heap[g]? = some (.cells #[.int .i8 base, .slice a lv.length cap, .slice a1 ws.length cap1, .slice aO (ord lv).length cO, .slice aA lv.length cA] 73 (0, 0)) ∧
    (Ints .i64 w aO (ord lv) ∧ Ints .i64 w aA (placesL lv)) ∧ Ab B aO ∧ Ab B aA
theorem RefX.ref {B : Nat} {w : World} {g : Nat} {base : Int} {lv ws : List Int} {a : Option Addr} {cap : Nat} {a1 : Option Addr} {cap1 : Nat} (h : RefX B w g base lv ws a cap a1 cap1) (i1 : Ints .i8 w a lv) (i2 : Ints .i64 w a1 ws) : IsRef w g base lv ws := by
  obtain ⟨aO, cO, aA, cA, h1, ⟨i3, i4⟩, _⟩ := h.mem
  exact ⟨h.ok, a, cap, a1, cap1, aO, cO, aA, cA, h1, i1, i2, i3, i4⟩
theorem RefX.but {B n : Nat} {X : Nat → Prop} {w w' : World} {g : Nat} {base : Int} {lv ws : List Int} {a : Option Addr} {cap : Nat} {a1 : Option Addr} {cap1 : Nat} (h : RefX B w g base lv ws a cap a1 cap1) (hb : But n X w w') (hn : w.heap.size ≤ n) (hX : ∀ k, X k → k < B) : RefX B w' g base lv ws a cap a1 cap1 := by
  obtain ⟨aO, cO, aA, cA, h1, ⟨i3, i4⟩, b3, b4⟩ := h.mem
  have hx : ∀ b, B ≤ b → ¬ X b := fun b hb hx => by have := hX b hx; omega
  exact ⟨h.ok, h.gB, aO, cO, aA, cA, hb.keep h1 (Nat.lt_of_lt_of_le (Array.getElem?_eq_some_iff.1 h1).1 hn) (hx _ h.gB), ⟨ints_but i3 hb hn (fun b o e => hx b (b3 b o _ e)), ints_but i4 hb hn (fun b o e => hx b (b4 b o _ e))⟩, b3, b4⟩
theorem RefX.below {B : Nat} {w w' : World} {g : Nat} {base : Int} {lv ws : List Int} {a : Option Addr} {cap : Nat} {a1 : Option Addr} {cap1 : Nat} (h : RefX B w g base lv ws a cap a1 cap1) (hb : Below w.heap.size w w') : RefX B w' g base lv ws a cap a1 cap1 :=
  h.but (X := fun _ => False) (But.of_below hb) (Nat.le_refl _) (fun _ h => h.elim)
end Go.Proofs.Ytnnfhldfdiaddaa
