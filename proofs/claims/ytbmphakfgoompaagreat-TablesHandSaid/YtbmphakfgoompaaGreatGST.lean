/- several texts in one: TI TB2 TT0 -/
import Derived.Test.YtbmphakfgoompaaGreatGTD
import Derived.Test.YtbmphakfgoompaaGreatHSP8
import Derived.Laws.BytesArg
import Derived.Deep.RegionLaw
import Derived.Lib.QuietBelow
import Derived.Great.BuildSlice
import Derived.Test.YtbmphakfgoompaaGreatGR
set_option linter.unusedVariables false
set_option linter.unusedSimpArgs false
/-
 The plain look through spans (naive).
-/
namespace Go.Proofs.YtbmphakfgoompaaGreat
open Go.RowKit

theorem ownF_hit {l : List SpanD} {x : Int} {k : Nat} (hk : k < l.length) (h : hasS x l[k] = true) (hno : ∀ j (hj : j < k), ¬ hasS x (l[j]'(by omega)) = true) : ownF l x = (k : Int) + 1 := by
 have e : l.findIdx? (hasS x) = some k := by
  rw [List.findIdx?_eq_some_iff_getElem]
  exact ⟨hk, h, fun j hj => by have := hno j hj; simpa using this⟩
 unfold ownF
 rw [e]
theorem ownF_none {l : List SpanD} {x : Int} (hno : ∀ j (hj : j < l.length), ¬ hasS x l[j] = true) : ownF l x = 0 := by
 have e : l.findIdx? (hasS x) = none := by
  rw [List.findIdx?_eq_none_iff]
  intro s hs
  obtain ⟨j, hj, rfl⟩ := List.mem_iff_getElem.1 hs
  have := hno j hj
  simpa using this
 unfold ownF
 rw [e]
theorem fS_hit {rest : Int} {l : List SpanD} {r k : Nat} (hk : k < l.length) (h : hasS (r : Nat) l[k] = true) (hno : ∀ j (hj : j < k), ¬ hasS (r : Nat) (l[j]'(by omega)) = true) : fS rest l r = l[k].v := by
 unfold fS
 rw [ownF_hit hk h hno, if_neg (by omega), show ((k : Int) + 1 - 1).toNat = k by omega]
 simp [hk]
theorem fS_none {rest : Int} {l : List SpanD} {r : Nat} (hno : ∀ j (hj : j < l.length), ¬ hasS (r : Nat) l[j] = true) : fS rest l r = rest := by
 unfold fS
 rw [ownF_none hno, if_pos rfl]
end Go.Proofs.YtbmphakfgoompaaGreat

/-
 Plain laws: a function built of its own stretches; spans turned round.
-/
namespace Go.Proofs.YtbmphakfgoompaaGreat

/-- stretches that lie one behind the other, from a up to b, and tell f -/
def Tile (f : Nat → Int) : List (Stretch Int) → Nat → Nat → Prop
 | [], a, b => a = b
 | s :: l, a, b => s.f = a ∧ s.f ≤ s.t ∧ (∀ r, s.f ≤ r → r ≤ s.t → f r = s.v) ∧ Tile f l (s.t + 1) b
theorem tile_snoc {f : Nat → Int} : ∀ {l : List (Stretch Int)} {a b : Nat} {s : Stretch Int}, Tile f l a b → s.f = b → s.f ≤ s.t → (∀ r, s.f ≤ r → r ≤ s.t → f r = s.v) → Tile f (l ++ [s]) a (s.t + 1)
 | [], a, b, s, h, h1, h2, h3 => ⟨by rw [h1]; exact (show a = b from h).symm, h2, h3, rfl⟩
 | x :: l, a, b, s, ⟨k1, k2, k3, k4⟩, h1, h2, h3 => ⟨k1, k2, k3, tile_snoc k4 h1 h2 h3⟩
theorem tile_le {f : Nat → Int} : ∀ {l : List (Stretch Int)} {a b : Nat}, Tile f l a b → a ≤ b
 | [], a, b, h => Nat.le_of_eq h
 | x :: l, a, b, ⟨k1, k2, k3, k4⟩ => by have := tile_le k4; omega
theorem tile_mem {f : Nat → Int} : ∀ {l : List (Stretch Int)} {a b : Nat}, Tile f l a b → ∀ s ∈ l, a ≤ s.f ∧ s.f ≤ s.t ∧ s.t < b ∧ (∀ r, s.f ≤ r → r ≤ s.t → f r = s.v)
 | [], a, b, h, s, hs => by simp at hs
 | x :: l, a, b, ⟨k1, k2, k3, k4⟩, s, hs => by
  rcases List.mem_cons.1 hs with rfl | hs
  ·have := tile_le k4
   exact ⟨by omega, k2, by omega, k3⟩
  ·have := tile_mem k4 s hs
   exact ⟨by omega, this.2⟩
theorem tile_has {f : Nat → Int} : ∀ {l : List (Stretch Int)} {a b : Nat}, Tile f l a b → ∀ r, a ≤ r → r < b → ∃ s ∈ l, s.f ≤ r ∧ r ≤ s.t
 | [], a, b, h, r, h1, h2 => by have : a = b := h; omega
 | x :: l, a, b, ⟨k1, k2, k3, k4⟩, r, h1, h2 => by
  by_cases h : r ≤ x.t
  ·exact ⟨x, by simp, by omega, h⟩
  ·obtain ⟨s, hs, h3⟩ := tile_has k4 r (by omega) h2
   exact ⟨s, by simp [hs], h3⟩
theorem tile_apart {f : Nat → Int} : ∀ {l : List (Stretch Int)} {a b : Nat}, Tile f l a b → l.Pairwise (fun s t => s.t < t.f)
 | [], a, b, h => List.Pairwise.nil
 | x :: l, a, b, ⟨k1, k2, k3, k4⟩ => List.Pairwise.cons (fun s hs => by have := tile_mem k4 s hs; omega) (tile_apart k4)
theorem tile_spT (f : Nat → Int) (n : Nat) (hn : n ≠ 0) : Tile f (spT neV f n).1 0 (spT neV f n).2 ∧ ∀ r, (spT neV f n).2 ≤ r → r < n → f r = f (spT neV f n).2 := by
 induction n with
 | zero => exact absurd rfl hn
 | succ n ih =>
  by_cases h0 : n = 0
  ·subst h0
   rw [spT_one]
   exact ⟨rfl, fun r _ h => by rw [show r = 0 by omega]⟩
  ·obtain ⟨h1, h2⟩ := ih h0
   have hlt := spT_lt neV f n h0
   by_cases h : neV (f n) (f (spT neV f n).2) = true
   ·rw [spT_cut h0 h]
    refine ⟨?_, fun r h3 h4 => by rw [show r = n by omega]⟩
    have := tile_snoc (s := ⟨(spT neV f n).2, n - 1, f (spT neV f n).2⟩) h1 rfl (by show (spT neV f n).2 ≤ n - 1; omega) (fun r h3 h4 => h2 r h3 (by have : r ≤ n - 1 := h4; omega))
    rwa [show n - 1 + 1 = n by omega] at this
   ·rw [spT_on h0 h]
    refine ⟨h1, fun r h3 h4 => ?_⟩
    by_cases e : r = n
    ·rw [e]
     have : ¬ (f n != f (spT neV f n).2) = true := h
     simpa using this
    ·exact h2 r h3 (by omega)
theorem tile_spL (f : Nat → Int) (n : Nat) (hn : n ≠ 0) : Tile f (spL neV f n) 0 n := by
 obtain ⟨h1, h2⟩ := tile_spT f n hn
 have hlt := spT_lt neV f n hn
 have := tile_snoc (s := ⟨(spT neV f n).2, n - 1, f (spT neV f n).2⟩) h1 rfl (by show (spT neV f n).2 ≤ n - 1; omega) (fun r h3 h4 => h2 r h3 (by have : r ≤ n - 1 := h4; omega))
 rwa [show n - 1 + 1 = n by omega] at this

/-! ### spans -/
def spD (s : Stretch Int) : SpanD := ⟨s.f, s.t, s.v⟩
def Apart (l : List SpanD) : Prop := l.Pairwise (fun s t => ∀ x : Int, ¬ (hasS x s = true ∧ hasS x t = true))
theorem ownF_some {l : List SpanD} {x : Int} (h : ownF l x ≠ 0) : ∃ i, ∃ h : i < l.length, hasS x l[i] = true ∧ ownF l x = (i : Int) + 1 := by
 unfold ownF at h ⊢
 cases e : l.findIdx? (hasS x) with
 | none => rw [e] at h; exact absurd rfl h
 | some i =>
  obtain ⟨hi, h1, -⟩ := List.findIdx?_eq_some_iff_getElem.1 e
  exact ⟨i, hi, h1, rfl⟩
theorem apart_iff (l : List SpanD) : (∀ j, j < l.length → ¬ meetS l j) ↔ Apart l := by
 unfold Apart
 rw [List.pairwise_iff_getElem]
 constructor
 ·intro h i j hi hj hij x ⟨h1, h2⟩
  refine h j hj ⟨x, by simpa [hj] using h2, fun e => ?_⟩
  have hit : i < (l.take j).length := by rw [List.length_take]; omega
  unfold ownF at e
  cases e2 : (l.take j).findIdx? (hasS x) with
  | none =>
   have := List.findIdx?_eq_none_iff.1 e2 (l.take j)[i] (List.getElem_mem hit)
   rw [List.getElem_take, h1] at this
   cases this
  | some k => rw [e2] at e; simp only at e; omega
 ·rintro h j hj ⟨x, h1, h2⟩
  obtain ⟨i, hi, h3, -⟩ := ownF_some h2
  rw [List.length_take] at hi
  rw [List.getElem_take] at h3
  exact h i j (by omega) hj (by omega) x ⟨h3, by simpa [hj] using h1⟩
theorem fS_mem {rest : Int} {l : List SpanD} (ha : Apart l) {r : Nat} {s : SpanD} (hs : s ∈ l) (h : hasS (r : Nat) s = true) : fS rest l r = s.v := by
 have h0 : ownF l (r : Nat) ≠ 0 := fun e => by
  unfold ownF at e
  cases e2 : l.findIdx? (hasS (r : Nat)) with
  | none => have := List.findIdx?_eq_none_iff.1 e2 s hs; rw [h] at this; cases this
  | some k => rw [e2] at e; simp only at e; omega
 obtain ⟨i, hi, h1, h2⟩ := ownF_some h0
 unfold fS
 rw [if_neg h0, h2, show ((i : Int) + 1 - 1).toNat = i by omega]
 obtain ⟨j, hj, rfl⟩ := List.mem_iff_getElem.1 hs
 have : i = j := by
  rcases Nat.lt_trichotomy i j with h3 | h3 | h3
  ·exact absurd ⟨h1, h⟩ (List.pairwise_iff_getElem.1 ha i j hi hj h3 (r : Nat))
  ·exact h3
  ·exact absurd ⟨h, h1⟩ (List.pairwise_iff_getElem.1 ha j i hj hi h3 (r : Nat))
 subst this
 simp [hi]
theorem fS_out {rest : Int} {l : List SpanD} {r : Nat} (h : ∀ s ∈ l, ¬ hasS (r : Nat) s = true) : fS rest l r = rest := by
 have h0 : ownF l (r : Nat) = 0 := by
  unfold ownF
  rw [List.findIdx?_eq_none_iff.2 (fun s hs => by have := h s hs; simpa using this)]
 unfold fS
 rw [if_pos h0]
theorem apart_rev {l : List SpanD} (h : Apart l) : Apart l.reverse := by
 unfold Apart at h ⊢
 rw [List.pairwise_reverse]
 exact h.imp (fun h x hx => h x ⟨hx.2, hx.1⟩)
theorem okS_rev {l : List SpanD} (h : okS l) : okS l.reverse := by
 obtain ⟨h1, h2⟩ := h
 refine ⟨fun j hj => ?_, (apart_iff _).2 (apart_rev ((apart_iff l).1 h2))⟩
 have hm : l.reverse[j] ∈ l := List.mem_reverse.1 (List.getElem_mem hj)
 obtain ⟨i, hi, e⟩ := List.mem_iff_getElem.1 hm
 have := h1 i hi
 rw [show l.reverse.getD j default = l.getD i default by simp [hi, ← e, List.getD_eq_getElem?_getD, List.getElem?_eq_getElem hj]]
 exact this
theorem fS_rev (rest : Int) {l : List SpanD} (h : okS l) (r : Nat) : fS rest l.reverse r = fS rest l r := by
 have ha := (apart_iff l).1 h.2
 by_cases hh : ∃ s ∈ l, hasS (r : Nat) s = true
 ·obtain ⟨s, hs, h1⟩ := hh
  rw [fS_mem ha hs h1, fS_mem (apart_rev ha) (List.mem_reverse.2 hs) h1]
 ·rw [fS_out (fun s hs e => hh ⟨s, hs, e⟩), fS_out (fun s hs e => hh ⟨s, List.mem_reverse.1 hs, e⟩)]
def toldL (f : Nat → Int) (N : Nat) : List SpanD := (spL neV f N).map spD
theorem told_ok (f : Nat → Int) (N : Nat) (hN : N = 1114112) : okS (toldL f N) := by
 have ht := tile_spL f N (by omega)
 refine ⟨fun j hj => ?_, (apart_iff _).2 ?_⟩
 ·unfold toldL at hj ⊢
  rw [List.length_map] at hj
  have := tile_mem ht _ (List.getElem_mem hj)
  have e : ((spL neV f N).map spD).getD j default = spD (spL neV f N)[j] := by simp [List.getD_eq_getElem?_getD, hj]
  rw [e]
  unfold badS spD
  simp only
  omega
 ·unfold Apart toldL
  rw [List.pairwise_map]
  refine (tile_apart ht).imp (fun {s t} h x hx => ?_)
  have h1 := of_decide_eq_true hx.1
  have h2 := of_decide_eq_true hx.2
  simp only [spD] at h1 h2
  omega
theorem told_fS (other : Int) (f : Nat → Int) (N : Nat) (hN : N = 1114112) (r : Nat) (hr : r ≤ 1114111) : fS other (toldL f N) r = f r := by
 have ht := tile_spL f N (by omega)
 obtain ⟨s, hs, h1, h2⟩ := tile_has ht r (Nat.zero_le _) (by omega)
 rw [fS_mem (s := spD s) ((apart_iff _).1 (told_ok f N hN).2) (List.mem_map.2 ⟨s, hs, rfl⟩) (decide_eq_true (by simp only [spD]; omega))]
 exact ((tile_mem ht s hs).2.2.2 r h1 h2).symm
theorem told_len (f : Nat → Int) (N : Nat) (hN : N ≠ 0) : (spL neV f N).length ≤ N := by
 have : ∀ n, n ≠ 0 → (spT neV f n).1.length ≤ (spT neV f n).2 := by
  intro n
  induction n with
  | zero => intro h; exact absurd rfl h
  | succ n ih =>
   intro _
   by_cases h0 : n = 0
   ·subst h0; rw [spT_one]; exact Nat.le_refl _
   ·have := ih h0
    have hlt := spT_lt neV f n h0
    by_cases h : neV (f n) (f (spT neV f n).2) = true
    ·rw [spT_cut h0 h]; simp only [List.length_append, List.length_singleton]; omega
    ·rw [spT_on h0 h]; exact this
 have h1 := this N hN
 have h2 := spT_lt neV f N hN
 unfold spL
 rw [List.length_append, List.length_singleton]
 omega
end Go.Proofs.YtbmphakfgoompaaGreat

/-
 Small laws: boxes, a walk of same.
-/
namespace Go.Proofs.YtbmphakfgoompaaGreat
open Go.RowKit
attribute [local go_sem] Oper.semAt_some wide_fn

theorem lies_below {w W : World} (h : Below w.heap.size w W) : Lies w W := fun k hk => h.block k hk
/-- a box more -/
theorem box_fact (w : World) (x : Value) (t : TypeId) : Below w.heap.size w (w.alloc (.cells #[x] t)) ∧ (w.alloc (.cells #[x] t)).heap[w.heap.size]? = some (.cells #[x] t (0, 0)) ∧ (w.alloc (.cells #[x] t)).heap.size = w.heap.size + 1 :=
 ⟨(Below.refl _ w).alloc (Nat.le_refl _) _, heap_alloc_new w _, World.size_alloc w _⟩
theorem box_cell {w : World} {b : Nat} {x : Value} {t : TypeId} (h : w.heap[b]? = some (.cells #[x] t (0, 0))) : w.cell? ⟨b, 0, none⟩ = some x := cell_of_row w b 0 _ _ (0, 0) h
theorem setbox_fact (w : World) (x y : Value) (t : TypeId) : Below w.heap.size w ((w.alloc (.cells #[x] t)).setRow w.heap.size #[y]) ∧ ((w.alloc (.cells #[x] t)).setRow w.heap.size #[y]).heap[w.heap.size]? = some (.cells #[y] t (0, 0)) ∧ ((w.alloc (.cells #[x] t)).setRow w.heap.size #[y]).heap.size = w.heap.size + 1 := by
 obtain ⟨f1, f2, f3⟩ := box_fact w x t
 refine ⟨⟨f1.os, f1.tape, f1.output, by rw [setRow_size]; exact f1.size, fun k hk => by rw [setRow_other _ w.heap.size k _ (by omega)]; exact f1.block k hk⟩, setRow_heap _ w.heap.size _ #[y] _ _ f2, by rw [setRow_size]; exact f3⟩
end Go.Proofs.YtbmphakfgoompaaGreat
