/- several texts in one: UE5 -/
import Derived.Test.YtbmphakfgoompaaGreatJE2
import Derived.Test.YtbmphakfgoompaaGreatJE1
import Derived.Test.YtbmphakfgoompaaGreatJH
import Derived.Test.YtbmphakfgoompaaGreatGTD
import Derived.BigRegion
set_option linter.unusedVariables false
set_option linter.unusedSimpArgs false
/-
 The walk of the document's four functions of lists.
-/
namespace Go.Proofs.YtbmphakfgoompaaGreat
open Go.RowKit
attribute [local go_sem] Oper.semAt_some

/-- spans, three cells each -/
def flat3 (l : List SpanD) : List Value := l.flatMap (fun s => [.int .i32 s.f, .int .i32 s.t, .int .i64 s.v])
theorem flat3_snoc (l : List SpanD) (s : SpanD) : flat3 (l ++ [s]) = flat3 l ++ [.int .i32 s.f, .int .i32 s.t, .int .i64 s.v] := by unfold flat3; rw [List.flatMap_append]; rfl
theorem flat3_get (l : List SpanD) : ∀ (i : Nat) (hi : i < l.length), (flat3 l)[i * 3]? = some (.int .i32 l[i].f) ∧ (flat3 l)[i * 3 + 1]? = some (.int .i32 l[i].t) ∧ (flat3 l)[i * 3 + 2]? = some (.int .i64 l[i].v) := by
 induction l with
 | nil => intro i hi; simp at hi
 | cons s l ih =>
  intro i hi
  cases i with
  | zero => exact ⟨rfl, rfl, rfl⟩
  | succ i =>
   have e : flat3 (s :: l) = [.int .i32 s.f, .int .i32 s.t, .int .i64 s.v] ++ flat3 l := rfl
   have := ih i (by simp at hi; omega)
   rw [e, show (i + 1) * 3 = i * 3 + 3 by omega, show i * 3 + 3 + 1 = i * 3 + 1 + 3 by omega, show i * 3 + 3 + 2 = i * 3 + 2 + 3 by omega]
   exact this
theorem spansK_of_flat3 {B : Nat} {E : TypeId} {w : World} {a : Option Addr} {n c : Nat} {l : List SpanD} (hl : l.length = n) (h : w.ownsRow B E 3 (.slice a n c) n (flat3 l)) : SpansK .i64 w a l := by
 intro i hi
 rcases h.2 with ⟨e, h0⟩ | ⟨g, cap', cur, e, hb, hg, hnc, hcm, hcs, ht⟩
 ·omega
 ·simp only [Value.slice.injEq] at e
  obtain ⟨rfl, _, rfl⟩ := e
  obtain ⟨h1, h2, h3⟩ := flat3_get l i hi
  have k : ∀ j, j < 3 → w.cell? ⟨g, 0 + i * 3 + j, none⟩ = (flat3 l)[i * 3 + j]? := fun j hj => by
   rw [cell_of_row w g _ _ _ (0, 0) hg, Nat.zero_add, ← Array.getElem?_toList, ← ht, List.getElem?_take_of_lt (by omega)]
  exact ⟨g, 0, rfl, (k 0 (by omega)).trans h1, (k 1 (by omega)).trans h2, (k 2 (by omega)).trans h3⟩
theorem row_below {B B' s : Nat} {E : TypeId} {w w' : World} {a : Option Addr} {n m cap : Nat} {xs : List Value} (h : w.ownsRow B E s (.slice a n cap) m xs) (hb : Below B' w w') (hB : w.heap.size ≤ B') : w'.ownsRow B E s (.slice a n cap) m xs := by
 refine ⟨h.1, ?_⟩
 rcases h.2 with hn | ⟨g, cap, cur, e, hbg, hgg, rest⟩
 ·exact .inl hn
 ·exact .inr ⟨g, cap, cur, e, hbg, by rw [hb.block g (by have := (Array.getElem?_eq_some_iff.1 hgg).1; omega)]; exact hgg, rest⟩
theorem Tryz.elemSpI : ElemN Tryz.prog 83 88 (.agg #[.int .i32 0, .int .i32 0, .int .i64 0]) 3 16 := ⟨Tryz.underlying83, by kernel_rfl, by kernel_rfl, by decide⟩
/-- two rows in blocks of their own -/
def ApE (v u : Value) : Prop := ∀ g, v.ownBlock = some g → u.ownBlock ≠ some g
def upd {α : Type} (f : Nat → α) (k : Nat) (x : α) (j : Nat) : α := if j = k then x else f j
theorem upd_at {α : Type} (f : Nat → α) (k : Nat) (x : α) : upd f k x k = x := if_pos rfl
theorem upd_ne {α : Type} (f : Nat → α) {k j : Nat} (x : α) (h : j ≠ k) : upd f k x j = f j := if_neg h
/-- four rows of spans, told by a box of four -/
structure Rows4 (B : Nat) (w : World) (bl : Nat) (A : Nat → Option Addr) (C : Nat → Nat) (R : Nat → List SpanD) : Prop where
 box : w.heap[bl]? = some (.cells #[.slice (A 0) (R 0).length (C 0), .slice (A 1) (R 1).length (C 1), .slice (A 2) (R 2).length (C 2), .slice (A 3) (R 3).length (C 3)] 84 (0, 0))
 own : ∀ j, j < 4 → w.ownsRow B 88 3 (.slice (A j) (R j).length (C j)) (R j).length (flat3 (R j))
 ap : ∀ i j, i < 4 → j < 4 → i ≠ j → ApE (.slice (A i) (R i).length (C i)) (.slice (A j) (R j).length (C j))
 low : bl < B
theorem Rows4.below {B bl : Nat} {w w' : World} {A : Nat → Option Addr} {C : Nat → Nat} {R : Nat → List SpanD} (h : Rows4 B w bl A C R) (hb : Below w.heap.size w w') : Rows4 B w' bl A C R :=
 ⟨(hb.block bl (Array.getElem?_eq_some_iff.1 h.box).1).trans h.box, fun j hj => row_below (h.own j hj) hb (Nat.le_refl _), h.ap, h.low⟩
theorem Rows4.cell {B bl : Nat} {w : World} {A : Nat → Option Addr} {C : Nat → Nat} {R : Nat → List SpanD} (h : Rows4 B w bl A C R) {k : Nat} (hk : k < 4) : w.cell? ⟨bl, k, none⟩ = some (.slice (A k) (R k).length (C k)) := by
 have := cell_of_row w bl k _ _ (0, 0) h.box
 have hc : k = 0 ∨ k = 1 ∨ k = 2 ∨ k = 3 := by omega
 rcases hc with rfl | rfl | rfl | rfl <;> exact this
theorem Rows4.push {B bl : Nat} {w w9 : World} {A : Nat → Option Addr} {C : Nat → Nat} {R : Nat → List SpanD} (h : Rows4 B w bl A C R) {k : Nat} (hk : k < 4) (s : SpanD) {a9 : Option Addr} {c9 : Nat}
  (ho : w9.ownsRow B 88 3 (.slice a9 ((R k).length + 1) c9) ((R k).length + 1) (flat3 (R k) ++ [.int .i32 s.f, .int .i32 s.t, .int .i64 s.v])) (hg : w.grownBy w9 (Value.slice (A k) (R k).length (C k)).ownBlock) (hn : newBlock w (.slice (A k) (R k).length (C k)) (.slice a9 ((R k).length + 1) c9)) :
  Rows4 B (w9.setCell ⟨bl, k, none⟩ (.slice a9 ((R k).length + 1) c9)) bl (upd A k a9) (upd C k c9) (upd R k (R k ++ [s])) := by
 have hlt := fun j hj => World.ownsRow.lt (h.own j hj)
 have hbl : w9.heap[bl]? = w.heap[bl]? := hg.block bl (Array.getElem?_eq_some_iff.1 h.box).1 (fun e => by have := (hlt k hk bl e.symm).1; have := h.low; omega)
 have hne : ∀ (v : Value), (∀ g, v.ownBlock = some g → B ≤ g) → v.ownBlock = none ∨ v.ownBlock ≠ some bl := fun v hv => by
  cases e : v.ownBlock with
  | none => exact .inl rfl
  | some g => exact .inr (fun h2 => by have := hv g e; have := h.low; cases h2; omega)
 have hlen : (R k ++ [s]).length = (R k).length + 1 := by simp
 have e1 : ∀ j, j ≠ k → (Value.slice (upd A k a9 j) (upd R k (R k ++ [s]) j).length (upd C k c9 j)) = .slice (A j) (R j).length (C j) := fun j hj => by rw [upd_ne _ _ hj, upd_ne _ _ hj, upd_ne _ _ hj]
 have e2 : (Value.slice (upd A k a9 k) (upd R k (R k ++ [s]) k).length (upd C k c9 k)) = .slice a9 ((R k).length + 1) c9 := by rw [upd_at, upd_at, upd_at, hlen]
 have h9 : ∀ g, (Value.slice a9 ((R k).length + 1) c9).ownBlock = some g → B ≤ g ∧ g < w9.heap.size := fun g e => World.ownsRow.lt ho g e
 refine ⟨?_, ?_, ?_, h.low⟩
 ·rw [heap_setCell_same w9 bl k _ _ _ (hbl.trans h.box)]
  have hc : k = 0 ∨ k = 1 ∨ k = 2 ∨ k = 3 := by omega
  rcases hc with rfl | rfl | rfl | rfl
  ·rw [e2, e1 1 (by omega), e1 2 (by omega), e1 3 (by omega)]; rfl
  ·rw [e2, e1 0 (by omega), e1 2 (by omega), e1 3 (by omega)]; rfl
  ·rw [e2, e1 0 (by omega), e1 1 (by omega), e1 3 (by omega)]; rfl
  ·rw [e2, e1 0 (by omega), e1 1 (by omega), e1 2 (by omega)]; rfl
 ·intro j hj
  by_cases e : j = k
  ·subst e
   rw [e2, upd_at, hlen, flat3_snoc]
   exact World.ownsRow.kept ho (grown_store w9 bl j _) (hne _ (fun g e => (h9 g e).1))
  ·rw [e1 j e, upd_ne _ _ e]
   refine World.ownsRow.kept (World.ownsRow.kept (h.own j hj) hg ?_) (grown_store w9 bl k _) (hne _ (fun g e => (hlt j hj g e).1))
   cases e3 : (Value.slice (A j) (R j).length (C j)).ownBlock with
   | none => exact .inl rfl
   | some g => exact .inr (fun e4 => h.ap j k hj hk e g e3 e4.symm)
 ·intro i j hi hj hij
  by_cases ei : i = k
  ·subst ei
   rw [e2, e1 j (fun e => hij e.symm)]
   intro g eg
   rcases hn with hn | ⟨g2, hn, hg2⟩
   ·rw [hn] at eg; exact h.ap i j hi hj hij g eg
   ·rw [hn] at eg
    cases eg
    intro e5
    have := (hlt j hj g e5).2
    omega
  ·by_cases ej : j = k
   ·subst ej
    rw [e2, e1 i ei]
    intro g eg e5
    rcases hn with hn | ⟨g2, hn, hg2⟩
    ·rw [hn] at e5; exact h.ap i j hi hj hij g eg e5
    ·rw [hn] at e5
     cases e5
     have := (hlt i hi g eg).2
     omega
   ·rw [e1 i ei, e1 j ej]
    exact h.ap i j hi hj hij
def nxI (E : List Nat) (i : Nat) : Nat := if i < E.length then E.getD i 0 else 1114112
theorem nxt_nxI (E : List Nat) (i : Nat) : nxt E i = nxI E (i + 1) := rfl
def RS (D : MadeD) (E : List Nat) (i k j : Nat) : List SpanD := if j < k then segI (fvs D j) E (i + 1) else segI (fvs D j) E i
theorem RS_zero (D : MadeD) (E : List Nat) (i : Nat) : RS D E i 0 = fun j => segI (fvs D j) E i := by funext j; exact if_neg (by omega)
theorem RS_at (D : MadeD) (E : List Nat) (i k : Nat) : RS D E i k k = segI (fvs D k) E i := if_neg (by omega)
theorem RS_next {D : MadeD} {E : List Nat} {i k : Nat} {s : SpanD} (h : segAt (fvs D k) E i = [s]) : upd (RS D E i k) k (RS D E i k k ++ [s]) = RS D E i (k + 1) := by
 funext j
 unfold upd RS
 by_cases e : j = k
 ·subst e
  rw [if_pos rfl, if_neg (Nat.lt_irrefl _), if_pos (Nat.lt_succ_self _), segI_next, h]
 ·rw [if_neg e]
  by_cases e2 : j < k
  ·rw [if_pos e2, if_pos (by omega)]
  ·rw [if_neg e2, if_neg (by omega)]
theorem RS_end (D : MadeD) (E : List Nat) (i : Nat) {A : Nat → Option Addr} {C : Nat → Nat} {B bl : Nat} {w : World} (h : Rows4 B w bl A C (RS D E i 4)) : Rows4 B w bl A C (fun j => segI (fvs D j) E (i + 1)) := by
 have e : ∀ j, j < 4 → RS D E i 4 j = segI (fvs D j) E (i + 1) := fun j hj => if_pos hj
 refine ⟨?_, fun j hj => ?_, fun p q hp hq hpq => ?_, h.low⟩
 ·have := h.box
  rw [e 0 (by omega), e 1 (by omega), e 2 (by omega), e 3 (by omega)] at this
  exact this
 ·have := h.own j hj
  rw [e j hj] at this
  exact this
 ·have := h.ap p q hp hq hpq
  rw [e p hp, e q hq] at this
  exact this
/-- the bad number so far, k values of the number n looked at -/
def FkB (D : MadeD) (n : Nat) (v0 : Int) (k : Nat) (v : Int) : Prop := (0 ≤ v0 ∧ v = v0) ∨ (v0 < 0 ∧ ((v = -1 ∧ ∀ j, j < k → fvs D j n ≠ nv) ∨ (v = (n : Nat) ∧ ∃ j, j < k ∧ fvs D j n = nv)))
theorem FkB.next {D : MadeD} {n k : Nat} {v0 v : Int} (h : FkB D n v0 k v) : FkB D n v0 (k + 1) (if fvs D k n = nv ∧ v < 0 then (n : Nat) else v) := by
 rcases h with ⟨h1, rfl⟩ | ⟨h1, ⟨rfl, h2⟩ | ⟨rfl, j, h2, h3⟩⟩
 ·exact .inl ⟨h1, by rw [if_neg (by omega)]⟩
 ·refine .inr ⟨h1, ?_⟩
  by_cases e : fvs D k n = nv
  ·exact .inr ⟨by rw [if_pos ⟨e, by omega⟩], k, by omega, e⟩
  ·refine .inl ⟨by rw [if_neg (fun h => e h.1)], fun j hj => ?_⟩
   by_cases ej : j = k
   ·subst ej; exact e
   ·exact h2 j (by omega)
 ·exact .inr ⟨h1, .inr ⟨by rw [if_neg (by omega)], j, by omega, h3⟩⟩
theorem FkB.done {D : MadeD} {n m : Nat} {v0 v : Int} (h : FkB D n v0 4 v) (hb : BadTo (badK D) n v0) (hn : n ≤ 1114111) (hc : ∀ r, n ≤ r → r < m → badK D r = badK D n) : BadTo (badK D) m v := by
 rcases h with ⟨h1, rfl⟩ | ⟨h1, h2⟩
 ·exact hb.stay h1
 ·have hb1 : v0 = -1 ∧ ∀ r, r < n → badK D r = false := by
   rcases hb with h3 | ⟨r, h3, -⟩
   ·exact h3
   ·omega
  rcases h2 with ⟨rfl, h3⟩ | ⟨rfl, j, h3, h4⟩
  ·have hz : badK D n = false := by
    unfold badK
    rw [beq_false_of_ne (h3 0 (by omega)), beq_false_of_ne (h3 1 (by omega)), beq_false_of_ne (h3 2 (by omega)), beq_false_of_ne (h3 3 (by omega))]
    rfl
   refine .inl ⟨rfl, fun r hr => ?_⟩
   by_cases e : r < n
   ·exact hb1.2 r e
   ·rw [hc r (by omega) hr, hz]
  ·refine .inr ⟨n, rfl, hn, ?_, hb1.2⟩
   have hj : j = 0 ∨ j = 1 ∨ j = 2 ∨ j = 3 := by omega
   unfold badK
   rcases hj with rfl | rfl | rfl | rfl <;> simp [h4]
theorem runL_congr {F G : Nat → Int} : ∀ n, (∀ r, r < n → F r = G r) → runL F n = runL G n
 | 0, _ => rfl
 | n + 1, h => by rw [runL, runL, runL_congr n (fun r hr => h r (by omega)), h n (by omega)]
end Go.Proofs.YtbmphakfgoompaaGreat
