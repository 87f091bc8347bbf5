/-
  A trie in the making: the maker's memory, and what each of its stores does.
-/
import Derived.Test.YtabbabkmojaoaaaTB
set_option linter.unusedVariables false
set_option linter.unusedSimpArgs false
namespace Go.Proofs.Ytabbabkmojaoaaa
open Go.RowKit

structure MkS (α : Type) where
  top : List Nat
  cur : List Nat
  lows : List (List α)
  mids : List (List Nat)
  blocks : Nat

section
variable {α : Type}
def mkC (g : Nat) (S : MkS α) : List Value := [.pointer (some ⟨g, 0, none⟩), .map (some (g + 1)), .map (some (g + 2)), .int .i64 (S.blocks : Nat)] ++ S.cur.map num16
def trC (S : MkS α) (am : Option Addr) (cm : Nat) (al : Option Addr) (cl : Nat) : List Value := S.top.map num16 ++ [Value.slice am S.mids.length cm, Value.slice al S.lows.length cl]
structure MkW (S : MkS α) : Prop where
  top : S.top.length = 272
  cur : S.cur.length = 64
  low : ∀ l ∈ S.lows, l.length = 64
  mid : ∀ l ∈ S.mids, l.length = 64
structure MkAt (val : α → Value) (sz : Nat) (tM tT tA tV : TypeId) (w : World) (g : Nat) (S : MkS α) (ml : List (List α)) (mm : List (List Nat)) (am : Option Addr) (cm : Nat) (al : Option Addr) (cl : Nat) : Prop where
  mk_ : w.heap[g + 3]? = some (.cells (mkC g S).toArray tM (0, 0))
  tr : w.heap[g]? = some (.cells (trC S am cm al cl).toArray tT (0, 0))
  rm : w.ownsRow (g + 4) tA 64 (.slice am S.mids.length cm) S.mids.length (S.mids.flatMap (blkC num16))
  rl : w.ownsRow (g + 4) tV (64 * sz) (.slice al S.lows.length cl) S.lows.length (S.lows.flatMap (blkC val))
  ap : ∀ k, (Value.slice am S.mids.length cm).ownBlock = some k → (Value.slice al S.lows.length cl).ownBlock ≠ some k
  lm : IdxMap val w (g + 1) ml
  mm_ : IdxMap num16 w (g + 2) mm
variable {val : α → Value} {sz : Nat} {tM tT tA tV : TypeId} {w w' : World} {g : Nat} {S : MkS α} {ml : List (List α)} {mm : List (List Nat)} {am : Option Addr} {cm : Nat} {al : Option Addr} {cl : Nat}

theorem MkAt.lt (h : MkAt val sz tM tT tA tV w g S ml mm am cm al cl) : g + 4 ≤ w.heap.size := (Array.getElem?_eq_some_iff.1 h.mk_).1
theorem MkAt.below (h : MkAt val sz tM tT tA tV w g S ml mm am cm al cl) (hb : Below w.heap.size w w') : MkAt val sz tM tT tA tV w' g S ml mm am cm al cl := by
  have hl := h.lt
  have k : ∀ b, b < w.heap.size → w'.heap[b]? = w.heap[b]? := hb.block
  have r : ∀ {E : TypeId} {s : Nat} {v : Value} {n : Nat} {xs : List Value}, w.ownsRow (g + 4) E s v n xs → w'.ownsRow (g + 4) E s v n xs := fun h =>
    h.kept (row := none) ⟨hb.os, hb.tape, hb.output, hb.size, fun j hj _ => hb.block j hj⟩ (by rename_i v _ _; cases hv : v.ownBlock <;> simp)
  exact ⟨(k _ (by omega)).trans h.mk_, (k _ (by omega)).trans h.tr, r h.rm, r h.rl, h.ap, (k _ (by omega)).trans h.lm, (k _ (by omega)).trans h.mm_⟩
theorem MkAt.drew (h : MkAt val sz tM tT tA tV w g S ml mm am cm al cl) : MkAt val sz tM tT tA tV w.drew g S ml mm am cm al cl := ⟨h.mk_, h.tr, h.rm, h.rl, h.ap, h.lm, h.mm_⟩
/-- its cells -/
theorem MkAt.c_t (h : MkAt val sz tM tT tA tV w g S ml mm am cm al cl) : w.cell? ⟨g + 3, 0, none⟩ = some (.pointer (some ⟨g, 0, none⟩)) := by rw [cell_of_row w (g + 3) 0 _ _ (0, 0) h.mk_]; simp [mkC]
theorem MkAt.c_lm (h : MkAt val sz tM tT tA tV w g S ml mm am cm al cl) : w.cell? ⟨g + 3, 1, none⟩ = some (.map (some (g + 1))) := by rw [cell_of_row w (g + 3) 1 _ _ (0, 0) h.mk_]; simp [mkC]
theorem MkAt.c_mm (h : MkAt val sz tM tT tA tV w g S ml mm am cm al cl) : w.cell? ⟨g + 3, 2, none⟩ = some (.map (some (g + 2))) := by rw [cell_of_row w (g + 3) 2 _ _ (0, 0) h.mk_]; simp [mkC]
theorem MkAt.c_b (h : MkAt val sz tM tT tA tV w g S ml mm am cm al cl) : w.cell? ⟨g + 3, 3, none⟩ = some (.int .i64 (S.blocks : Nat)) := by rw [cell_of_row w (g + 3) 3 _ _ (0, 0) h.mk_]; simp [mkC]
theorem MkAt.c_cur (h : MkAt val sz tM tT tA tV w g S ml mm am cm al cl) (j : Nat) (hj : j < S.cur.length) : w.cell? ⟨g + 3, 4 + j, none⟩ = some (num16 S.cur[j]) := by
  rw [cell_of_row w (g + 3) (4 + j) _ _ (0, 0) h.mk_]
  simp only [mkC, List.getElem?_toArray]
  rw [List.getElem?_append_right (by simp)]
  simp [show 4 + j - 4 = j by omega, hj]
theorem MkAt.f_mk (h : MkAt val sz tM tT tA tV w g S ml mm am cm al cl) (o : Nat) : w.frozen? ⟨g + 3, o, none⟩ = false := frozen_of_row w (g + 3) o _ _ h.mk_
theorem MkAt.f_tr (h : MkAt val sz tM tT tA tV w g S ml mm am cm al cl) (o : Nat) : w.frozen? ⟨g, o, none⟩ = false := frozen_of_row w g o _ _ h.tr
theorem MkAt.r_cur (h : MkAt val sz tM tT tA tV w g S ml mm am cm al cl) : w.rangeAt (g + 3) 4 (blkC num16 S.cur) := by
  intro j v hv
  have hb : blkC num16 S.cur = S.cur.map num16 := by
    unfold blkC
    induction S.cur with
    | nil => rfl
    | cons a l ih => rw [List.flatMap_cons, ih, List.map_cons]; rfl
  rw [hb, List.getElem?_map] at hv
  cases hc : S.cur[j]? with
  | none => rw [hc] at hv; cases hv
  | some x =>
    rw [hc] at hv
    obtain ⟨hj, rfl⟩ := List.getElem?_eq_some_iff.1 hc
    rw [h.c_cur j hj]
    simpa using hv
theorem MkAt.c_mid (h : MkAt val sz tM tT tA tV w g S ml mm am cm al cl) (hw : MkW S) : w.cell? ⟨g, 272, none⟩ = some (.slice am S.mids.length cm) := by
  rw [cell_of_row w g 272 _ _ (0, 0) h.tr]; simp [trC, hw.top]
theorem MkAt.c_low (h : MkAt val sz tM tT tA tV w g S ml mm am cm al cl) (hw : MkW S) : w.cell? ⟨g, 273, none⟩ = some (.slice al S.lows.length cl) := by
  rw [cell_of_row w g 273 _ _ (0, 0) h.tr]; simp [trC, hw.top]
theorem MkAt.c_top (h : MkAt val sz tM tT tA tV w g S ml mm am cm al cl) (hw : MkW S) (j : Nat) (hj : j < 272) : ∃ v, w.cell? ⟨g, j, none⟩ = some v := by
  rw [cell_of_row w g j _ _ (0, 0) h.tr]
  refine ⟨(trC S am cm al cl)[j]'(by simp [trC, hw.top]; omega), ?_⟩
  simp [trC, hw.top]

theorem other_grown {row : Option Nat} (hg : w.grownBy w' row) {b : Nat} (hb : b < w.heap.size) (hr : ∀ k, row = some k → b ≠ k) : w'.heap[b]? = w.heap[b]? :=
  hg.block b hb (fun e => hr b e.symm rfl)
/-- one more low block -/
theorem MkAt.push_low (h : MkAt val sz tM tT tA tV w g S ml mm am cm al cl) (hw : MkW S) (l : List α) {al' : Option Addr} {cl' : Nat} (ho : w'.ownsRow (g + 4) tV (64 * sz) (.slice al' (S.lows.length + 1) cl') (S.lows.length + 1) (S.lows.flatMap (blkC val) ++ blkC val l))
    (hg : w.grownBy w' (Value.slice al S.lows.length cl).ownBlock) (hn : newBlock w (.slice al S.lows.length cl) (.slice al' (S.lows.length + 1) cl')) :
    MkAt val sz tM tT tA tV (w'.setCell ⟨g, 273, none⟩ (.slice al' (S.lows.length + 1) cl')) g { S with lows := S.lows ++ [l] } ml mm am cm al' cl' := by
  have hl := h.lt
  have hk := World.ownsRow.lt h.rl
  have hkm := World.ownsRow.lt h.rm
  have oth : ∀ b, b < g + 4 → w'.heap[b]? = w.heap[b]? := fun b hb => other_grown hg (by omega) (fun k e => by have := (hk k e).1; omega)
  have htr := (oth g (by omega)).trans h.tr
  have hrm : w'.ownsRow (g + 4) tA 64 (.slice am S.mids.length cm) S.mids.length (S.mids.flatMap (blkC num16)) := h.rm.kept hg (by
    cases e : (Value.slice am S.mids.length cm).ownBlock with
    | none => exact .inl rfl
    | some k => exact .inr (fun e2 => h.ap k e e2.symm))
  refine ⟨?_, ?_, ?_, ?_, ?_, ?_, ?_⟩
  · rw [heap_setCell_other w' ⟨g, 273, none⟩ (g + 3) _ (by simp)]
    exact (oth (g + 3) (by omega)).trans h.mk_
  · have := heap_setCell_same w' g 273 _ _ (.slice al' (S.lows.length + 1) cl') htr
    rw [this]
    simp [trC, hw.top]
  · exact hrm.kept (grown_store w' g 273 _) (by
      cases e : (Value.slice am S.mids.length cm).ownBlock with
      | none => exact .inl rfl
      | some k => exact .inr (fun e2 => by cases e2; have := (hkm _ e).1; omega))
  · have := ho.kept (grown_store w' g 273 (.slice al' (S.lows.length + 1) cl')) (by
      cases e : (Value.slice al' (S.lows.length + 1) cl').ownBlock with
      | none => exact .inl rfl
      | some k => exact .inr (fun e2 => by cases e2; have := (World.ownsRow.lt ho _ e).1; omega))
    simpa [List.flatMap_append] using this
  · intro k e e2
    simp only [List.length_append, List.length_singleton] at e2
    rcases hn with hn | ⟨gg, hn, hgg⟩
    · rw [hn] at e2
      exact h.ap k e e2
    · rw [hn] at e2
      cases e2
      have := (hkm _ e).2
      omega
  · show (w'.setCell ⟨g, 273, none⟩ _).heap[g + 1]? = _
    rw [heap_setCell_other w' ⟨g, 273, none⟩ (g + 1) _ (by simp)]
    exact (oth (g + 1) (by omega)).trans h.lm
  · show (w'.setCell ⟨g, 273, none⟩ _).heap[g + 2]? = _
    rw [heap_setCell_other w' ⟨g, 273, none⟩ (g + 2) _ (by simp)]
    exact (oth (g + 2) (by omega)).trans h.mm_
/-- one more middle block -/
theorem MkAt.push_mid (h : MkAt val sz tM tT tA tV w g S ml mm am cm al cl) (hw : MkW S) (l : List Nat) {am' : Option Addr} {cm' : Nat} (ho : w'.ownsRow (g + 4) tA 64 (.slice am' (S.mids.length + 1) cm') (S.mids.length + 1) (S.mids.flatMap (blkC num16) ++ blkC num16 l))
    (hg : w.grownBy w' (Value.slice am S.mids.length cm).ownBlock) (hn : newBlock w (.slice am S.mids.length cm) (.slice am' (S.mids.length + 1) cm')) :
    MkAt val sz tM tT tA tV (w'.setCell ⟨g, 272, none⟩ (.slice am' (S.mids.length + 1) cm')) g { S with mids := S.mids ++ [l] } ml mm am' cm' al cl := by
  have hl := h.lt
  have hk := World.ownsRow.lt h.rm
  have hkl := World.ownsRow.lt h.rl
  have oth : ∀ b, b < g + 4 → w'.heap[b]? = w.heap[b]? := fun b hb => other_grown hg (by omega) (fun k e => by have := (hk k e).1; omega)
  have htr := (oth g (by omega)).trans h.tr
  have hrl : w'.ownsRow (g + 4) tV (64 * sz) (.slice al S.lows.length cl) S.lows.length (S.lows.flatMap (blkC val)) := h.rl.kept hg (by
    cases e : (Value.slice al S.lows.length cl).ownBlock with
    | none => exact .inl rfl
    | some k => exact .inr (fun e2 => h.ap k e2.symm e))
  refine ⟨?_, ?_, ?_, ?_, ?_, ?_, ?_⟩
  · rw [heap_setCell_other w' ⟨g, 272, none⟩ (g + 3) _ (by simp)]
    exact (oth (g + 3) (by omega)).trans h.mk_
  · have := heap_setCell_same w' g 272 _ _ (.slice am' (S.mids.length + 1) cm') htr
    rw [this]
    simp [trC, hw.top]
  · have := ho.kept (grown_store w' g 272 (.slice am' (S.mids.length + 1) cm')) (by
      cases e : (Value.slice am' (S.mids.length + 1) cm').ownBlock with
      | none => exact .inl rfl
      | some k => exact .inr (fun e2 => by cases e2; have := (World.ownsRow.lt ho _ e).1; omega))
    simpa [List.flatMap_append] using this
  · exact hrl.kept (grown_store w' g 272 _) (by
      cases e : (Value.slice al S.lows.length cl).ownBlock with
      | none => exact .inl rfl
      | some k => exact .inr (fun e2 => by cases e2; have := (hkl _ e).1; omega))
  · intro k e e2
    simp only [List.length_append, List.length_singleton] at e
    rcases hn with hn | ⟨gg, hn, hgg⟩
    · rw [hn] at e
      exact h.ap k e e2
    · rw [hn] at e
      cases e
      have := (hkl _ e2).2
      omega
  · show (w'.setCell ⟨g, 272, none⟩ _).heap[g + 1]? = _
    rw [heap_setCell_other w' ⟨g, 272, none⟩ (g + 1) _ (by simp)]
    exact (oth (g + 1) (by omega)).trans h.lm
  · show (w'.setCell ⟨g, 272, none⟩ _).heap[g + 2]? = _
    rw [heap_setCell_other w' ⟨g, 272, none⟩ (g + 2) _ (by simp)]
    exact (oth (g + 2) (by omega)).trans h.mm_

theorem putB_other (w : World) {b k : Nat} (o : Obj) (h : k ≠ b) : (putB w b o).heap[k]? = w.heap[k]? := by
  simp [putB, Array.getElem?_setIfInBounds, Ne.symm h]
theorem putB_same (w : World) {b : Nat} (o : Obj) (h : b < w.heap.size) : (putB w b o).heap[b]? = some o := by
  simp [putB, Array.getElem?_setIfInBounds, h]
theorem putB_grown (w : World) (b : Nat) (o : Obj) : w.grownBy (putB w b o) (some b) :=
  ⟨rfl, rfl, rfl, by simp [putB], fun k hk hne => putB_other w o (fun e => hne (by rw [e]))⟩
theorem MkAt.put_lm (h : MkAt val sz tM tT tA tV w g S ml mm am cm al cl) (L : List (List α)) : MkAt val sz tM tT tA tV (putB w (g + 1) (.map (entsL val L) L.length)) g S L mm am cm al cl := by
  have hl := h.lt
  have r : ∀ {E : TypeId} {s : Nat} {v : Value} {n : Nat} {xs : List Value}, w.ownsRow (g + 4) E s v n xs → (putB w (g + 1) (.map (entsL val L) L.length)).ownsRow (g + 4) E s v n xs := fun {E s v n xs} h =>
    h.kept (putB_grown w (g + 1) _) (by
      cases e : v.ownBlock with
      | none => exact .inl rfl
      | some k => exact .inr (fun e2 => by cases e2; have := (World.ownsRow.lt h _ e).1; omega))
  exact ⟨(putB_other w _ (by omega)).trans h.mk_, (putB_other w _ (by omega)).trans h.tr, r h.rm, r h.rl, h.ap, putB_same w _ (by omega), (putB_other w _ (by omega)).trans h.mm_⟩
theorem MkAt.put_mm (h : MkAt val sz tM tT tA tV w g S ml mm am cm al cl) (L : List (List Nat)) : MkAt val sz tM tT tA tV (putB w (g + 2) (.map (entsL num16 L) L.length)) g S ml L am cm al cl := by
  have hl := h.lt
  have r : ∀ {E : TypeId} {s : Nat} {v : Value} {n : Nat} {xs : List Value}, w.ownsRow (g + 4) E s v n xs → (putB w (g + 2) (.map (entsL num16 L) L.length)).ownsRow (g + 4) E s v n xs := fun {E s v n xs} h =>
    h.kept (putB_grown w (g + 2) _) (by
      cases e : v.ownBlock with
      | none => exact .inl rfl
      | some k => exact .inr (fun e2 => by cases e2; have := (World.ownsRow.lt h _ e).1; omega))
  exact ⟨(putB_other w _ (by omega)).trans h.mk_, (putB_other w _ (by omega)).trans h.tr, r h.rm, r h.rl, h.ap, (putB_other w _ (by omega)).trans h.lm, putB_same w _ (by omega)⟩
theorem MkAt.store (h : MkAt val sz tM tT tA tV w g S ml mm am cm al cl) (b o : Nat) (v : Value) (S' : MkS α) (hb : b = g ∨ b = g + 3)
    (h1 : (w.setCell ⟨b, o, none⟩ v).heap[g + 3]? = some (.cells (mkC g S').toArray tM (0, 0))) (h2 : (w.setCell ⟨b, o, none⟩ v).heap[g]? = some (.cells (trC S' am cm al cl).toArray tT (0, 0))) (hm : S'.mids = S.mids) (hlo : S'.lows = S.lows) :
    MkAt val sz tM tT tA tV (w.setCell ⟨b, o, none⟩ v) g S' ml mm am cm al cl := by
  have r : ∀ {E : TypeId} {s : Nat} {u : Value} {n : Nat} {xs : List Value}, w.ownsRow (g + 4) E s u n xs → (w.setCell ⟨b, o, none⟩ v).ownsRow (g + 4) E s u n xs := fun {E s u n xs} h =>
    h.kept (grown_store w b o v) (by
      cases e : u.ownBlock with
      | none => exact .inl rfl
      | some k => exact .inr (fun e2 => by cases e2; have := (World.ownsRow.lt h _ e).1; omega))
  refine ⟨h1, h2, by rw [hm]; exact r h.rm, by rw [hlo]; exact r h.rl, by rw [hm, hlo]; exact h.ap, ?_, ?_⟩
  · show (w.setCell ⟨b, o, none⟩ v).heap[g + 1]? = _
    rw [heap_setCell_other w ⟨b, o, none⟩ (g + 1) _ (by simp; omega)]
    exact h.lm
  · show (w.setCell ⟨b, o, none⟩ v).heap[g + 2]? = _
    rw [heap_setCell_other w ⟨b, o, none⟩ (g + 2) _ (by simp; omega)]
    exact h.mm_
theorem MkAt.set_cur (h : MkAt val sz tM tT tA tV w g S ml mm am cm al cl) (j k : Nat) : MkAt val sz tM tT tA tV (w.setCell ⟨g + 3, 4 + j, none⟩ (num16 k)) g { S with cur := S.cur.set j k } ml mm am cm al cl := by
  refine h.store (g + 3) (4 + j) _ _ (.inr rfl) ?_ ?_ rfl rfl
  · rw [heap_setCell_same w (g + 3) (4 + j) _ _ (num16 k) h.mk_]
    have e : 4 + j = j + 1 + 1 + 1 + 1 := by omega
    simp [mkC, e, List.map_set]
  · rw [heap_setCell_other w ⟨g + 3, 4 + j, none⟩ g _ (by simp)]
    exact h.tr
theorem MkAt.set_blocks (h : MkAt val sz tM tT tA tV w g S ml mm am cm al cl) (k : Nat) : MkAt val sz tM tT tA tV (w.setCell ⟨g + 3, 3, none⟩ (.int .i64 (k : Nat))) g { S with blocks := k } ml mm am cm al cl := by
  refine h.store (g + 3) 3 _ _ (.inr rfl) ?_ ?_ rfl rfl
  · rw [heap_setCell_same w (g + 3) 3 _ _ (.int .i64 (k : Nat)) h.mk_]
    simp [mkC]
  · rw [heap_setCell_other w ⟨g + 3, 3, none⟩ g _ (by simp)]
    exact h.tr
theorem MkAt.set_top (h : MkAt val sz tM tT tA tV w g S ml mm am cm al cl) (hw : MkW S) (j k : Nat) (hj : j < 272) : MkAt val sz tM tT tA tV (w.setCell ⟨g, j, none⟩ (num16 k)) g { S with top := S.top.set j k } ml mm am cm al cl := by
  refine h.store g j _ _ (.inl rfl) ?_ ?_ rfl rfl
  · rw [heap_setCell_other w ⟨g, j, none⟩ (g + 3) _ (by simp)]
    exact h.mk_
  · rw [heap_setCell_same w g j _ _ (num16 k) h.tr]
    simp [trC, List.map_set, List.set_append, hw.top, hj]

/-- a block's number: what it was given, or the next one -/
def numB {β : Type} (eqB : β → β → Bool) (L : List (List β)) (b : List β) : List (List β) × Nat := match findB eqB b L with
  | some k => (L, k)
  | none => (L ++ [b], L.length)
def addS (eqB : α → α → Bool) (S : MkS α) (b : List α) : MkS α :=
  let l := numB eqB S.lows b
  let cur := S.cur.set (S.blocks % 64) l.2
  if (S.blocks + 1) % 64 = 0 then
    let m := numB (fun x y : Nat => decide (x = y)) S.mids cur
    { top := S.top.set (S.blocks / 64) m.2, cur := cur, lows := l.1, mids := m.1, blocks := S.blocks + 1 }
  else { S with cur := cur, lows := l.1, blocks := S.blocks + 1 }
end
end Go.Proofs.Ytabbabkmojaoaaa
