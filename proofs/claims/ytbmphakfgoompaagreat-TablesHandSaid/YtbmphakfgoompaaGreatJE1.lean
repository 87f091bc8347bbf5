/- several texts in one: UE1 UE3 -/
import Derived.Test.YtbmphakfgoompaaGreatJC
import Derived.Test.YtbmphakfgoompaaGreatJQ
import Derived.Test.YtbmphakfgoompaaGreatJH
import Derived.Deep.CutRange
set_option linter.unusedVariables false
set_option linter.unusedSimpArgs false
/-
 Where lists may change what they say, and what may be packed: plain laws.
-/
namespace Go.Proofs.YtbmphakfgoompaaGreat
open Go.RowKit

def edgeS (l : List SpanD) : List Int := l.flatMap (fun s => [s.f, wrap32 (s.t + 1)])
def edgeB (l : List SpanD) : List Int := l.flatMap (fun s => [s.f, wrap32 (s.f + 1)])
def edgeT (l : List TwD) : List Int := l.flatMap (fun s => [s.a, wrap32 (s.a + 1)])
def edgeL (D : MadeD) : List Int := [0] ++ edgeS D.l1 ++ edgeB D.l2 ++ edgeT D.l3 ++ edgeT D.l4
/-- the numbers at which lists may change what they say -/
structure EdgesOf (D : MadeD) (E : List Nat) : Prop where
 sorted : E.Pairwise (· ≤ ·)
 mem : ∀ x : Nat, x ∈ E ↔ ((x : Int) ∈ edgeL D ∧ x ≤ 1114111)
structure MadeWf (D : MadeD) : Prop where
 r : 0 ≤ D.rest ∧ D.rest ≤ 255
 w1 : ∀ s ∈ D.l1, wf32 s.f ∧ wf32 s.t ∧ 0 ≤ s.v ∧ s.v ≤ 255
 w2 : ∀ s ∈ D.l2, wf32 s.f ∧ wf32 s.t ∧ 0 ≤ s.v ∧ s.v ≤ 255
 w3 : ∀ s ∈ D.l3, wf32 s.a ∧ wf32 s.s
 w4 : ∀ s ∈ D.l4, wf32 s.a ∧ wf32 s.s
theorem wrap_at {x : Int} {r : Nat} (hx : wf32 x) (hr : r ≤ 1114111) (h : x + 1 = (r : Nat)) : wrap32 (x + 1) = (r : Nat) := by
 unfold wrap32; omega
theorem lastF_cond {α β : Type} {p q : α → Bool} {v : α → β} : ∀ {l : List α} (z : β), (∀ s ∈ l, p s = q s) → lastF p v z l = lastF q v z l
 | [], _, _ => rfl
 | s :: l, z, h => by
  unfold lastF
  rw [List.foldl_cons, List.foldl_cons, h s (by simp)]
  exact lastF_cond (l := l) _ (fun s hs => h s (by simp [hs]))
/-- no edge behind a, up to r -/
def NoEdge (E : List Nat) (a r : Nat) : Prop := ∀ x ∈ E, a < x → ¬ x ≤ r
theorem EdgesOf.noL {D : MadeD} {E : List Nat} (h : EdgesOf D E) {a r : Nat} (hr : r ≤ 1114111) (hn : NoEdge E a r) {x : Int} (hx : x ∈ edgeL D) : ¬ ((a : Int) < x ∧ x ≤ (r : Nat)) := by
 rintro ⟨h1, h2⟩
 obtain ⟨y, rfl⟩ : ∃ y : Nat, x = (y : Nat) := ⟨x.toNat, by omega⟩
 exact hn y ((h.mem y).2 ⟨hx, by omega⟩) (by omega) (by omega)
theorem mem_edge1 {D : MadeD} {s : SpanD} (hs : s ∈ D.l1) : s.f ∈ edgeL D ∧ wrap32 (s.t + 1) ∈ edgeL D := by
 simp only [edgeL, edgeS, List.mem_append, List.mem_flatMap]
 exact ⟨.inl (.inl (.inl (.inr ⟨s, hs, by simp⟩))), .inl (.inl (.inl (.inr ⟨s, hs, by simp⟩)))⟩
theorem mem_edge2 {D : MadeD} {s : SpanD} (hs : s ∈ D.l2) : s.f ∈ edgeL D ∧ wrap32 (s.f + 1) ∈ edgeL D := by
 simp only [edgeL, edgeB, List.mem_append, List.mem_flatMap]
 exact ⟨.inl (.inl (.inr ⟨s, hs, by simp⟩)), .inl (.inl (.inr ⟨s, hs, by simp⟩))⟩
theorem mem_edge3 {D : MadeD} {s : TwD} (hs : s ∈ D.l3) : s.a ∈ edgeL D ∧ wrap32 (s.a + 1) ∈ edgeL D := by
 simp only [edgeL, edgeT, List.mem_append, List.mem_flatMap]
 exact ⟨.inl (.inr ⟨s, hs, by simp⟩), .inl (.inr ⟨s, hs, by simp⟩)⟩
theorem mem_edge4 {D : MadeD} {s : TwD} (hs : s ∈ D.l4) : s.a ∈ edgeL D ∧ wrap32 (s.a + 1) ∈ edgeL D := by
 simp only [edgeL, edgeT, List.mem_append, List.mem_flatMap]
 exact ⟨.inr ⟨s, hs, by simp⟩, .inr ⟨s, hs, by simp⟩⟩
/-- a row of a number that has an edge ahead and one behind -/
theorem EdgesOf.key {D : MadeD} {E : List Nat} (h : EdgesOf D E) {a r : Nat} (hr : r ≤ 1114111) (ha : a ≤ r) (hn : NoEdge E a r) {k : Int} (hw : wf32 k) (h1 : k ∈ edgeL D) (h2 : wrap32 (k + 1) ∈ edgeL D) (hne : a ≠ r) : k ≠ (r : Nat) ∧ k ≠ (a : Nat) := by
 constructor
 ·rintro rfl
  exact h.noL hr hn h1 ⟨by omega, Int.le_refl _⟩
 ·rintro rfl
  have := h.noL hr hn h2
  rw [wrap_at (r := a + 1) hw (by omega) (by omega)] at this
  exact this ⟨by omega, by omega⟩
structure SameAt (D : MadeD) (a r : Nat) : Prop where
 cls : D.cls r = D.cls a
 oth : D.oth r = D.oth a
 side : D.side r = D.side a
 twin : D.twin r - (r : Nat) = D.twin a - (a : Nat) ∧ (a ≠ r → D.twin r = (r : Nat))
 mir : D.mir r = D.mir a
 has : D.has r = D.has a
theorem EdgesOf.same {D : MadeD} {E : List Nat} (h : EdgesOf D E) (hw : MadeWf D) {a r : Nat} (hr : r ≤ 1114111) (ha : a ≤ r) (hn : NoEdge E a r) : SameAt D a r := by
 by_cases hne : a = r
 ·subst hne
  exact ⟨rfl, rfl, rfl, ⟨rfl, fun h => absurd rfl h⟩, rfl, rfl⟩
 ·have hc : D.cls r = D.cls a := by
   unfold MadeD.cls
   rw [clsF_last, clsF_last]
   refine lastF_cond _ (fun s hs => ?_)
   have e1 := h.noL hr hn (mem_edge1 hs).1
   have e2 := h.noL hr hn (mem_edge1 hs).2
   refine decide_eq_decide.2 ⟨fun ⟨h1, h2⟩ => ⟨by omega, by omega⟩, fun ⟨h1, h2⟩ => ⟨by omega, ?_⟩⟩
   refine Decidable.byContradiction (fun h3 => e2 ?_)
   obtain ⟨y, hy⟩ : ∃ y : Nat, s.t + 1 = (y : Nat) := ⟨(s.t + 1).toNat, by omega⟩
   rw [wrap_at (r := y) (hw.w1 s hs).2.1 (by omega) hy]
   omega
  have hb : brG D.l2 (r : Nat) = brG D.l2 (a : Nat) := by
   unfold brG
   refine lastF_cond _ (fun s hs => ?_)
   obtain ⟨k1, k2⟩ := h.key hr ha hn (hw.w2 s hs).1 (mem_edge2 hs).1 (mem_edge2 hs).2 hne
   rw [beq_false_of_ne k1, beq_false_of_ne k2]
  have h3 : ∀ s ∈ D.l3, (s.a == (r : Int)) = false ∧ (s.a == (a : Int)) = false := fun s hs => by
   obtain ⟨k1, k2⟩ := h.key hr ha hn (hw.w3 s hs).1 (mem_edge3 hs).1 (mem_edge3 hs).2 hne
   exact ⟨beq_false_of_ne k1, beq_false_of_ne k2⟩
  have h4 : twG D.l4 (r : Nat) = twG D.l4 (a : Nat) := by
   unfold twG
   refine lastF_cond _ (fun s hs => ?_)
   obtain ⟨k1, k2⟩ := h.key hr ha hn (hw.w4 s hs).1 (mem_edge4 hs).1 (mem_edge4 hs).2 hne
   rw [beq_false_of_ne k1, beq_false_of_ne k2]
  have t1 : twG D.l3 (r : Nat) = (0, false) := lastF_keep (fun s hs => (h3 s hs).1)
  have t2 : twG D.l3 (a : Nat) = (0, false) := lastF_keep (fun s hs => (h3 s hs).2)
  have t3 : D.twin r = (r : Nat) := by unfold MadeD.twin; rw [t1]; rfl
  have t4 : D.twin a = (a : Nat) := by unfold MadeD.twin; rw [t2]; rfl
  exact ⟨hc, by unfold MadeD.oth; rw [hb], by unfold MadeD.side; rw [hb], ⟨by rw [t3, t4]; omega, fun _ => t3⟩, by unfold MadeD.mir; rw [h4], by unfold MadeD.has; rw [h4]⟩

/-- what lists say are numbers of their kinds -/
structure MadeVal (D : MadeD) (r : Nat) : Prop where
 c : 0 ≤ D.cls r ∧ D.cls r ≤ 255
 o : wf32 (D.oth r)
 s : 0 ≤ D.side r ∧ D.side r ≤ 255
 t : wf32 (D.twin r)
 m : wf32 (D.mir r)
theorem MadeWf.val {D : MadeD} (h : MadeWf D) (r : Nat) (hr : r ≤ 1114111) : MadeVal D r := by
 have hb : wf32 (brG D.l2 (r : Nat)).1 ∧ 0 ≤ (brG D.l2 (r : Nat)).2 ∧ (brG D.l2 (r : Nat)).2 ≤ 255 := by
  unfold brG
  rcases lastF_cases (fun s : SpanD => s.f == ((r : Nat) : Int)) (fun s => (s.t, s.v)) D.l2 (0, 0) with e | ⟨s, hs, -, e⟩
  ·rw [e]; unfold wf32; simp
  ·rw [e]; exact (h.w2 s hs).2
 have ht : ∀ l : List TwD, (∀ s ∈ l, wf32 s.a ∧ wf32 s.s) → wf32 (twG l (r : Nat)).1 := by
  intro l hl
  unfold twG
  rcases lastF_cases (fun s : TwD => s.a == ((r : Nat) : Int)) (fun s => (s.s, true)) l (0, false) with e | ⟨s, hs, -, e⟩
  ·rw [e]; unfold wf32; simp
  ·rw [e]; exact (hl s hs).2
 refine ⟨?_, hb.1, hb.2, ?_, ht _ h.w4⟩
 ·unfold MadeD.cls
  rw [clsF_last]
  rcases lastF_cases (fun s : SpanD => decide (s.f ≤ ((r : Nat) : Int) ∧ ((r : Nat) : Int) ≤ s.t)) (fun s => s.v) D.l1 D.rest with e | ⟨s, hs, -, e⟩
  ·rw [e]; exact h.r
  ·rw [e]; exact (h.w1 s hs).2.2
 ·unfold MadeD.twin
  split
  ·exact ht _ h.w3
  ·unfold wf32; omega
/-- a value that can't be packed -/
def nv : Int := -1099511627776
def fvC (c : Int) : Int := if c < 1 ∨ 23 < c then nv else c
def fvB (o s : Int) : Int := if 2 < s ∨ (s ≠ 0 ∧ pointB o = false) then nv else if s = 1 then o + 1 else if s = 2 then -o - 1 else 0
def fvT (t r : Int) : Int := if t = r then 0 else if pointB t = false then nv else t + 1
def fvM (x : Int) (is : Bool) : Int := if is = true then (if pointB x = false then nv else x + 1) else 0
def fvs (D : MadeD) (k r : Nat) : Int := match k with
 | 0 => fvC (D.cls r)
 | 1 => fvB (D.oth r) (D.side r)
 | 2 => fvT (D.twin r) (r : Nat)
 | _ => fvM (D.mir r) (D.has r)
theorem SameAt.fvs {D : MadeD} {a r : Nat} (h : SameAt D a r) (k : Nat) : fvs D k r = fvs D k a := by
 unfold Go.Proofs.YtbmphakfgoompaaGreat.fvs
 match k with
 | 0 => simp only [h.cls]
 | 1 => simp only [h.oth, h.side]
 | 2 =>
  simp only
  by_cases e : a = r
  ·rw [e]
  ·have h1 := h.twin.2 e
   have h2 := h.twin.1
   unfold fvT
   rw [if_pos h1, if_pos (by omega)]
 | (k + 3) => simp only [h.mir, h.has]
def badK (D : MadeD) (r : Nat) : Bool := (fvs D 0 r == nv || fvs D 1 r == nv) || (fvs D 2 r == nv || fvs D 3 r == nv)
theorem badK_pack (D : MadeD) (hs : ∀ r, 0 ≤ D.side r) (r : Nat) : badK D r = packBad D.cls D.oth D.side D.twin D.mir D.has r := by
 have e0 : (fvs D 0 r == nv) = pkC D.cls r := by
  simp only [fvs, fvC, pkC, knownB]
  by_cases h : D.cls r < 1 ∨ 23 < D.cls r
  ·rw [if_pos h, decide_eq_false (by omega)]; rfl
  ·rw [if_neg h, decide_eq_true (by omega)]
   exact beq_false_of_ne (by unfold nv; omega)
 have e1 : (fvs D 1 r == nv) = pkB D.oth D.side r := by
  have h0 := hs r
  simp only [fvs, fvB, pkB, sidedB]
  generalize D.side r = s at *
  generalize D.oth r = o at *
  unfold pointB
  by_cases h : 0 ≤ o ∧ o ≤ 1114111
  ·rw [decide_eq_true h]
   by_cases h2 : 2 < s
   ·rw [if_pos (.inl h2), beq_false_of_ne (show s ≠ 0 by omega), decide_eq_false (show ¬ (s = 1 ∨ s = 2) by omega)]; rfl
   ·rw [if_neg (by simp; omega)]
    have hc : s = 0 ∨ s = 1 ∨ s = 2 := by omega
    rcases hc with rfl | rfl | rfl
    ·rfl
    ·simp [nv]; omega
    ·simp [nv]; omega
  ·rw [decide_eq_false h]
   by_cases h2 : s = 0
   ·subst h2; rfl
   ·rw [if_pos (.inr ⟨h2, rfl⟩), beq_false_of_ne h2]; simp
 have e2 : (fvs D 2 r == nv) = pkT D.twin r := by
  simp only [fvs, fvT, pkT]
  generalize D.twin r = s at *
  unfold pointB
  by_cases h : s = (r : Nat)
  ·rw [if_pos h, h]; simp [nv]
  ·rw [if_neg h, beq_false_of_ne h]
   by_cases h2 : 0 ≤ s ∧ s ≤ 1114111
   ·rw [decide_eq_true h2]; simp [nv]; omega
   ·rw [decide_eq_false h2]; simp
 have e3 : (fvs D 3 r == nv) = pkM D.mir D.has r := by
  simp only [fvs, fvM, pkM]
  generalize D.mir r = s at *
  generalize D.has r = b at *
  unfold pointB
  cases b
  ·simp [nv]
  ·by_cases h2 : 0 ≤ s ∧ s ≤ 1114111
   ·rw [decide_eq_true h2]; simp [nv]; omega
   ·rw [decide_eq_false h2]; simp
 unfold badK packBad
 rw [e0, e1, e2, e3]
 cases pkC D.cls r <;> cases pkB D.oth D.side r <;> cases pkT D.twin r <;> rfl
/-- where nothing is bad the values are the packed ones -/
theorem fvs_good {D : MadeD} {r : Nat} (hs : 0 ≤ D.side r) (h : badK D r = false) : fvs D 0 r = D.cls r ∧ fvs D 1 r = bkF D.oth D.side r ∧ fvs D 2 r = twP D.twin r ∧ fvs D 3 r = miF D.mir D.has r := by
 simp only [badK, Bool.or_eq_false_iff, beq_eq_false_iff_ne] at h
 obtain ⟨⟨h0, h1⟩, h2, h3⟩ := h
 refine ⟨?_, ?_, ?_, ?_⟩
 ·simp only [fvs, fvC] at h0 ⊢
  split
  ·rename_i e; rw [if_pos e] at h0; exact absurd rfl h0
  ·rfl
 ·simp only [fvs, fvB, bkF, laidF] at h1 ⊢
  split
  ·rename_i e; rw [if_pos e] at h1; exact absurd rfl h1
  ·rename_i e
   have hc : D.side r = 0 ∨ D.side r = 1 ∨ D.side r = 2 := by omega
   rcases hc with e2 | e2 | e2
   ·rw [e2]; rfl
   ·rw [e2]; rfl
   ·rw [e2]; simp; omega
 ·simp only [fvs, fvT, twP] at h2 ⊢
  split
  ·rfl
  ·rename_i e; rw [if_neg e] at h2
   split
   ·rename_i e2; rw [if_pos e2] at h2; exact absurd rfl h2
   ·rfl
 ·simp only [fvs, fvM, miF] at h3 ⊢
  split
  ·rename_i e; rw [if_pos e] at h3
   split
   ·rename_i e2; rw [if_pos e2] at h3; exact absurd rfl h3
   ·rfl
  ·rfl

/-- the number ahead of which a stretch ends -/
def nxt (E : List Nat) (j : Nat) : Nat := if j + 1 < E.length then E.getD (j + 1) 0 else 1114112
def segAt (g : Nat → Int) (E : List Nat) (j : Nat) : List SpanD := if nxt E j ≤ E.getD j 0 then [] else [⟨(E.getD j 0 : Nat), (nxt E j : Int) - 1, g (E.getD j 0)⟩]
def segI (g : Nat → Int) (E : List Nat) (i : Nat) : List SpanD := (List.range i).flatMap (segAt g E)
theorem segI_next (g : Nat → Int) (E : List Nat) (i : Nat) : segI g E (i + 1) = segI g E i ++ segAt g E i := by
 unfold segI
 rw [List.range_succ, List.flatMap_append]
 simp
theorem segAt_len (g : Nat → Int) (E : List Nat) (i : Nat) : (segAt g E i).length ≤ 1 := by unfold segAt; split <;> simp
theorem segI_len (g : Nat → Int) (E : List Nat) : ∀ i, (segI g E i).length ≤ i
 | 0 => by simp [segI]
 | i + 1 => by rw [segI_next, List.length_append]; have := segI_len g E i; have := segAt_len g E i; omega
theorem segI_same (g h : Nat → Int) (E : List Nat) : ∀ i, (segI g E i).length = (segI h E i).length
 | 0 => by simp [segI]
 | i + 1 => by
  rw [segI_next, segI_next, List.length_append, List.length_append, segI_same g h E i]
  unfold segAt
  split <;> rfl
theorem segI_mem {g : Nat → Int} {E : List Nat} {i : Nat} {s : SpanD} (h : s ∈ segI g E i) : ∃ j, j < i ∧ E.getD j 0 < nxt E j ∧ s = ⟨(E.getD j 0 : Nat), (nxt E j : Int) - 1, g (E.getD j 0)⟩ := by
 unfold segI at h
 obtain ⟨j, hj, hs⟩ := List.mem_flatMap.1 h
 unfold segAt at hs
 split at hs
 ·cases hs
 ·exact ⟨j, by simpa using hj, by omega, List.mem_singleton.1 hs⟩
/-- edges rise -/
structure Rise (E : List Nat) : Prop where
 sorted : E.Pairwise (· ≤ ·)
 le : ∀ x ∈ E, x ≤ 1114111
 zero : 0 ∈ E
theorem EdgesOf.rise {D : MadeD} {E : List Nat} (h : EdgesOf D E) : Rise E := ⟨h.sorted, fun x hx => ((h.mem x).1 hx).2, (h.mem 0).2 ⟨by simp [edgeL], by omega⟩⟩
theorem getE_at {E : List Nat} {j : Nat} (h : j < E.length) : E.getD j 0 = E[j] := by simp [h]
theorem Rise.mono {E : List Nat} (h : Rise E) {i j : Nat} (hij : i ≤ j) (hj : j < E.length) : E.getD i 0 ≤ E.getD j 0 := by
 rw [getE_at hj, getE_at (by omega)]
 by_cases e : i = j
 ·subst e; exact Nat.le_refl _
 ·exact List.pairwise_iff_getElem.1 h.sorted i j (by omega) hj (by omega)
theorem Rise.top {E : List Nat} (h : Rise E) {j : Nat} (hj : j < E.length) : E.getD j 0 ≤ 1114111 := by
 rw [getE_at hj]; exact h.le _ (List.getElem_mem hj)
theorem Rise.first {E : List Nat} (h : Rise E) : 0 < E.length ∧ E.getD 0 0 = 0 := by
 obtain ⟨j, hj, e⟩ := List.getElem_of_mem h.zero
 refine ⟨by omega, ?_⟩
 have := h.mono (Nat.zero_le j) hj
 rw [getE_at hj, e] at this
 omega
theorem Rise.nxt_mono {E : List Nat} (h : Rise E) {i j : Nat} (hij : i < j) (hj : j < E.length) : nxt E i ≤ E.getD j 0 := by
 unfold nxt
 rw [if_pos (by omega)]
 exact h.mono (by omega) hj
theorem Rise.nxt_le {E : List Nat} (h : Rise E) {j : Nat} (hj : j < E.length) : E.getD j 0 ≤ nxt E j ∧ nxt E j ≤ 1114112 := by
 unfold nxt
 split
 ·rename_i e
  have := h.mono (Nat.le_succ j) e
  have := h.top e
  exact ⟨by assumption, by omega⟩
 ·have := h.top hj
  omega
theorem Rise.noEdge {E : List Nat} (h : Rise E) {j r : Nat} (hj : j < E.length) (hr : r < nxt E j) : NoEdge E (E.getD j 0) r := by
 intro x hx h1 h2
 obtain ⟨k, hk, rfl⟩ := List.getElem_of_mem hx
 by_cases hkj : k ≤ j
 ·have := h.mono hkj hj
  rw [getE_at hk] at this
  omega
 ·have := h.nxt_mono (i := j) (j := k) (by omega) hk
  rw [getE_at hk] at this
  omega
/-- the stretch of a number -/
theorem Rise.own {E : List Nat} (h : Rise E) {r : Nat} (hr : r ≤ 1114111) : ∀ n, n ≤ E.length → 0 < n → (n < E.length → r < E.getD n 0) → ∃ j, j < n ∧ E.getD j 0 ≤ r ∧ r < nxt E j
 | 0, _, h0, _ => absurd h0 (by omega)
 | n + 1, hn, _, hg => by
  by_cases e : E.getD n 0 ≤ r
  ·refine ⟨n, by omega, e, ?_⟩
   unfold nxt
   split
   ·rename_i h1; exact hg h1
   ·omega
  ·have hn0 : 0 < n := by
    rcases Nat.eq_zero_or_pos n with rfl | h0
    ·rw [h.first.2] at e; omega
    ·exact h0
   obtain ⟨j, h1, h2, h3⟩ := h.own hr n (by omega) hn0 (fun _ => by omega)
   exact ⟨j, by omega, h2, h3⟩
theorem Rise.apart {E : List Nat} (h : Rise E) (g : Nat → Int) : ∀ i, i ≤ E.length → Apart (segI g E i)
 | 0, _ => by simp [segI, Apart]
 | i + 1, hi => by
  rw [segI_next]
  unfold Apart
  refine List.pairwise_append.2 ⟨h.apart g i (by omega), ?_, ?_⟩
  ·unfold segAt; split <;> simp
  ·intro s hs t ht x hx
   obtain ⟨j, hj, hlt, rfl⟩ := segI_mem hs
   have := h.nxt_mono hj (show i < E.length by omega)
   unfold segAt at ht
   split at ht
   ·cases ht
   ·rename_i e
    have e2 := List.mem_singleton.1 ht
    subst e2
    have h1 := of_decide_eq_true hx.1
    have h2 := of_decide_eq_true hx.2
    simp only at h1 h2
    omega
theorem Rise.okS {E : List Nat} (h : Rise E) (g : Nat → Int) : okS (segI g E E.length) := by
 refine ⟨fun j hj => ?_, (apart_iff _).2 (h.apart g _ (Nat.le_refl _))⟩
 have hm : (segI g E E.length).getD j default ∈ segI g E E.length := by
  rw [List.getD_eq_getElem?_getD, List.getElem?_eq_getElem hj]
  exact List.getElem_mem hj
 obtain ⟨k, hk, hlt, e⟩ := segI_mem hm
 rw [e]
 have := (h.nxt_le hk).2
 unfold badS
 simp only
 omega
/-- the stretches tell the function -/
theorem Rise.gives {E : List Nat} (h : Rise E) {g : Nat → Int} (hg : ∀ a r, r ≤ 1114111 → a ≤ r → NoEdge E a r → g r = g a) {r : Nat} (hr : r ≤ 1114111) : fS 0 (segI g E E.length) r = g r := by
 obtain ⟨j, h1, h2, h3⟩ := h.own hr E.length (Nat.le_refl _) h.first.1 (fun h => absurd h (by omega))
 have hm : (⟨(E.getD j 0 : Nat), (nxt E j : Int) - 1, g (E.getD j 0)⟩ : SpanD) ∈ segI g E E.length := by
  unfold segI
  refine List.mem_flatMap.2 ⟨j, by simpa using h1, ?_⟩
  unfold segAt
  rw [if_neg (by omega)]
  simp
 rw [fS_mem (h.apart g _ (Nat.le_refl _)) hm (decide_eq_true ⟨by simp only; omega, by simp only; omega⟩)]
 exact (hg _ r hr h2 (h.noEdge h1 h3)).symm
/-- the least bad number so far; -1: none -/
def BadTo (p : Nat → Bool) (n : Nat) (v : Int) : Prop := (v = -1 ∧ ∀ r, r < n → p r = false) ∨ ∃ r : Nat, v = (r : Nat) ∧ r ≤ 1114111 ∧ p r = true ∧ ∀ q, q < r → p q = false
theorem BadTo.skip {p : Nat → Bool} {n m : Nat} {v : Int} (h : BadTo p n v) (hm : m ≤ n) : BadTo p m v := h.imp (fun ⟨h1, h2⟩ => ⟨h1, fun r hr => h2 r (by omega)⟩) id
theorem BadTo.good {p : Nat → Bool} {n m : Nat} {v : Int} (h : BadTo p n v) (hc : ∀ r, n ≤ r → r < m → p r = false) : BadTo p m v := h.imp (fun ⟨h1, h2⟩ => ⟨h1, fun r hr => by
 by_cases e : r < n
 ·exact h2 r e
 ·exact hc r (by omega) hr⟩) id
theorem BadTo.hit {p : Nat → Bool} {n m : Nat} (h : BadTo p n (-1)) (hn : n ≤ 1114111) (hp : p n = true) : BadTo p m (n : Nat) := by
 rcases h with ⟨-, h2⟩ | ⟨r, h1, -⟩
 ·exact .inr ⟨n, rfl, hn, hp, h2⟩
 ·omega
theorem BadTo.stay {p : Nat → Bool} {n m : Nat} {v : Int} (h : BadTo p n v) (hv : 0 ≤ v) : BadTo p m v := by
 rcases h with ⟨h1, -⟩ | h1
 ·omega
 ·exact .inr h1
end Go.Proofs.YtbmphakfgoompaaGreat

/-
 The walk of the document's four values of a number.
-/
namespace Go.Proofs.YtbmphakfgoompaaGreat
open Go.RowKit

theorem ok_walk (r : Int) (w : World) : Calls Tryz.prog 55 #[.int .i32 r] w fun e w' => e = .returned (.bool (pointB r)) ∧ w' = w := by
 by_cases h1 : 0 ≤ r
 ·by_cases h2 : r ≤ 1114111
  ·have e : pointB r = true := decide_eq_true ⟨h1, h2⟩
   rw [e]
   go_enter Tryz.func55, Tryz.ntmps55
   go_wp2
   go_ret
   exact ⟨rfl, rfl⟩
  ·have e : pointB r = false := decide_eq_false (by omega)
   rw [e]
   go_enter Tryz.func55, Tryz.ntmps55
   go_wp2
   go_ret
   exact ⟨rfl, rfl⟩
 ·have e : pointB r = false := decide_eq_false (by omega)
  rw [e]
  go_enter Tryz.func55, Tryz.ntmps55
  go_wp2
  go_ret
  exact ⟨rfl, rfl⟩
/-- four values on their way -/
structure FoR (w : World) (b4 b5 : Nat) (x0 x1 x2 x3 : Int) (wx : World) : Prop where
 res : wx.heap[b4]? = some (.cells #[.int .i64 0, .int .i64 0, .int .i64 0, .int .i64 0] 85 (0, 0))
 val : wx.heap[b5]? = some (.cells #[.int .i64 x0, .int .i64 x1, .int .i64 x2, .int .i64 x3] 85 (0, 0))
 low : w.heap.size ≤ b4 ∧ b4 < b5
 bel : Below w.heap.size w wx
theorem FoR.next {w : World} {b4 b5 : Nat} {x0 x1 x2 x3 : Int} {wx wy : World} (h : FoR w b4 b5 x0 x1 x2 x3 wx) (hb : Below wx.heap.size wx wy) : FoR w b4 b5 x0 x1 x2 x3 wy :=
 ⟨(hb.block b4 (Array.getElem?_eq_some_iff.1 h.res).1).trans h.res, (hb.block b5 (Array.getElem?_eq_some_iff.1 h.val).1).trans h.val, h.low, h.bel.trans (hb.mono h.bel.size)⟩
theorem FoR.put0 {w : World} {b4 b5 : Nat} {x0 x1 x2 x3 : Int} {wx : World} (h : FoR w b4 b5 x0 x1 x2 x3 wx) (v : Int) : FoR w b4 b5 v x1 x2 x3 (wx.setCell ⟨b5, 0, none⟩ (.int .i64 v)) :=
 ⟨(heap_setCell_other wx ⟨b5, 0, none⟩ b4 _ (by have := h.low.2; simp; omega)).trans h.res, heap_setCell_same wx b5 0 _ _ (.int .i64 v) h.val, h.low, h.bel.setCell (p := ⟨b5, 0, none⟩) (by show _ ≤ b5; have := h.low; omega) _⟩
theorem FoR.put1 {w : World} {b4 b5 : Nat} {x0 x1 x2 x3 : Int} {wx : World} (h : FoR w b4 b5 x0 x1 x2 x3 wx) (v : Int) : FoR w b4 b5 x0 v x2 x3 (wx.setCell ⟨b5, 1, none⟩ (.int .i64 v)) :=
 ⟨(heap_setCell_other wx ⟨b5, 1, none⟩ b4 _ (by have := h.low.2; simp; omega)).trans h.res, heap_setCell_same wx b5 1 _ _ (.int .i64 v) h.val, h.low, h.bel.setCell (p := ⟨b5, 1, none⟩) (by show _ ≤ b5; have := h.low; omega) _⟩
theorem FoR.put2 {w : World} {b4 b5 : Nat} {x0 x1 x2 x3 : Int} {wx : World} (h : FoR w b4 b5 x0 x1 x2 x3 wx) (v : Int) : FoR w b4 b5 x0 x1 v x3 (wx.setCell ⟨b5, 2, none⟩ (.int .i64 v)) :=
 ⟨(heap_setCell_other wx ⟨b5, 2, none⟩ b4 _ (by have := h.low.2; simp; omega)).trans h.res, heap_setCell_same wx b5 2 _ _ (.int .i64 v) h.val, h.low, h.bel.setCell (p := ⟨b5, 2, none⟩) (by show _ ≤ b5; have := h.low; omega) _⟩
theorem FoR.put3 {w : World} {b4 b5 : Nat} {x0 x1 x2 x3 : Int} {wx : World} (h : FoR w b4 b5 x0 x1 x2 x3 wx) (v : Int) : FoR w b4 b5 x0 x1 x2 v (wx.setCell ⟨b5, 3, none⟩ (.int .i64 v)) :=
 ⟨(heap_setCell_other wx ⟨b5, 3, none⟩ b4 _ (by have := h.low.2; simp; omega)).trans h.res, heap_setCell_same wx b5 3 _ _ (.int .i64 v) h.val, h.low, h.bel.setCell (p := ⟨b5, 3, none⟩) (by show _ ≤ b5; have := h.low; omega) _⟩
theorem FoR.cell {w : World} {b4 b5 : Nat} {x0 x1 x2 x3 : Int} {wx : World} (h : FoR w b4 b5 x0 x1 x2 x3 wx) :
  wx.cell? ⟨b5, 0, none⟩ = some (.int .i64 x0) ∧ wx.cell? ⟨b5, 1, none⟩ = some (.int .i64 x1) ∧ wx.cell? ⟨b5, 2, none⟩ = some (.int .i64 x2) ∧ wx.cell? ⟨b5, 3, none⟩ = some (.int .i64 x3) ∧ (∀ j, wx.frozen? ⟨b5, j, none⟩ = false) :=
 ⟨cell_of_row wx b5 0 _ _ (0, 0) h.val, cell_of_row wx b5 1 _ _ (0, 0) h.val, cell_of_row wx b5 2 _ _ (0, 0) h.val, cell_of_row wx b5 3 _ _ (0, 0) h.val, fun j => frozen_of_row wx b5 j _ _ h.val⟩

set_option maxRecDepth 100000 in
set_option maxHeartbeats 4000000 in
theorem four_walk (w : World) (pm : Nat) (D : MadeD) (h : MadeAt w pm D) (r : Nat) (hr : r ≤ 1114111) (hv : MadeVal D r) :
  Calls Tryz.prog 25 #[.pointer (some ⟨pm, 0, none⟩), .int .i32 (r : Nat)] w fun e w' => e = .returned (.agg #[.int .i64 (fvs D 0 r), .int .i64 (fvs D 1 r), .int .i64 (fvs D 2 r), .int .i64 (fvs D 3 r)]) ∧ Below w.heap.size w w' := by
 have HC := Lib.hid (fun (W : World) (hb : Below w.heap.size w W) => mClass_walk W pm D (h.below hb) (r : Nat))
 have HBr := Lib.hid (fun (W : World) (hb : Below w.heap.size w W) => mBracket_walk W pm D (h.below hb) (r : Nat))
 have HT := Lib.hid (fun (W : World) (hb : Below w.heap.size w W) => mTwin_walk W pm D (h.below hb) (r : Nat))
 have HMi := Lib.hid (fun (W : World) (hb : Below w.heap.size w W) => mMirror_walk W pm D (h.below hb) (r : Nat))
 rw [runeR_nat hr] at HC HBr HT HMi
 have HF := Lib.hid (show fvs D 0 r = fvC (D.cls r) ∧ fvs D 1 r = fvB (D.oth r) (D.side r) ∧ fvs D 2 r = fvT (D.twin r) (r : Nat) ∧ fvs D 3 r = fvM (D.mir r) (D.has r) from ⟨rfl, rfl, rfl, rfl⟩)
 have hc := hv.c
 have ho := hv.o
 have hs := hv.s
 have ht := hv.t
 have hm := hv.m
 unfold wf32 at ho ht hm
 clear hv h
 generalize fvs D 0 r = f0 at *
 generalize fvs D 1 r = f1 at *
 generalize fvs D 2 r = f2 at *
 generalize fvs D 3 r = f3 at *
 generalize D.cls r = C at *
 generalize D.oth r = O at *
 generalize D.side r = S at *
 generalize D.twin r = T at *
 generalize D.mir r = M at *
 generalize D.has r = Hs at *
 obtain ⟨e0, e1, e2, e3⟩ := HF.out
 have HF0 := Lib.hid e0; have HF1 := Lib.hid e1; have HF2 := Lib.hid e2; have HF3 := Lib.hid e3
 clear e0 e1 e2 e3 HF
 have hA := heap_alloc_new w (.cells #[.int .i64 0, .int .i64 0, .int .i64 0, .int .i64 0] 85)
 have hB := (Below.refl _ w).alloc (Nat.le_refl _) (.cells #[.int .i64 0, .int .i64 0, .int .i64 0, .int .i64 0] 85)
 have hZ := World.size_alloc w (.cells #[.int .i64 0, .int .i64 0, .int .i64 0, .int .i64 0] 85)
 obtain ⟨b4, hb4⟩ : ∃ b4, b4 = w.heap.size := ⟨_, rfl⟩
 go_enter Tryz.func25, Tryz.ntmps25
 go_upto_region 1 with (fail)
 rw [← hb4] at hA hZ ⊢
 generalize w.alloc (.cells #[.int .i64 0, .int .i64 0, .int .i64 0, .int .i64 0] 85) = w0 at *
 have HA := Lib.hid hA; have HB := Lib.hid hB; have HZ := Lib.hid hZ; have Hb4 := Lib.hid hb4
 clear hA hB hZ hb4
 go_wp2_with fail
 refine (HC.out _ HB.out).mono ?_
 rintro e w1 ⟨rfl, hb⟩
 have HB1 := Lib.hid (HB.out.trans (hb.mono HB.out.size))
 have HA1 := Lib.hid ((hb.block b4 (Array.getElem?_eq_some_iff.1 HA.out).1).trans HA.out)
 clear hb HA HB HC
 obtain ⟨b5, hb5⟩ : ∃ b5, b5 = w1.heap.size := ⟨_, rfl⟩
 have HFo := Lib.hid (show FoR w b4 b5 C 0 0 0 (w1.alloc (.cells #[.int .i64 C, .int .i64 0, .int .i64 0, .int .i64 0] 85)) from
  ⟨(Below.heap_alloc w1 _ b4 (Array.getElem?_eq_some_iff.1 HA1.out).1).trans HA1.out, by rw [hb5]; exact heap_alloc_new w1 _, ⟨by rw [Hb4.out]; exact Nat.le_refl _, by rw [hb5]; exact (Array.getElem?_eq_some_iff.1 HA1.out).1⟩, HB1.out.alloc HB1.out.size _⟩)
 go_upto_region 2 with (fail)
 rw [← hb5]
 clear HB1 HA1 HZ Hb4 hb5
 generalize w1.alloc (.cells #[.int .i64 C, .int .i64 0, .int .i64 0, .int .i64 0] 85) = wx at *
 obtain ⟨k0, k1, k2, k3, kf⟩ := HFo.out.cell
 have kf0 := kf 0
 clear kf
 obtain ⟨bb, hbb⟩ : ∃ bb, bb = decide (C < 1 ∨ 23 < C) := ⟨_, rfl⟩
 have HBb := Lib.hid hbb
 clear hbb
 go_cut [23] from 16 to 23 (fun v wy => v = .bool bb ∧ wy = wx)
 case first =>
  by_cases y1 : C < 1
  ·have HD := Lib.hid (HBb.out.trans (decide_eq_true (.inl y1)))
   go_wp2
   go_meet
   case rel => exact ⟨by rw [HD.out], rfl⟩
  ·by_cases y2 : 23 < C
   ·have HD := Lib.hid (HBb.out.trans (decide_eq_true (.inr y2)))
    go_wp2
    go_meet
    case rel => exact ⟨by rw [HD.out], rfl⟩
   ·have HD := Lib.hid (HBb.out.trans (decide_eq_false (by omega)))
    go_wp2
    go_meet
    case rel => exact ⟨by rw [HD.out], rfl⟩
 case rest =>
 obtain ⟨rfl, rfl⟩ := hcut
 go_step
 go_cut [5] from 24 to 23 (fun v wy => v = .pointer (some ⟨b5, 0, none⟩) ∧ FoR w b4 b5 f0 0 0 0 wy)
 case first =>
  cases bb
  ·have HY : Hid (f0 = C) := Lib.hid (by rw [HF0.out]; exact if_neg (of_decide_eq_false HBb.out.symm))
   go_wp2
   go_meet
   case rel => exact ⟨rfl, by rw [HY.out]; exact HFo.out⟩
  ·have HY : Hid (f0 = nv) := Lib.hid (by rw [HF0.out]; exact if_pos (of_decide_eq_true HBb.out.symm))
   go_wp2
   go_meet
   case rel => exact ⟨rfl, by rw [HY.out]; exact HFo.out.put0 nv⟩
 case rest =>
 obtain ⟨rfl, hfo⟩ := hcut
 clear HFo k0 k1 k2 k3 kf0 HBb HF0 hc
 have HFo := Lib.hid hfo
 clear hfo
 go_wp2_with fail
 refine (HBr.out _ HFo.out.bel).mono ?_
 rintro e w2 ⟨rfl, hb⟩
 have HFo2 := Lib.hid (HFo.out.next hb)
 clear hb HFo HBr
 obtain ⟨k0, k1, k2, k3, kf⟩ := HFo2.out.cell
 have kf1 := kf 1
 clear kf
 obtain ⟨bb, hbb⟩ : ∃ bb, bb = decide (2 < S ∨ (S ≠ 0 ∧ pointB O = false)) := ⟨_, rfl⟩
 have HBb := Lib.hid hbb
 clear hbb
 go_upto_region 5 with (fail)
 go_cut [41] from 31 to 41 (fun v wy => v = .bool bb ∧ wy = w2)
 case first =>
  by_cases y1 : 2 < S
  ·have HD := Lib.hid (HBb.out.trans (decide_eq_true (.inl y1)))
   go_wp2
   go_meet
   case rel => exact ⟨by rw [HD.out], rfl⟩
  ·by_cases y2 : S = 0
   ·have HD := Lib.hid (HBb.out.trans (decide_eq_false (fun h => h.elim y1 (fun h => h.1 y2))))
    have y3 : (S != 0) = false := by simp [y2]
    clear y2
    go_wp2
    go_meet
    case rel => exact ⟨by rw [HD.out], rfl⟩
   ·have y3 : (S != 0) = true := by simp [y2]
    have HY1 := Lib.hid y1
    have HY2 := Lib.hid y2
    clear y2
    go_wp2_with fail
    refine (ok_walk O w2).mono ?_
    rintro e w3 ⟨rfl, rfl⟩
    have HD := Lib.hid (HBb.out.trans (show decide (2 < S ∨ (S ≠ 0 ∧ pointB O = false)) = !pointB O from by
     cases pointB O
     ·exact decide_eq_true (.inr ⟨HY2.out, rfl⟩)
     ·exact decide_eq_false (fun h => h.elim (by have := HY1.out; omega) (fun h => by cases h.2))))
    generalize pointB O = po at *
    cases po
    ·go_wp2
     go_meet
     case rel => exact ⟨by rw [HD.out]; rfl, rfl⟩
    ·go_wp2
     go_meet
     case rel => exact ⟨by rw [HD.out]; rfl, rfl⟩
 case rest =>
 obtain ⟨rfl, rfl⟩ := hcut
 go_step
 go_cut [5] from 42 to 41 (fun v wy => v = .pointer (some ⟨b5, 0, none⟩) ∧ FoR w b4 b5 f0 f1 0 0 wy)
 case first =>
  cases bb
  ·have HN : Hid (¬ (2 < S ∨ (S ≠ 0 ∧ pointB O = false))) := Lib.hid (of_decide_eq_false HBb.out.symm)
   by_cases y1 : S = 1
   ·have HY : Hid (f1 = O + 1) := Lib.hid (by rw [HF1.out]; unfold fvB; rw [if_neg HN.out, if_pos y1])
    have hd : (S == 1) = true := by simp [y1]
    go_wp2
    go_meet
    case rel => exact ⟨rfl, by rw [HY.out]; exact HFo2.out.put1 _⟩
   ·have hd : (S == 1) = false := by simp [y1]
    by_cases y2 : S = 2
    ·have HY : Hid (f1 = -O - 1) := Lib.hid (by rw [HF1.out]; unfold fvB; rw [if_neg HN.out, if_neg y1, if_pos y2])
     have hd2 : (S == 2) = true := by simp [y2]
     go_wp2
     go_meet
     case rel => exact ⟨rfl, by rw [HY.out]; exact HFo2.out.put1 _⟩
    ·have HY : Hid (f1 = 0) := Lib.hid (by rw [HF1.out]; unfold fvB; rw [if_neg HN.out, if_neg y1, if_neg y2])
     have hd2 : (S == 2) = false := by simp [y2]
     go_wp2
     go_meet
     case rel => exact ⟨rfl, by rw [HY.out]; exact HFo2.out⟩
  ·have HY : Hid (f1 = nv) := Lib.hid (by rw [HF1.out]; exact if_pos (of_decide_eq_true HBb.out.symm))
   go_wp2
   go_meet
   case rel => exact ⟨rfl, by rw [HY.out]; exact HFo2.out.put1 nv⟩
 case rest =>
 obtain ⟨rfl, hfo⟩ := hcut
 clear HFo2 k0 k1 k2 k3 kf1 HBb HF1 hs ho
 have HFo := Lib.hid hfo
 clear hfo
 go_wp2_with fail
 refine (HT.out _ HFo.out.bel).mono ?_
 rintro e w2 ⟨rfl, hb⟩
 have HFo2 := Lib.hid (HFo.out.next hb)
 clear hb HFo HT
 obtain ⟨k0, k1, k2, k3, kf⟩ := HFo2.out.cell
 have kf2 := kf 2
 clear kf
 obtain ⟨bb, hbb⟩ : ∃ bb, bb = (T != ((r : Nat) : Int)) := ⟨_, rfl⟩
 have HBb := Lib.hid hbb
 clear hbb
 go_upto_region 12 with (fail)
 go_cut [61] from 59 to 61 (fun v wy => v = .bool bb ∧ wy = w2)
 case first =>
  have HD := HBb.out.symm
  cases bb
  ·go_wp2
   go_meet
   case rel => exact ⟨rfl, rfl⟩
  ·go_wp2
   go_meet
   case rel => exact ⟨rfl, rfl⟩
 case rest =>
 obtain ⟨rfl, rfl⟩ := hcut
 go_step
 go_cut [5] from 62 to 61 (fun v wy => v = .pointer (some ⟨b5, 0, none⟩) ∧ FoR w b4 b5 f0 f1 f2 0 wy)
 case first =>
  cases bb
  ·have HY : Hid (f2 = 0) := Lib.hid (by rw [HF2.out]; exact if_pos (by simpa using HBb.out.symm))
   go_wp2
   go_meet
   case rel => exact ⟨rfl, by rw [HY.out]; exact HFo2.out⟩
  ·have HY0 : Hid (f2 = if pointB T = false then nv else T + 1) := Lib.hid (by rw [HF2.out]; exact if_neg (by simpa using HBb.out.symm))
   go_wp2_with fail
   refine (ok_walk T _).mono ?_
   rintro e w3 ⟨rfl, rfl⟩
   have HFo3 := Lib.hid (HFo2.out.put2 (T + 1))
   generalize wc.setCell ⟨b5, 2, none⟩ (.int .i64 (T + 1)) = w4 at *
   clear k0 k1 k2 k3 kf2
   obtain ⟨k0, k1, k2, k3, kf⟩ := HFo3.out.cell
   have kf2 := kf 2
   clear kf
   generalize pointB T = po at *
   cases po
   ·have HY : Hid (f2 = nv) := Lib.hid (by rw [HY0.out]; rfl)
    go_wp2
    go_meet
    case rel => exact ⟨rfl, by rw [HY.out]; exact HFo3.out.put2 nv⟩
   ·have HY : Hid (f2 = T + 1) := Lib.hid (by rw [HY0.out]; rfl)
    go_wp2
    go_meet
    case rel => exact ⟨rfl, by rw [HY.out]; exact HFo3.out⟩
 case rest =>
 obtain ⟨rfl, hfo⟩ := hcut
 clear HFo2 k0 k1 k2 k3 kf2 HBb HF2 ht
 have HFo := Lib.hid hfo
 clear hfo
 go_wp2_with fail
 refine (HMi.out _ HFo.out.bel).mono ?_
 rintro e w2 ⟨rfl, hb⟩
 have HFo2 := Lib.hid (HFo.out.next hb)
 clear hb HFo HMi
 obtain ⟨k0, k1, k2, k3, kf⟩ := HFo2.out.cell
 have kf3 := kf 3
 clear kf
 go_upto_region 17 with (fail)
 go_cut [76] from 76 to 76 (fun v wy => v = .bool Hs ∧ wy = w2)
 case first =>
  go_wp2
  go_meet
  case rel => exact ⟨rfl, rfl⟩
 case rest =>
 obtain ⟨rfl, rfl⟩ := hcut
 go_step
 go_cut [5] from 77 to 76 (fun v wy => v = .pointer (some ⟨b5, 0, none⟩) ∧ FoR w b4 b5 f0 f1 f2 f3 wy)
 case first =>
  cases Hs
  ·have HY : Hid (f3 = 0) := Lib.hid (by rw [HF3.out]; rfl)
   go_wp2
   go_meet
   case rel => exact ⟨rfl, by rw [HY.out]; exact HFo2.out⟩
  ·have HY0 : Hid (f3 = if pointB M = false then nv else M + 1) := Lib.hid (by rw [HF3.out]; rfl)
   go_wp2_with fail
   refine (ok_walk M _).mono ?_
   rintro e w3 ⟨rfl, rfl⟩
   have HFo3 := Lib.hid (HFo2.out.put3 (M + 1))
   generalize wc.setCell ⟨b5, 3, none⟩ (.int .i64 (M + 1)) = w4 at *
   clear k0 k1 k2 k3 kf3
   obtain ⟨k0, k1, k2, k3, kf⟩ := HFo3.out.cell
   have kf3 := kf 3
   clear kf
   generalize pointB M = po at *
   cases po
   ·have HY : Hid (f3 = nv) := Lib.hid (by rw [HY0.out]; rfl)
    go_wp2
    go_meet
    case rel => exact ⟨rfl, by rw [HY.out]; exact HFo3.out.put3 nv⟩
   ·have HY : Hid (f3 = M + 1) := Lib.hid (by rw [HY0.out]; rfl)
    go_wp2
    go_meet
    case rel => exact ⟨rfl, by rw [HY.out]; exact HFo3.out⟩
 case rest =>
 obtain ⟨rfl, hfo⟩ := hcut
 clear HFo2 k0 k1 k2 k3 kf3 HF3 hm
 have HFo := Lib.hid hfo
 obtain ⟨k0, k1, k2, k3, -⟩ := hfo.cell
 have p0 := cell_of_row wc b4 0 _ _ (0, 0) hfo.res
 have p1 := cell_of_row wc b4 1 _ _ (0, 0) hfo.res
 have p2 := cell_of_row wc b4 2 _ _ (0, 0) hfo.res
 have p3 := cell_of_row wc b4 3 _ _ (0, 0) hfo.res
 have g0 := frozen_of_row wc b4 0 _ _ hfo.res
 have g1 := frozen_of_row wc b4 1 _ _ hfo.res
 have g2 := frozen_of_row wc b4 2 _ _ hfo.res
 have g3 := frozen_of_row wc b4 3 _ _ hfo.res
 simp at p0 p1 p2 p3
 clear hfo
 have y0 := heap_setCell_same wc b4 0 _ _ (.int .i64 f0) HFo.out.res
 have y1 := heap_setCell_same _ b4 1 _ _ (.int .i64 f1) y0
 have y2 := heap_setCell_same _ b4 2 _ _ (.int .i64 f2) y1
 have y3 := heap_setCell_same _ b4 3 _ _ (.int .i64 f3) y2
 have HY3 := Lib.hid y3
 have HL := Lib.hid HFo.out.low.1
 clear y0 y1 y2 y3
 go_wp2
 have r0 := cell_of_row _ b4 0 _ _ (0, 0) HY3.out
 have r1 := cell_of_row _ b4 1 _ _ (0, 0) HY3.out
 have r2 := cell_of_row _ b4 2 _ _ (0, 0) HY3.out
 have r3 := cell_of_row _ b4 3 _ _ (0, 0) HY3.out
 simp at r0 r1 r2 r3
 refine bodyPost_ret (v := .agg #[.int .i64 f0, .int .i64 f1, .int .i64 f2, .int .i64 f3]) (by simp [results, Tryz.results25, go_sem, r0, r1, r2, r3]) rfl ?_
 exact ⟨rfl, (((HFo.out.bel.setCell (p := ⟨b4, 0, none⟩) HL.out _).setCell (p := ⟨b4, 1, none⟩) HL.out _).setCell (p := ⟨b4, 2, none⟩) HL.out _).setCell (p := ⟨b4, 3, none⟩) HL.out _⟩
end Go.Proofs.YtbmphakfgoompaaGreat
