/- several texts in one: UC UPL UTH -/
import Derived.Deep.RegionLaw
import Derived.Test.YtbmphakfgoompaaGreatG3
import Derived.Test.YtbmphakfgoompaaGreatGR
import Derived.Test.YtbmphakfgoompaaGreatHTPF
import Derived.Test.YtbmphakfgoompaaGreatJQ
set_option linter.unusedVariables false
set_option linter.unusedSimpArgs false
/-
 The functions that 'Pack' fills tries with.
-/
namespace Go.Proofs.YtbmphakfgoompaaGreat
open Go.RowKit

def PkP (bW : Nat) (v : Int) (w w' : World) : Prop := w'.heap[bW]? = some (.cells #[.int .i32 v] 21 (0, 0)) ∧ w.grownBy w' (some bW)
/-- the boxes that the functions read -/
structure PkB (w : World) (bP bU bW : Nat) (pv : Value) (v : Int) : Prop where
 p : w.heap[bP]? = some (.cells #[pv] 124 (0, 0))
 u : w.heap[bU]? = some (.cells #[.func (.func 56) #[] #[.pointer (some ⟨bW, 0, none⟩)]] 125 (0, 0))
 w : w.heap[bW]? = some (.cells #[.int .i32 v] 21 (0, 0))
theorem PkB.below {w w' : World} {bP bU bW : Nat} {pv : Value} {v : Int} (h : PkB w bP bU bW pv v) (hb : Below w.heap.size w w') : PkB w' bP bU bW pv v :=
 ⟨(hb.block _ (Array.getElem?_eq_some_iff.1 h.p).1).trans h.p, (hb.block _ (Array.getElem?_eq_some_iff.1 h.u).1).trans h.u, (hb.block _ (Array.getElem?_eq_some_iff.1 h.w).1).trans h.w⟩
/-- a number's value for packed tables -/
def wrapLaid (o s : Int) : Int := if s = 1 then wrap32 (o + 1) else wrap32 (-(wrap32 (o + 1)))
end Go.Proofs.YtbmphakfgoompaaGreat

/-
 Laws of 'Pack': what may not be packed; tries filled while a number is kept.
-/
namespace Go.Proofs.YtbmphakfgoompaaGreat
open Go.RowKit

/-- where a value can't be packed -/
def pkC (C : Nat → Int) (r : Nat) : Bool := !knownB (C r)
def pkB (O S : Nat → Int) (r : Nat) : Bool := !(S r == 0 || (sidedB (S r) && pointB (O r)))
def pkT (T : Nat → Int) (r : Nat) : Bool := !(T r == (r : Nat) || pointB (T r))
def pkM (M : Nat → Int) (Hs : Nat → Bool) (r : Nat) : Bool := !(!Hs r || pointB (M r))
def packBad (C O S T M : Nat → Int) (Hs : Nat → Bool) (r : Nat) : Bool := pkC C r || pkB O S r || pkT T r || pkM M Hs r
def bkW (O S : Nat → Int) (r : Nat) : Int := if S r = 0 then 0 else wrapLaid (O r) (S r)
def twW (T : Nat → Int) (r : Nat) : Int := if T r = (r : Nat) then 0 else wrap32 (T r + 1)
def miW (M : Nat → Int) (Hs : Nat → Bool) (r : Nat) : Int := if Hs r = true then wrap32 (M r + 1) else 0
def bkF (O S : Nat → Int) (r : Nat) : Int := if S r = 0 then 0 else laidF (O r) (S r)
def twP (T : Nat → Int) (r : Nat) : Int := if T r = (r : Nat) then 0 else T r + 1
def miF (M : Nat → Int) (Hs : Nat → Bool) (r : Nat) : Int := if Hs r = true then M r + 1 else 0
theorem pack_eq {C O S T M : Nat → Int} {Hs : Nat → Bool} (h : Least (packBad C O S T M Hs) 1114112 1114112) (r : Nat) (hr : r ≤ 1114111) : bkW O S r = bkF O S r ∧ twW T r = twP T r ∧ miW M Hs r = miF M Hs r ∧ (-1114112 ≤ bkF O S r ∧ bkF O S r ≤ 1114112) ∧ (0 ≤ twP T r ∧ twP T r ≤ 1114112) ∧ (0 ≤ miF M Hs r ∧ miF M Hs r ≤ 1114112) := by
 have h1 := h.no r (by omega)
 simp only [packBad, Bool.or_eq_false_iff, pkC, pkB, pkT, pkM, Bool.not_eq_false', Bool.or_eq_true, Bool.and_eq_true, beq_iff_eq, pointB, sidedB, decide_eq_true_eq, Bool.not_eq_true'] at h1
 obtain ⟨⟨⟨-, h2⟩, h3⟩, h4⟩ := h1
 refine ⟨?_, ?_, ?_, ?_, ?_, ?_⟩
 ·unfold bkW bkF
  by_cases e : S r = 0
  ·rw [if_pos e, if_pos e]
  ·rw [if_neg e, if_neg e]
   have h5 := h2.resolve_left e
   unfold wrapLaid laidF
   split
   ·unfold wrap32; omega
   ·unfold wrap32; omega
 ·unfold twW twP
  by_cases e : T r = (r : Nat)
  ·rw [if_pos e, if_pos e]
  ·rw [if_neg e, if_neg e]
   have h5 := h3.resolve_left e
   unfold wrap32; omega
 ·unfold miW miF
  by_cases e : Hs r = true
  ·rw [if_pos e, if_pos e]
   have h5 := h4.resolve_left (by rw [e]; simp)
   unfold wrap32; omega
  ·rw [if_neg e, if_neg e]
 ·unfold bkF
  by_cases e : S r = 0
  ·rw [if_pos e]; omega
  ·rw [if_neg e]
   have h5 := h2.resolve_left e
   unfold laidF
   split <;> omega
 ·unfold twP
  by_cases e : T r = (r : Nat)
  ·rw [if_pos e]; omega
  ·rw [if_neg e]
   have h5 := h3.resolve_left e
   omega
 ·unfold miF
  by_cases e : Hs r = true
  ·rw [if_pos e]
   have h5 := h4.resolve_left (by rw [e]; simp)
   omega
  ·rw [if_neg e]; omega
theorem made8_congr {f g : Nat → Int} {S : MkS Int} (h : Made8 f S) (e : ∀ r, r ≤ 1114111 → f r = g r) : Made8 g S := by
 obtain ⟨K, hK, hS⟩ := h.eq
 have : mkF f K = mkF g K := mkF_congr K (fun r hr => e r (by omega))
 rw [hS, this]
 exact made8 g K hK
theorem made8_congrJ {f g : Nat → Int} {S : MkS Int} (h : VJ.Made8 f S) (e : ∀ r, r ≤ 1114111 → f r = g r) : VJ.Made8 g S := by
 obtain ⟨K, hK, hS⟩ := h.eq
 have : VJ.mkF f K = VJ.mkF g K := VJ.mkF_congr K (fun r hr => e r (by omega))
 rw [hS, this]
 exact VJ.made8 g K hK
theorem HTab.congr {w : World} {p B : Nat} {c b t m c' b' t' m' : Nat → Int} (h : HTab w p c b t m B) (e : ∀ r, r ≤ 1114111 → c r = c' r ∧ b r = b' r ∧ t r = t' r ∧ m r = m' r) : HTab w p c' b' t' m' B := by
 obtain ⟨gc, gb, gt, gm, SC, SB, ST, SM, h1, h2, h3, h4, h5, h6, h7⟩ := h
 exact ⟨gc, gb, gt, gm, SC, SB, ST, SM, ⟨h1.mem, fun r hr => (h1.c r hr).trans (e r hr).1, fun r hr => (h1.b r hr).trans (e r hr).2.1, fun r hr => (h1.t r hr).trans (e r hr).2.2.1, fun r hr => (h1.m r hr).trans (e r hr).2.2.2⟩,
  made8_congr h2 (fun r hr => (e r hr).1), made8_congrJ h3 (fun r hr => (e r hr).2.1), made8_congrJ h4 (fun r hr => (e r hr).2.2.1), made8_congrJ h5 (fun r hr => (e r hr).2.2.2), h6, h7⟩
/-- while a trie is filled: the least number so far that can't be packed -/
def PkJ (wf : World) (bW : Nat) (q : Nat → Bool) (W : World) : Prop := wf.grownBy W (some bW) ∧ ∃ v : Nat, W.heap[bW]? = some (.cells #[.int .i32 (v : Nat)] 21 (0, 0)) ∧ Least q 1114112 v
theorem Least.add {q : Nat → Bool} {v k : Nat} (h : Least q 1114112 v) (hk : k < 1114112) (b : Bool) : Least (fun r => q r || ((r == k) && b)) 1114112 (if b = true then Min.min v k else v) := by
 cases b
 ·exact h.congr (fun r _ => by simp)
 ·have h2 : Least (fun r => r == k) 1114112 k := .hit hk (by simp) (fun r hr => by simp; omega)
  exact (h.min h2).congr (fun r _ => by simp)
theorem PkJ.step {wf W W' : World} {bW k : Nat} {q p : Nat → Bool} (hk : k < 1114112) (h : wf.grownBy W (some bW)) {v : Nat} (hl : Least (fun r => q r || (p r && decide (r < k))) 1114112 v) {v' : Int} (hv' : v' = if p k = true then min (v : Int) (k : Nat) else (v : Nat)) (hp : PkP bW v' W W') : PkJ wf bW (fun r => q r || (p r && decide (r < k + 1))) W' := by
 have hn := (hl.add hk (p k)).congr (q := fun r => q r || (p r && decide (r < k + 1))) (fun r _ => by
  by_cases e : r = k
  ·subst e; simp
  ·have : (r == k) = false := beq_false_of_ne e
   rw [this, Bool.false_and, Bool.or_false]
   by_cases e2 : r < k
   ·simp [e2, show r < k + 1 by omega]
   ·simp [e2, show ¬ r < k + 1 by omega])
 refine ⟨grown_trans h hp.2, (if p k = true then Min.min v k else v), ?_, hn⟩
 rw [hp.1, hv']
 by_cases e : p k = true
 ·rw [if_pos e, if_pos e, show (min (v : Int) (k : Int)) = ((Min.min v k : Nat) : Int) by omega]
 ·rw [if_neg e, if_neg e]
theorem PkJ.next {wf W W' : World} {bW : Nat} {q : Nat → Bool} (h : PkJ wf bW q W) (hs : bW < wf.heap.size) (hb : Below wf.heap.size W W') : PkJ wf bW q W' := by
 obtain ⟨h1, v, h2, h3⟩ := h
 refine ⟨⟨hb.os.trans h1.os, hb.tape.trans h1.tape, hb.output.trans h1.output, Nat.le_trans h1.size hb.size, fun k hk hne => ?_⟩, v, ?_, h3⟩
 ·rw [hb.block k hk]; exact h1.block k hk hne
 ·rw [hb.block bW hs]; exact h2
/-- on its way: the boxes, the tables -/
structure PkS (w : World) (s : Nat) (pv : Value) (q : Nat → Bool) (tc : Array Value) (W : World) : Prop where
 le : s ≤ W.heap.size
 bel : Below s w W
 p : W.heap[s]? = some (.cells #[pv] 124 (0, 0))
 u : W.heap[s + 2]? = some (.cells #[.func (.func 56) #[] #[.pointer (some ⟨s + 1, 0, none⟩)]] 125 (0, 0))
 w : ∃ v : Nat, W.heap[s + 1]? = some (.cells #[.int .i32 (v : Nat)] 21 (0, 0)) ∧ Least q 1114112 v
 t : W.heap[s + 3]? = some (.cells tc 103 (0, 0))
theorem PkS.set {w : World} {s : Nat} {pv : Value} {q : Nat → Bool} {tc : Array Value} {W : World} (h : PkS w s pv q tc W) (i : Nat) (v : Value) : PkS w s pv q (tc.setIfInBounds i v) (W.setCell ⟨s + 3, i, none⟩ v) := by
 have b : ∀ k, k ≠ s + 3 → (W.setCell ⟨s + 3, i, none⟩ v).heap[k]? = W.heap[k]? := fun k hk => heap_setCell_other W ⟨s + 3, i, none⟩ k v (fun e => hk (by simpa using e))
 exact ⟨by simpa using h.le, h.bel.setCell (p := ⟨s + 3, i, none⟩) (by show s ≤ s + 3; omega) v, (b _ (by omega)).trans h.p, (b _ (by omega)).trans h.u, by obtain ⟨x, h1, h2⟩ := h.w; exact ⟨x, (b _ (by omega)).trans h1, h2⟩, heap_setCell_same W (s + 3) i tc _ v h.t⟩
end Go.Proofs.YtbmphakfgoompaaGreat

/-
 Plain laws: lists that may be, looked up.
-/
namespace Go.Proofs.YtbmphakfgoompaaGreat
open Go.RowKit

theorem lastF_map {α β γ : Type} (p : α → Bool) (v : α → β) (g : β → γ) : ∀ (l : List α) (z : β), g (lastF p v z l) = lastF p (fun s => g (v s)) (g z) l
 | [], _ => rfl
 | s :: l, z => by
  unfold lastF
  rw [List.foldl_cons, List.foldl_cons]
  by_cases e : p s = true
  ·rw [if_pos e, if_pos e]; exact lastF_map p v g l _
  ·rw [if_neg e, if_neg e]; exact lastF_map p v g l _
theorem lastF_congr {α β : Type} {p : α → Bool} {v v' : α → β} : ∀ {l : List α} (z : β), (∀ s ∈ l, p s = true → v s = v' s) → lastF p v z l = lastF p v' z l
 | [], _, _ => rfl
 | s :: l, z, h => by
  unfold lastF
  rw [List.foldl_cons, List.foldl_cons]
  by_cases e : p s = true
  ·rw [if_pos e, if_pos e, h s (by simp) e]; exact lastF_congr _ (fun s hs => h s (by simp [hs]))
  ·rw [if_neg e, if_neg e]; exact lastF_congr _ (fun s hs => h s (by simp [hs]))
theorem valF_last {α : Type} (key val : α → Int) (l : List α) (x : Int) : valF key val l x = lastF (fun s => key s == x) val 0 l := by
 unfold valF lastF
 congr 1
 funext acc s
 simp
structure HandOk (D : MadeD) : Prop where
 k : knownB D.rest = true
 h1 : ∀ s ∈ D.l1, entBad s = false
 h2 : ∀ s ∈ D.l2, brBad s = false
 h3 : ∀ s ∈ D.l3, twBad s = false
 h4 : ∀ s ∈ D.l4, twBad s = false
theorem hand_ok {D : MadeD} (h : handBad D.rest D.l1 D.l2 D.l3 D.l4 = none) : HandOk D ∧ Fit (fun r => brkF D.l2 (r : Nat)) (fun r => twnF D.l3 (r : Nat)) (fun r => twnF D.l4 (r : Nat)) := by
 unfold handBad at h
 split at h
 ·rename_i hk
  split at h
  ·cases h
  ·rename_i e1
   split at h
   ·cases h
   ·rename_i e2
    split at h
    ·cases h
    ·rename_i e3
     have e4 : D.l4.find? twBad = none := by
      cases e : D.l4.find? twBad with
      | none => rfl
      | some x => rw [e] at h; cases h
     exact ⟨⟨hk, mem_no e1, mem_no e2, mem_no e3, mem_no e4⟩, hand_fit e2 e3 e4⟩
 ·cases h
theorem HandOk.br {D : MadeD} (h : HandOk D) (r : Nat) : bkF D.oth D.side r = brkF D.l2 (r : Nat) := by
 have e : bkF D.oth D.side r = lastF (fun s : SpanD => s.f == ((r : Nat) : Int)) (fun s => if s.v = 0 then 0 else laidF s.t s.v) 0 D.l2 :=
  lastF_map (fun s : SpanD => s.f == ((r : Nat) : Int)) (fun s => (s.t, s.v)) (fun q : Int × Int => if q.2 = 0 then 0 else laidF q.1 q.2) D.l2 (0, 0)
 rw [e, brkF, valF_last]
 refine lastF_congr _ fun s hs hp => ?_
 obtain ⟨-, -, -, h4⟩ := br_ok (h.h2 s hs)
 exact if_neg (by omega)
theorem HandOk.tw {D : MadeD} (h : HandOk D) (r : Nat) : twP D.twin r = twnF D.l3 (r : Nat) := by
 have e : twP D.twin r = lastF (fun s : TwD => s.a == ((r : Nat) : Int)) (fun s => if (if true = true then s.s else ((r : Nat) : Int)) = (r : Nat) then 0 else (if true = true then s.s else ((r : Nat) : Int)) + 1) (if (if false = true then 0 else ((r : Nat) : Int)) = (r : Nat) then 0 else (if false = true then 0 else ((r : Nat) : Int)) + 1) D.l3 :=
  lastF_map (fun s : TwD => s.a == ((r : Nat) : Int)) (fun s => (s.s, true)) (fun q : Int × Bool => if (if q.2 = true then q.1 else ((r : Nat) : Int)) = (r : Nat) then 0 else (if q.2 = true then q.1 else ((r : Nat) : Int)) + 1) D.l3 (0, false)
 have e0 : (if (if false = true then (0 : Int) else ((r : Nat) : Int)) = (r : Nat) then (0 : Int) else (if false = true then 0 else ((r : Nat) : Int)) + 1) = 0 := by simp
 rw [e, e0, twnF, valF_last]
 refine lastF_congr _ fun s hs hp => ?_
 obtain ⟨-, -, h4⟩ := tw_ok (h.h3 s hs)
 have hp' : s.a = (r : Nat) := by simpa using hp
 simp only [if_true]
 exact if_neg (by omega)
theorem HandOk.mi {D : MadeD} (h : HandOk D) (r : Nat) : miF D.mir D.has r = twnF D.l4 (r : Nat) := by
 have e : miF D.mir D.has r = lastF (fun s : TwD => s.a == ((r : Nat) : Int)) (fun s => if true = true then s.s + 1 else 0) (if false = true then 0 + 1 else 0) D.l4 :=
  lastF_map (fun s : TwD => s.a == ((r : Nat) : Int)) (fun s => (s.s, true)) (fun q : Int × Bool => if q.2 = true then q.1 + 1 else 0) D.l4 (0, false)
 rw [e, twnF, valF_last, if_neg (by simp)]
 refine lastF_congr _ fun s hs hp => ?_
 exact if_pos rfl
theorem HandOk.cls {D : MadeD} (h : HandOk D) (r : Nat) : knownB (D.cls r) = true := by
 unfold MadeD.cls
 rw [clsF_last]
 rcases lastF_cases (fun s => decide (s.f ≤ ((r : Nat) : Int) ∧ ((r : Nat) : Int) ≤ s.t)) (fun s => s.v) D.l1 D.rest with e | ⟨s, h1, -, e⟩
 ·rw [e]; exact h.k
 ·rw [e]
  obtain ⟨-, -, -, h4⟩ := ent_ok (h.h1 s h1)
  exact decide_eq_true h4
theorem HandOk.pack {D : MadeD} (h : HandOk D) : Least (packBad D.cls D.oth D.side D.twin D.mir D.has) 1114112 1114112 := .none fun r hr => by
 simp only [packBad, pkC, pkB, pkT, pkM, Bool.or_eq_false_iff, Bool.not_eq_false', Bool.or_eq_true, Bool.and_eq_true, beq_iff_eq, pointB, sidedB, decide_eq_true_eq, Bool.not_eq_true']
 refine ⟨⟨⟨h.cls r, ?_⟩, ?_⟩, ?_⟩
 ·unfold MadeD.oth MadeD.side brG
  rcases lastF_cases (fun s => s.f == ((r : Nat) : Int)) (fun s => (s.t, s.v)) D.l2 (0, 0) with e | ⟨s, h1, -, e⟩
  ·rw [e]; exact .inl rfl
  ·rw [e]
   obtain ⟨-, h2, -, h4⟩ := br_ok (h.h2 s h1)
   exact .inr ⟨h4, h2⟩
 ·unfold MadeD.twin twG
  rcases lastF_cases (fun s => s.a == ((r : Nat) : Int)) (fun s => (s.s, true)) D.l3 (0, false) with e | ⟨s, h1, -, e⟩
  ·rw [e]; exact .inl rfl
  ·rw [e]
   obtain ⟨-, h2, -⟩ := tw_ok (h.h3 s h1)
   exact .inr h2
 ·unfold MadeD.mir MadeD.has twG
  rcases lastF_cases (fun s => s.a == ((r : Nat) : Int)) (fun s => (s.s, true)) D.l4 (0, false) with e | ⟨s, h1, -, e⟩
  ·rw [e]; exact .inl rfl
  ·rw [e]
   obtain ⟨-, h2, -⟩ := tw_ok (h.h4 s h1)
   exact .inr h2
end Go.Proofs.YtbmphakfgoompaaGreat
