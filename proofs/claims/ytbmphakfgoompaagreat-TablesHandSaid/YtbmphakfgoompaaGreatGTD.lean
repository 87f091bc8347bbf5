/- several texts in one: TD TU TX TZ TN -/
import Derived.Test.YtbmphakfgoompaaGreatGTA
import Derived.Deep.RegionLaw
import Derived.Test.YtbmphakfgoompaaGreatHTR
import Derived.Test.YtbmphakfgoompaaGreatGR
import Derived.RangeFuncBound
import Derived.OwnWalkIn
import Derived.TacticsInMore
import Derived.LoopNIn
import Derived.LoopIn
import Derived.Deep.Cut
set_option linter.unusedVariables false
set_option linter.unusedSimpArgs false
/-
 The walk of 'Build' (numbers of eight bits): the closure, the two loops.
-/
namespace Go.Proofs.YtbmphakfgoompaaGreat
open Go.RowKit

structure SpanD where
 f : Int
 t : Int
 v : Int
instance : Inhabited SpanD := ⟨⟨0, 0, 0⟩⟩
/-- the spans that a slice holds -/
def SpansAt (w : World) (a : Option Addr) (l : List SpanD) : Prop :=
 ∀ i (h : i < l.length), ∃ b o, a = some ⟨b, o, none⟩ ∧ w.cell? ⟨b, o + i * 3, none⟩ = some (.int .i32 l[i].f) ∧ w.cell? ⟨b, o + i * 3 + 1, none⟩ = some (.int .i32 l[i].t) ∧ w.cell? ⟨b, o + i * 3 + 2, none⟩ = some (.int .u8 l[i].v)
theorem SpansAt.get {w : World} {b o : Nat} {l : List SpanD} (h : SpansAt w (some ⟨b, o, none⟩) l) (i : Nat) (hi : i < l.length) :
  w.cell? ⟨b, o + i * 3, none⟩ = some (.int .i32 l[i].f) ∧ w.cell? ⟨b, o + i * 3 + 1, none⟩ = some (.int .i32 l[i].t) ∧ w.cell? ⟨b, o + i * 3 + 2, none⟩ = some (.int .u8 l[i].v) := by
 obtain ⟨b', o', e, hc⟩ := h i hi
 simp only [Option.some.injEq, Addr.mk.injEq, and_true] at e
 obtain ⟨rfl, rfl⟩ := e
 exact hc
theorem SpansAt.some {w : World} {a : Option Addr} {l : List SpanD} (h : SpansAt w a l) (hn : 0 < l.length) : ∃ b o, a = Option.some ⟨b, o, none⟩ := by
 obtain ⟨b, o, e, _⟩ := h 0 hn
 exact ⟨b, o, e⟩
theorem SpansAt.below {w w' : World} {B : Nat} {a : Option Addr} {l : List SpanD} (h : SpansAt w a l) (hb : Below B w w') (hB : ∀ b o, a = Option.some ⟨b, o, none⟩ → 0 < l.length → b < B) : SpansAt w' a l := by
 intro i hi
 obtain ⟨b, o, rfl, h1, h2, h3⟩ := h i hi
 have hl := hB b o rfl (by omega)
 exact ⟨b, o, rfl, by rw [hb.cell (p := ⟨b, o + i * 3, none⟩) hl]; exact h1, by rw [hb.cell (p := ⟨b, o + i * 3 + 1, none⟩) hl]; exact h2, by rw [hb.cell (p := ⟨b, o + i * 3 + 2, none⟩) hl]; exact h3⟩
theorem SpansAt.lt {w : World} {a : Option Addr} {l : List SpanD} (h : SpansAt w a l) : ∀ b o, a = Option.some ⟨b, o, none⟩ → 0 < l.length → b < w.heap.size := fun b o e h0 => by
 obtain ⟨b', o', e2, h3, -⟩ := h 0 h0
 rw [e2] at e
 simp only [Option.some.injEq, Addr.mk.injEq, and_true] at e
 obtain ⟨rfl, -⟩ := e
 exact World.block_lt_of_cell? w _ h3

set_option maxRecDepth 100000 in
def badS (s : SpanD) : Prop := s.f < 0 ∨ 1114111 < s.t ∨ s.t < s.f
def hasS (x : Int) (s : SpanD) : Bool := decide (s.f ≤ x ∧ x ≤ s.t)
def ownF (l : List SpanD) (x : Int) : Int := match l.findIdx? (hasS x) with
 | some i => (i : Int) + 1
 | none => 0
def osF (N : Nat) (l : List SpanD) : List Int := (List.range N).map (fun x => ownF l (x : Nat))
def osG (N : Nat) (l : List SpanD) (f r v : Int) : List Int := (List.range N).map (fun x => if f ≤ ((x : Nat) : Int) ∧ ((x : Nat) : Int) < r then v else ownF l (x : Nat))
def meetS (l : List SpanD) (k : Nat) : Prop := ∃ x : Int, hasS x (l.getD k default) = true ∧ ownF (l.take k) x ≠ 0
def fS (rest : Int) (l : List SpanD) (r : Nat) : Int := if ownF l (r : Nat) = 0 then rest else (l.getD (ownF l (r : Nat) - 1).toNat default).v
theorem ownF_le (l : List SpanD) (x : Int) : ownF l x = 0 ∨ ∃ i : Nat, i < l.length ∧ ownF l x = (i : Int) + 1 := by
 unfold ownF
 cases h : l.findIdx? (hasS x) with
 | none => exact .inl rfl
 | some i => exact .inr ⟨i, (List.findIdx?_eq_some_iff_getElem.1 h).1, rfl⟩
theorem ownF_snoc (l : List SpanD) (s : SpanD) (x : Int) : ownF (l ++ [s]) x = if ownF l x = 0 then (if hasS x s = true then (l.length : Int) + 1 else 0) else ownF l x := by
 unfold ownF
 rw [List.findIdx?_append]
 cases h : l.findIdx? (hasS x) with
 | some i => simp; omega
 | none =>
  simp only [Option.none_or, List.findIdx?_cons, List.findIdx?_nil]
  by_cases hs : hasS x s = true
  ·simp [hs]
  ·simp [hs]
theorem osG_start (N : Nat) (l : List SpanD) (f v : Int) : osG N l f f v = osF N l := by
 unfold osG osF
 apply List.map_congr_left
 intro x _
 rw [if_neg (by omega)]
theorem osG_step (N : Nat) (l : List SpanD) (f : Int) (r : Nat) (v : Int) (hr : r < N) (hf : f ≤ (r : Int)) : (osG N l f r v).set r v = osG N l f ((r : Int) + 1) v := by
 apply List.ext_getElem?
 intro i
 by_cases e : r = i
 ·subst e
  rw [List.getElem?_set_self (by simp [osG]; exact hr)]
  simp only [osG, List.getElem?_map, List.getElem?_range hr, Option.map_some]
  rw [if_pos (by omega)]
 ·rw [List.getElem?_set_ne e]
  simp only [osG, List.getElem?_map]
  by_cases hi : i < N
  ·rw [List.getElem?_range hi]
   simp only [Option.map_some]
   by_cases h : f ≤ (i : Int) ∧ (i : Int) < r
   ·rw [if_pos h, if_pos (by omega)]
   ·rw [if_neg h, if_neg (by omega)]
  ·rw [List.getElem?_eq_none (by simp; omega)]
   rfl
theorem osG_at (N : Nat) (l : List SpanD) (f : Int) (r : Nat) (v : Int) (hr : r < N) : (osG N l f r v)[r]? = some (ownF l r) := by
 simp only [osG, List.getElem?_map, List.getElem?_range hr, Option.map_some]
 rw [if_neg (by omega)]
theorem osG_end (N : Nat) (l : List SpanD) (k : Nat) (hk : k < l.length) (hm : ¬ meetS l k) : osG N (l.take k) (l[k]).f ((l[k]).t + 1) ((k : Int) + 1) = osF N (l.take (k + 1)) := by
 unfold osG osF
 apply List.map_congr_left
 intro x _
 rw [List.take_succ_eq_append_getElem hk, ownF_snoc]
 have hl : (l.take k).length = k := by rw [List.length_take]; omega
 rw [hl]
 by_cases h : (l[k]).f ≤ ((x : Nat) : Int) ∧ ((x : Nat) : Int) < (l[k]).t + 1
 ·have hs : hasS (x : Nat) l[k] = true := decide_eq_true ⟨h.1, by omega⟩
  have h0 : ownF (l.take k) (x : Nat) = 0 := Classical.byContradiction fun hn => hm ⟨(x : Nat), by rw [show l.getD k default = l[k] by simp [hk]]; exact hs, hn⟩
  rw [if_pos h, if_pos h0, if_pos hs]
 ·have hs : ¬ hasS (x : Nat) l[k] = true := fun e => by have := of_decide_eq_true e; omega
  rw [if_neg h, if_neg hs]
  split
  ·rename_i h0; exact h0
  ·rfl
theorem osF_nil (N : Nat) : osF N [] = List.replicate N 0 := by
 rw [List.eq_replicate_iff]
 refine ⟨by simp [osF], fun x hx => ?_⟩
 obtain ⟨y, -, rfl⟩ := List.mem_map.1 hx
 rfl
theorem osF_get (N : Nat) (l : List SpanD) (r : Nat) (hr : r < N) : (osF N l)[r]? = some (ownF l r) := by
 simp only [osF, List.getElem?_map, List.getElem?_range hr, Option.map_some]
theorem osF_length (N : Nat) (l : List SpanD) : (osF N l).length = N := by simp [osF]
theorem osG_length (N : Nat) (l : List SpanD) (f r v : Int) : (osG N l f r v).length = N := by simp [osG]
theorem no_meet {l : List SpanD} {k : Nat} (hk : k < l.length) (h : ∀ x : Int, (l[k]).f ≤ x → x ≤ (l[k]).t → ownF (l.take k) x = 0) : ¬ meetS l k := by
 rintro ⟨x, h1, h2⟩
 rw [show l.getD k default = l[k] by simp [hk]] at h1
 have h3 := of_decide_eq_true h1
 exact h2 (h x h3.1 h3.2)
theorem yes_meet {l : List SpanD} {k : Nat} (hk : k < l.length) {x : Int} (h1 : (l[k]).f ≤ x) (h2 : x ≤ (l[k]).t) (h : ownF (l.take k) x ≠ 0) : meetS l k :=
 ⟨x, by rw [show l.getD k default = l[k] by simp [hk]]; exact decide_eq_true ⟨h1, h2⟩, h⟩
end Go.Proofs.YtbmphakfgoompaaGreat

/-
 Plain laws: how many blocks a function's trie has.
-/
namespace Go.Proofs.YtbmphakfgoompaaGreat

theorem blkF_ext {f f' : Nat → Int} {j : Nat} (h : ∀ i, i < 64 → f' (64 * j + i) = f (64 * j + i)) : blkF f' j = blkF f j := by
 unfold blkF
 apply List.map_congr_left
 intro i hi
 exact h i (List.mem_range.1 hi)
theorem blkF_const {f : Nat → Int} {j : Nat} {v : Int} (h : ∀ i, i < 64 → f (64 * j + i) = v) : blkF f j = List.replicate 64 v := by
 rw [List.eq_replicate_iff]
 refine ⟨blkF_length f j, fun x hx => ?_⟩
 obtain ⟨i, hi, rfl⟩ := List.mem_map.1 hx
 exact h i (List.mem_range.1 hi)
theorem bigB_ext {f f' : Nat → Int} {c : Nat} (h : ∀ i, i < 4096 → f' (4096 * c + i) = f (4096 * c + i)) : bigB (blkF f') c = bigB (blkF f) c := by
 unfold bigB
 apply List.map_congr_left
 intro j hj
 have hj := List.mem_range.1 hj
 refine blkF_ext (fun i hi => ?_)
 have := h (64 * j + i) (by omega)
 rw [show 4096 * c + (64 * j + i) = 64 * (64 * c + j) + i by omega] at this
 exact this
theorem bigB_const {f : Nat → Int} {c : Nat} {v : Int} (h : ∀ i, i < 4096 → f (4096 * c + i) = v) : bigB (blkF f) c = List.replicate 64 (List.replicate 64 v) := by
 rw [List.eq_replicate_iff]
 refine ⟨by simp [bigB], fun x hx => ?_⟩
 obtain ⟨j, hj, rfl⟩ := List.mem_map.1 hx
 have hj := List.mem_range.1 hj
 refine blkF_const (fun i hi => ?_)
 have := h (64 * j + i) (by omega)
 rw [show 4096 * c + (64 * j + i) = 64 * (64 * c + j) + i by omega] at this
 exact this
theorem Made8.nl {f : Nat → Int} {S : MkS Int} (hS : Made8 f S) : S.lows.Nodup := hS.made.inv.nl
theorem more3 {f f' : Nat → Int} {S S' : MkS Int} (hS : Made8 f S) (hS' : Made8 f' S') (a b : Nat) (hab : a ≤ b) (hb : b ≤ 1114111) (v : Int) (h : ∀ r, f' r = if a ≤ r ∧ r ≤ b then v else f r) :
  S'.lows.length ≤ S.lows.length + 3 ∧ S'.mids.length ≤ S.mids.length + 3 := by
 constructor
 ·have := nodup_le S'.lows (S.lows ++ [List.replicate 64 v, blkF f' (a / 64), blkF f' (b / 64)]) hS'.nl (fun x hx => by
   obtain ⟨j, hj, rfl⟩ := (hS'.made.low_mem x).1 hx
   rw [List.mem_append]
   by_cases h1 : 64 * j + 63 < a ∨ b < 64 * j
   ·refine .inl ((hS.made.low_mem _).2 ⟨j, hj, blkF_ext (fun i hi => ?_)⟩)
    rw [h, if_neg (by omega)]
   ·by_cases h2 : a ≤ 64 * j ∧ 64 * j + 63 ≤ b
    ·have e : blkF f' j = List.replicate 64 v := blkF_const (fun i hi => by rw [h, if_pos (by omega)])
     rw [e]; simp
    ·by_cases h3 : a ≤ 64 * j
     ·rw [show j = b / 64 by omega]; simp
     ·rw [show j = a / 64 by omega]; simp)
  simpa using this
 ·have := nodup_le (S'.mids.map (namedBy S'.lows)) (S.mids.map (namedBy S.lows) ++ [List.replicate 64 (List.replicate 64 v), bigB (blkF f') (a / 4096), bigB (blkF f') (b / 4096)]) hS'.made.big_nd (fun x hx => by
   obtain ⟨c, hc, rfl⟩ := (hS'.made.big_mem x).1 hx
   rw [List.mem_append]
   by_cases h1 : 4096 * c + 4095 < a ∨ b < 4096 * c
   ·refine .inl ((hS.made.big_mem _).2 ⟨c, hc, bigB_ext (fun i hi => ?_)⟩)
    rw [h, if_neg (by omega)]
   ·by_cases h2 : a ≤ 4096 * c ∧ 4096 * c + 4095 ≤ b
    ·have e : bigB (blkF f') c = List.replicate 64 (List.replicate 64 v) := bigB_const (fun i hi => by rw [h, if_pos (by omega)])
     rw [e]
     exact .inr (by simp only [List.mem_cons]; exact .inl trivial)
    ·by_cases h3 : a ≤ 4096 * c
     ·rw [show c = b / 4096 by omega]
      exact .inr (by simp only [List.mem_cons]; exact .inr (.inr (.inl trivial)))
     ·rw [show c = a / 4096 by omega]
      exact .inr (by simp only [List.mem_cons]; exact .inr (.inl trivial)))
  simpa using this
theorem only1 {f : Nat → Int} {S : MkS Int} (hS : Made8 f S) (v : Int) (h : ∀ r, f r = v) : S.lows.length = 1 ∧ S.mids.length = 1 := by
 have hp := hS.pos
 have h1 := nodup_le S.lows [List.replicate 64 v] hS.nl (fun x hx => by
  obtain ⟨j, hj, rfl⟩ := (hS.made.low_mem x).1 hx
  rw [blkF_const (fun i hi => h _)]
  exact List.mem_singleton.2 rfl)
 have h2 := nodup_le (S.mids.map (namedBy S.lows)) [List.replicate 64 (List.replicate 64 v)] hS.made.big_nd (fun x hx => by
  obtain ⟨c, hc, rfl⟩ := (hS.made.big_mem x).1 hx
  rw [bigB_const (fun i hi => h _)]
  exact List.mem_singleton.2 rfl)
 simp only [List.length_singleton, List.length_map] at h1 h2
 omega
theorem flat_len {β : Type} : ∀ (L : List (List β)), (∀ l ∈ L, l.length = 64) → L.flatten.length = 64 * L.length
 | [], _ => rfl
 | l :: L, h => by
  rw [List.flatten_cons, List.length_append, h l (by simp), flat_len L (fun l hl => h l (by simp [hl])), List.length_cons]
  omega
theorem low_le_mid {f : Nat → Int} {S : MkS Int} (hS : Made8 f S) : S.lows.length ≤ 64 * S.mids.length := by
 have := nodup_le S.lows (S.mids.map (namedBy S.lows)).flatten hS.nl (fun x hx => by
  obtain ⟨j, hj, rfl⟩ := (hS.made.low_mem x).1 hx
  rw [List.mem_flatten]
  refine ⟨bigB (blkF f) (j / 64), (hS.made.big_mem _).2 ⟨j / 64, by omega, rfl⟩, ?_⟩
  exact List.mem_map.2 ⟨j % 64, List.mem_range.2 (by omega), by rw [show 64 * (j / 64) + j % 64 = j by omega]⟩)
 rw [flat_len _ (fun l hl => by
  obtain ⟨c, hc, rfl⟩ := (hS.made.big_mem l).1 hl
  simp [bigB])] at this
 simpa using this
/-- a span more -/
theorem fS_snoc (rest : Int) (l : List SpanD) (x : SpanD) (hm : ¬ meetS (l ++ [x]) l.length) (hb : ¬ badS x) : ∀ r, fS rest (l ++ [x]) r = if x.f.toNat ≤ r ∧ r ≤ x.t.toNat then x.v else fS rest l r := by
 intro r
 have hb2 : 0 ≤ x.f ∧ x.t ≤ 1114111 ∧ x.f ≤ x.t := by unfold badS at hb; omega
 unfold fS
 rw [ownF_snoc]
 by_cases h : x.f.toNat ≤ r ∧ r ≤ x.t.toNat
 ·have hh : hasS ((r : Nat) : Int) x = true := decide_eq_true (by omega)
  have h0 : ownF l ((r : Nat) : Int) = 0 := Classical.byContradiction fun hn => hm ⟨((r : Nat) : Int), by simp [List.getD_eq_getElem?_getD, hh], by simpa using hn⟩
  rw [if_pos h, if_pos h0, if_pos hh, if_neg (by omega)]
  rw [show ((l.length : Int) + 1 - 1).toNat = l.length by omega]
  simp [List.getD_eq_getElem?_getD]
 ·have hh : ¬ hasS ((r : Nat) : Int) x = true := fun e => by have := of_decide_eq_true e; omega
  rw [if_neg h]
  by_cases h0 : ownF l ((r : Nat) : Int) = 0
  ·rw [if_pos h0, if_neg hh]
   simp [h0]
  ·rw [if_neg h0, if_neg h0, if_neg h0]
   congr 1
   rcases ownF_le l ((r : Nat) : Int) with h1 | ⟨i, hi, h1⟩
   ·exact absurd h1 h0
   ·rw [h1, show ((i : Int) + 1 - 1).toNat = i by omega]
    rw [List.getD_eq_getElem?_getD, List.getD_eq_getElem?_getD, List.getElem?_append_left hi]
theorem meet_take {l : List SpanD} {k j : Nat} (hj : j < k) (h : meetS (l.take k) j) : meetS l j := by
 obtain ⟨x, h1, h2⟩ := h
 refine ⟨x, ?_, ?_⟩
 ·rw [List.getD_eq_getElem?_getD, List.getElem?_take, if_pos hj, ← List.getD_eq_getElem?_getD] at h1
  exact h1
 ·rw [List.take_take, Nat.min_eq_left (by omega)] at h2
  exact h2
theorem count_le (rest : Int) (l : List SpanD) (hb : ∀ j, j < l.length → ¬ badS (l.getD j default)) (hm : ∀ j, j < l.length → ¬ meetS l j) :
  ∀ k, k ≤ l.length → ∀ S, Made8 (fS rest (l.take k)) S → S.lows.length ≤ 1 + 3 * k ∧ S.mids.length ≤ 1 + 3 * k := by
 intro k
 induction k with
 | zero =>
  intro _ S hS
  have := only1 hS rest (fun r => by simp [fS, ownF])
  omega
 | succ k ih =>
  intro hk S hS
  have hS0 := made8 (fS rest (l.take k)) 17408 rfl
  generalize mkF (fS rest (l.take k)) 17408 = S0 at *
  have h1 := ih (by omega) S0 hS0
  have hkl : k < l.length := by omega
  have e : l.take (k + 1) = l.take k ++ [l[k]] := List.take_succ_eq_append_getElem hkl
  have hlen : (l.take k).length = k := by rw [List.length_take]; omega
  have hbk : ¬ badS l[k] := by have := hb k hkl; rwa [show l.getD k default = l[k] by simp [hkl]] at this
  have hmk : ¬ meetS (l.take k ++ [l[k]]) (l.take k).length := by
   rw [← e, hlen]
   exact fun h => hm k hkl (meet_take (by omega) h)
  rw [e] at hS
  have h2 := more3 hS0 hS l[k].f.toNat l[k].t.toNat (by unfold badS at hbk; omega) (by unfold badS at hbk; omega) l[k].v (fS_snoc rest (l.take k) l[k] hmk hbk)
  omega
end Go.Proofs.YtbmphakfgoompaaGreat

/-
 The walk of TrieSmall.
-/
namespace Go.Proofs.YtbmphakfgoompaaGreat
open Go.RowKit

theorem wp_appSN {P : Program} {t e : TypeId} {z : Value} {size bytes : Nat} (el : ElemN P t e z size bytes) {w : World} {o : Oper} {act : Act} {K : Act → World → Prop} {Q : Exit → Act → World → Prop} (s x : Operand)
  (ho : o.op = .call { callee := .builtin .append, args := #[s, x], argTypes := #[t, t] }) {B : Nat} {a : Option Addr} {n cap : Nat} {xs : List Value} (hown : w.ownsRow B e size (.slice a n cap) n xs) (hB : B ≤ w.heap.size)
  {a2 : Option Addr} {m c : Nat} {ys : List Value} (hys : ys.length = m * size) (hsrc : ∀ j v, ys[j]? = some v → ∃ ad, a2 = some ad ∧ w.cell? (ad.add j) = some v) (hnone : a2 = none → c = 0) (hone : ∀ u ∈ ys, u.oneCell' = true) (hn : (n + m) * bytes ≤ 140737488355328) (hm : n + m ≤ maxLen)
  (hs : act.eval s = .slice a n cap) (hx : act.eval x = .slice a2 m c)
  (h : ∀ a' cap' w', w'.ownsRow B e size (.slice a' (n + m) cap') (n + m) (xs ++ ys) → w.grownBy w' (Value.slice a n cap).ownBlock → newBlock w (.slice a n cap) (.slice a' (n + m) cap') → K (act.put o.dst (.slice a' (n + m) cap')) w') :
  o.wp P act w K Q := by
 obtain ⟨i, hi, hz, h1, hb⟩ := info_parts el.inf
 have hp := el.pos
 cases a2 with
 | none =>
  have hy0 : ys = [] := by
   cases ys with
   | nil => rfl
   | cons y t => obtain ⟨ad, hbad, _⟩ := hsrc 0 y (by simp); simp at hbad
  subst hy0
  have hm0 : m = 0 := by
   rcases Nat.mul_eq_zero.1 (by simpa using hys.symm) with h | h
   ·exact h
   ·omega
  subst hm0
  have hc := hnone rfl
  subst hc
  have hr := run_append_owned_none (P := P) w B t o.type e i size el.und hi _ n xs hown
  unfold Oper.wp execOp
  simp only [ho, resolve, invoke, builtin, Sem.run_bind, Sem.run_pure, Result.andThen_ok, List.map_toArray, List.map_cons, List.map_nil, hs, hx, hr]
  exact (h a cap w (by simpa using hown) ⟨rfl, rfl, rfl, Nat.le_refl _, fun _ _ _ => rfl⟩ (.inl rfl))
 | some ad =>
  have hcell : ∀ j v, ys[j]? = some v → w.cell? (ad.add j) = some v := by
   intro j v hv
   obtain ⟨ad', h3, h4⟩ := hsrc j v hv
   obtain rfl := Option.some.inj h3
   exact h4
  obtain ⟨v', w', hr, h2, h3, h4⟩ := run_app (P := P) w B t o.type e i z size bytes el.und hi hz h1 hb el.sz el.pos _ n xs hown ad m c ys hys hcell hone hm hn hB
  unfold Oper.wp execOp
  simp only [ho, resolve, invoke, builtin, Sem.run_bind, Sem.run_pure, Result.andThen_ok, List.map_toArray, List.map_cons, List.map_nil, hs, hx, hr]
  have hv' : ∃ a' cap', v' = .slice a' (n + m) cap' := by
   rcases h2.2 with ⟨rfl, h0⟩ | ⟨g, cap', cur, rfl, _⟩
   ·exact ⟨none, 0, by rw [h0]⟩
   ·exact ⟨_, _, rfl⟩
  obtain ⟨a', cap', rfl⟩ := hv'
  exact h a' cap' w' h2 h3 h4

theorem step_appSN {P : Program} {t e : TypeId} {z : Value} {size bytes : Nat} (el : ElemN P t e z size bytes) {w : World} {ops : Array Oper} {o : Oper} {act : Act} {K : Act → World → Prop} {Q : Exit → Act → World → Prop} {E : Prop} (hgd : o.guard = none) (s x : Operand)
  (ho : o.op = .call { callee := .builtin .append, args := #[s, x], argTypes := #[t, t] }) {B : Nat} {a : Option Addr} {n cap : Nat} {xs : List Value} (hown : w.ownsRow B e size (.slice a n cap) n xs) (hB : B ≤ w.heap.size)
  {a2 : Option Addr} {m c : Nat} {ys : List Value} (hys : ys.length = m * size) (hsrc : ∀ j v, ys[j]? = some v → ∃ ad, a2 = some ad ∧ w.cell? (ad.add j) = some v) (hnone : a2 = none → c = 0) (hone : ∀ u ∈ ys, u.oneCell' = true) (hn : (n + m) * bytes ≤ 140737488355328) (hm : n + m ≤ maxLen)
  (hs : act.eval s = .slice a n cap) (hx : act.eval x = .slice a2 m c)
  (h : ∀ a' cap' w', w'.ownsRow B e size (.slice a' (n + m) cap') (n + m) (xs ++ ys) → w.grownBy w' (Value.slice a n cap).ownBlock → newBlock w (.slice a n cap) (.slice a' (n + m) cap') → K (act.put o.dst (.slice a' (n + m) cap')) w') :
  if Region.wanted o (yielded ops act.tmps) = true then Oper.wp P o act w K Q else E := by
 rw [if_pos (by simp [Region.wanted, hgd])]
 exact wp_appSN el s x ho hown hB hys hsrc hnone hone hn hm hs hx h
theorem step_appN {P : Program} {t e : TypeId} {z : Value} {size bytes : Nat} (el : ElemN P t e z size bytes) {w : World} {ops : Array Oper} {o : Oper} {act : Act} {K : Act → World → Prop} {Q : Exit → Act → World → Prop} {E : Prop} (hgd : o.guard = none) (s x : Operand)
  (ho : o.op = .call { callee := .builtin .append, args := #[s, x], argTypes := #[t, t] }) {B : Nat} {a : Option Addr} {n cap : Nat} {xs : List Value} (hown : w.ownsRow B e size (.slice a n cap) n xs) (hB : B ≤ w.heap.size) (hn : (n + 1) * bytes ≤ 140737488355328) (hm : n < 140737488355328) (b : Nat) (cs : List Value) (hcs : cs.length = size)
  (hcell : ∀ j v, cs[j]? = some v → w.cell? ⟨b, j, none⟩ = some v) (hu : ∀ u ∈ cs, u.oneCell' = true)
  (hs : act.eval s = .slice a n cap) (hx : act.eval x = .slice (some ⟨b, 0, none⟩) 1 1)
  (h : ∀ a' cap' w', w'.ownsRow B e size (.slice a' (n + 1) cap') (n + 1) (xs ++ cs) → w.grownBy w' (Value.slice a n cap).ownBlock → newBlock w (.slice a n cap) (.slice a' (n + 1) cap') → K (act.put o.dst (.slice a' (n + 1) cap')) w') :
  if Region.wanted o (yielded ops act.tmps) = true then Oper.wp P o act w K Q else E := by
 rw [if_pos (by simp [Region.wanted, hgd])]
 obtain ⟨i, hi, hz, h1, hb⟩ := info_parts el.inf
 have hcell' : ∀ j v, cs[j]? = some v → w.cell? ((⟨b, 0, none⟩ : Addr).add j) = some v := by
  intro j v hv
  rw [Addr.add_lit, Nat.zero_add]
  exact hcell j v hv
 obtain ⟨v', w', hr, h2, h3, h4⟩ := run_app (P := P) w B t o.type e i z size bytes el.und hi hz h1 hb el.sz el.pos _ n xs hown ⟨b, 0, none⟩ 1 1 cs (by simp [hcs]) hcell' hu (by simp only [maxLen]; omega) hn hB
 unfold Oper.wp execOp
 simp only [ho, resolve, invoke, builtin, Sem.run_bind, Sem.run_pure, Result.andThen_ok, List.map_toArray, List.map_cons, List.map_nil, hs, hx, hr]
 have hv' : ∃ a' cap', v' = .slice a' (n + 1) cap' := by
  rcases h2.2 with ⟨rfl, h0⟩ | ⟨g, cap', cur, rfl, _⟩
  ·omega
  ·exact ⟨_, _, rfl⟩
 obtain ⟨a', cap', rfl⟩ := hv'
 exact h a' cap' w' h2 h3 h4



/-- the spans may be, and go together -/
def okS (l : List SpanD) : Prop := (∀ j, j < l.length → ¬ badS (l.getD j default)) ∧ ∀ j, j < l.length → ¬ meetS l j
theorem okS_nil : okS [] := ⟨fun j hj => by simp at hj, fun j hj => by simp at hj⟩
theorem okS_snoc {l : List SpanD} {x : SpanD} (h : okS (l ++ [x])) : okS l ∧ ¬ badS x ∧ ¬ meetS (l ++ [x]) l.length := by
 refine ⟨⟨fun j hj => ?_, fun j hj hm => ?_⟩, ?_, h.2 l.length (by simp)⟩
 ·have := h.1 j (by simp; omega)
  rwa [List.getD_eq_getElem?_getD, List.getElem?_append_left hj, ← List.getD_eq_getElem?_getD] at this
 ·refine h.2 j (by simp; omega) ?_
  have e : (l ++ [x]).take l.length = l := by simp
  exact meet_take hj (by rw [e]; exact hm)
 ·have := h.1 l.length (by simp)
  simpa [List.getD_eq_getElem?_getD] using this
end Go.Proofs.YtbmphakfgoompaaGreat

/-
 The walk through all low blocks of a trie, with any closure that is called for each.
-/
namespace Go.Proofs.YtbmphakfgoompaaGreat
open Go.RowKit
attribute [local go_sem] Oper.semAt_some

section
variable {α : Type}
/-- the low block of 64 numbers from 64 k on -/
def lowAt (T : TrieD α) (k : Nat) : List α := T.low.getD ((T.mid.getD (T.top.getD (k / 64) 0) []).getD (k % 64) 0) []
theorem lowAt_look (d : α) (T : TrieD α) (k j : Nat) (hj : j < 64) : (lowAt T k).getD j d = lookT d T (64 * k + j) := by
 unfold lowAt lookT
 rw [show (64 * k + j) / 4096 = k / 64 by omega, show (64 * k + j) / 64 % 64 = k % 64 by omega, show (64 * k + j) % 64 = j by omega]
theorem lowAt_length {T : TrieD α} (hk : TrieOk T) (k : Nat) (h : k < 17408) : (lowAt T k).length = 64 := by
 have htl : k / 64 < T.top.length := by rw [hk.top]; omega
 unfold lowAt
 rw [getD_at (d := 0) htl]
 have hil := hk.topN _ (List.getElem_mem htl)
 rw [getD_at (d := []) hil]
 have hmj : k % 64 < (T.mid[T.top[k / 64]]).length := by rw [hk.mid _ (List.getElem_mem hil)]; omega
 rw [getD_at (d := 0) hmj]
 have hjl := hk.midN _ (List.getElem_mem hil) _ (List.getElem_mem hmj)
 rw [getD_at (d := []) hjl]
 exact hk.low _ (List.getElem_mem hjl)
end
theorem run_index_top (cs : Array Value) (c : Nat) (v : Value) (hc : c < 272) (hv : cs[c]? = some v) (w : World) : (Instr.index 135 (.agg cs) (.int .i64 (c : Nat))).run Tryz.prog w = .ok v w := by
 have h1 : (isAgg 29).run Tryz.prog w = .ok false w := by kernel_rfl
 have h2 : (sizeOf 29).run Tryz.prog w = .ok 1 w := by kernel_rfl
 have h3 : (c : Int) < 272 := by omega
 simp [Instr.index, run_underlying Tryz.underlying135, asIntOf, h3, part, h1, h2, hv]
 omega
theorem run_index_mid (cs : Array Value) (c : Nat) (v : Value) (hc : c < 64) (hv : cs[c]? = some v) (w : World) : (Instr.index 145 (.agg cs) (.int .i64 (c : Nat))).run Tryz.prog w = .ok v w := by
 have h1 : (isAgg 29).run Tryz.prog w = .ok false w := by kernel_rfl
 have h2 : (sizeOf 29).run Tryz.prog w = .ok 1 w := by kernel_rfl
 have h3 : (c : Int) < 64 := by omega
 simp [Instr.index, run_underlying Tryz.underlying145, asIntOf, h3, part, h1, h2, hv]
 omega
/-- all of w0 lies as it lay -/
def Lies (w0 W : World) : Prop := ∀ k, k < w0.heap.size → W.heap[k]? = w0.heap[k]?
theorem Lies.cell {w0 W : World} (h : Lies w0 W) {b o : Nat} {v : Value} (hc : w0.cell? ⟨b, o, none⟩ = some v) : W.cell? ⟨b, o, none⟩ = some v := by
 rw [World.cell?_of_block (w := w0) (a := ⟨b, o, none⟩) (h b (World.block_lt_of_cell? w0 _ hc))]; exact hc
theorem Lies.range {w0 W : World} (h : Lies w0 W) {b o : Nat} {cs : List Value} (hc : w0.rangeAt b o cs) : W.rangeAt b o cs := fun j v hv => h.cell (hc j v hv)
theorem Lies.block {w0 W : World} (h : Lies w0 W) {b : Nat} {x : Obj} (hc : w0.heap[b]? = some x) : W.heap[b]? = some x := (h b (Array.getElem?_eq_some_iff.1 hc).1).trans hc
theorem Lies.of_below {w0 W W' : World} (h : Lies w0 W) (hs : w0.heap.size ≤ W.heap.size) (hb : Below W.heap.size W W') : Lies w0 W' := fun k hk => (hb.block k (by omega)).trans (h k hk)
theorem Lies.trie {w0 W : World} (h : Lies w0 W) {α : Type} {val : α → Value} {ty : TypeId} {n g : Nat} {T : TrieD α} (ht : TrieAt val ty n w0 g T) : TrieAt val ty n W g T := by
 obtain ⟨am, cm, al, cl, h1, h2, h3⟩ := ht
 exact ⟨am, cm, al, cl, h.block h1, fun i hi => by obtain ⟨b, o, e, hr⟩ := h2 i hi; exact ⟨b, o, e, h.range hr⟩, fun i hi => by obtain ⟨b, o, e, hr⟩ := h3 i hi; exact ⟨b, o, e, h.range hr⟩⟩
def BlO (J : Nat → World → Prop) (v : Value) (wr : World) : Prop := ∃ c : Nat, c ≤ 272 ∧ v = .int .i64 (c : Nat) ∧ J (64 * c) wr
def BlI (J : Nat → World → Prop) (c : Nat) (v : Value) (wr : World) : Prop := ∃ j : Nat, j ≤ 64 ∧ v = .int .i64 (j : Nat) ∧ J (64 * c + j) wr

set_option maxRecDepth 100000 in
set_option maxHeartbeats 1600000 in
theorem blocks8_walk (w0 : World) (g : Nat) (T : TrieD Int) (hk : TrieOk T) (h0 : 0 < T.low.length) (ht : TrieAt val8 141 64 w0 g T) (cf : Nat) (lb : Array Value) (J : Nat → World → Prop) (Jx : World → Prop) (w : World) (eg : ∀ args W, (callFunc cf args).run Tryz.prog W = .ok (.enter cf args) W)
  (hJ : ∀ k W, J k W → Lies w0 W)
  (hcall : ∀ k W (b o : Nat), k < 17408 → J k W → w0.rangeAt b o (blkC val8 (lowAt T k)) →
   Calls Tryz.prog cf (#[.pointer (some ⟨b, o, none⟩)] ++ lb) W fun e W' => (e = .returned (.bool true) ∧ J (k + 1) W') ∨ (e = .returned (.bool false) ∧ Jx W'))
  (h1 : J 0 w) :
  Calls Tryz.prog 116 #[.pointer (some ⟨g, 0, none⟩), .func (.func cf) #[] lb] w fun e w' => (∃ v, e = .returned v) ∧ (J 17408 w' ∨ Jx w') := by
 have HJ := Lib.hid hJ; clear hJ
 have HCl := Lib.hid hcall; clear hcall
 have H1 := Lib.hid h1; clear h1
 have HEg := Lib.hid eg; clear eg
 have HK := Lib.hid hk; clear hk
 obtain ⟨am, cm, al, cl, hh1, hh2, hh3⟩ := ht
 have HG1 := Lib.hid hh1; have HG2 := Lib.hid hh2; have HG3 := Lib.hid hh3
 clear hh1 hh2 hh3
 have hh1 := (HJ.out 0 w H1.out).block HG1.out
 have HR0 : Hid (w.rangeAt g 0 (blkC num16 T.top)) := Lib.hid (by
  intro j v hv
  have hjl : j < T.top.length := by
   have := (List.getElem?_eq_some_iff.1 hv).1
   rw [blkC_length (sz := 1) (fun _ => rfl)] at this
   omega
  rw [Nat.zero_add, TrieAt.cell_top (val := val8) HK.out hh1 j (by rw [← HK.out.top]; exact hjl), getD_at (d := 0) hjl, ← hv, blkC_get num16_cells _ j hjl])
 have hts : (blkC num16 T.top).length = 272 := by rw [blkC_length (sz := 1) (fun _ => rfl), HK.out.top]
 clear hh1
 go_enter Tryz.func116, Tryz.ntmps116
 go_upto_region 0 with (fail)
 refine wp_region_list ?_
 refine wpList_val (v := .pointer (some ⟨g, 0, none⟩)) (w' := w) rfl (by rfl) ?_
 refine wpList_val (v := .pointer (some ⟨g, 0, none⟩)) (w' := w) rfl (by rfl) ?_
 refine wpList_val (v := .pointer (some ⟨g, 0, none⟩)) (w' := w) rfl (by go_simp) ?_
 refine wpList_load_mid rfl 135 (.tmp 10) rfl g 0 rfl (blkC num16 T.top) (.array 272 29) HR0.out Tryz.underlying135 rfl (by rw [hts]; kernel_rfl) ?_
 have HTop : Hid (∀ c, c < 272 → (blkC num16 T.top).toArray[c]? = some (num16 (T.top.getD c 0))) := Lib.hid (fun c hc => by
  have hcl : c < T.top.length := by rw [HK.out.top]; exact hc
  rw [List.getElem?_toArray, blkC_get num16_cells _ c hcl, getD_at (d := 0) hcl])
 generalize (blkC num16 T.top).toArray = top at *
 clear hts HR0
 go_wp2
 go_loopw [12] (BlO J) (fun i _ => 272 - (intOf i).toNat)
 case atStart => exact ⟨0, Nat.zero_le _, rfl, H1.out⟩
 case round =>
  obtain ⟨c, hc, rfl, hj⟩ := hrel
  have HJc := Lib.hid hj; clear hj
  by_cases hcn : c < 272
  ·have hci : (c : Int) < 272 := by omega
   have a1 := run_index_top top c _ hcn (HTop.out c hcn) wr
   have htl : c < T.top.length := by rw [HK.out.top]; exact hcn
   have hil : T.top.getD c 0 < T.mid.length := by rw [getD_at (d := 0) htl]; exact HK.out.topN _ (List.getElem_mem htl)
   obtain ⟨i, hi⟩ : ∃ i, i = T.top.getD c 0 := ⟨_, rfl⟩
   rw [← hi] at a1 hil
   have HI := Lib.hid hi; clear hi
   have hly := HJ.out _ _ HJc.out
   have c1 := TrieAt.cell_mid (val := val8) HK.out (hly.block HG1.out)
   obtain ⟨bm, om, rfl⟩ := HG2.out.some (by omega)
   have HR := Lib.hid (hly.range (HG2.out.get i hil))
   clear hly
   have hml : (T.mid[i]).length = 64 := HK.out.mid _ (List.getElem_mem hil)
   have hms : (blkC num16 T.mid[i]).length = 64 := by rw [blkC_length (sz := 1) (fun _ => rfl), hml]
   have hnm : T.mid.length ≤ 272 := HK.out.midL
   have HMid : Hid (∀ j, j < 64 → (blkC num16 T.mid[i]).toArray[j]? = some (num16 ((T.mid.getD i []).getD j 0))) := Lib.hid (fun j hj => by
    rw [List.getElem?_toArray, blkC_get num16_cells _ j (by omega), getD_at (d := []) hil, getD_at (d := 0) (by omega)])
   unfold num16 at a1
   have g1 : (0 : Int) ≤ (i : Int) := by omega
   have g2 : (i : Int) < ((T.mid.length : Nat) : Int) := by omega
   generalize hnn : T.mid.length = nm at c1 g2 hnm
   clear hnn
   go_upto_region 3 with (fail)
   refine wp_region_list ?_
   refine wpList_val (v := .pointer (some ⟨g, 0, none⟩)) (w' := wr) rfl (by rfl) ?_
   refine wpList_val (v := .pointer (some ⟨g, 0, none⟩)) (w' := wr) rfl (by rfl) ?_
   refine wpList_val (v := .pointer (some ⟨g, 272, none⟩)) (w' := wr) rfl (by go_simp) ?_
   refine wpList_val (v := .slice (some ⟨bm, om, none⟩) nm cm) (w' := wr) rfl (by go_simp) ?_
   refine wpList_val (v := .int .u16 (i : Nat)) (w' := wr) rfl (by rfl) ?_
   refine wpList_val (v := .pointer (some ⟨bm, om + i * 64, none⟩)) (w' := wr) rfl (by go_simp) ?_
   refine wpList_load_mid rfl 145 (.tmp 20) rfl bm (om + i * 64) rfl (blkC num16 T.mid[i]) (.array 64 29) HR.out Tryz.underlying145 rfl (by rw [hms]; kernel_rfl) ?_
   generalize (blkC num16 T.mid[i]).toArray = mid at *
   clear hms HR c1 g1 g2 hnm a1
   go_wp2
   go_loopw [22] (BlI J c) (fun i _ => 64 - (intOf i).toNat)
   case atStart => exact ⟨0, Nat.zero_le _, rfl, HJc.out⟩
   case round =>
    obtain ⟨j, hj, rfl, hjj⟩ := hrel
    have HJj := Lib.hid hjj; clear hjj
    by_cases hjn : j < 64
    ·have hji : (j : Int) < 64 := by omega
     have b1 := run_index_mid mid j _ hjn (HMid.out j hjn) wr
     have hly := HJ.out _ _ HJj.out
     have c2 := TrieAt.cell_low (val := val8) HK.out (hly.block HG1.out)
     clear hly
     have hkk : 64 * c + j < 17408 := by omega
     have hLow : lowAt T (64 * c + j) = T.low.getD ((T.mid.getD i []).getD j 0) [] := by
      unfold lowAt
      rw [show (64 * c + j) / 64 = c by omega, show (64 * c + j) % 64 = j by omega, ← HI.out]
     have hmj : j < (T.mid[i]).length := by rw [hml]; exact hjn
     have hll : (T.mid.getD i []).getD j 0 < T.low.length := by
      rw [getD_at (d := []) hil, getD_at (d := 0) hmj]
      exact HK.out.midN _ (List.getElem_mem hil) _ (List.getElem_mem hmj)
     obtain ⟨q, hq⟩ : ∃ q, q = (T.mid.getD i []).getD j 0 := ⟨_, rfl⟩
     rw [← hq] at b1 hLow hll
     obtain ⟨bl, ol, rfl⟩ := HG3.out.some (by omega)
     have HRl : Hid (w0.rangeAt bl (ol + q * 64) (blkC val8 (lowAt T (64 * c + j)))) := Lib.hid (by
      rw [hLow, getD_at (d := []) hll]
      exact HG3.out.get q hll)
     have hnl : T.low.length ≤ 17408 := HK.out.lowL
     clear hq hLow
     unfold num16 at b1
     have g3 : (0 : Int) ≤ (q : Int) := by omega
     have g4 : (q : Int) < ((T.low.length : Nat) : Int) := by omega
     generalize hnn : T.low.length = nl at c2 g4 hnl
     clear hnn hll hmj hil hml
     have heg := HEg.out
     go_wp2_with fail
     refine (HCl.out (64 * c + j) wr bl (ol + q * 64) hkk HJj.out HRl.out).mono ?_
     rintro e w5 (⟨rfl, h5⟩ | ⟨rfl, h5⟩)
     ·have H5 := Lib.hid h5; clear h5 heg
      go_wp2
      go_roundw
      case rel => exact ⟨j + 1, by omega, by go_num, by rw [← Nat.add_assoc]; exact H5.out⟩
      case measure => simp [intOf]; omega
     ·have H5 := Lib.hid h5; clear h5 heg
      go_wp2
      refine bodyPost_ret (results_none rfl _ _ _) rfl ?_
      exact ⟨⟨_, rfl⟩, .inr H5.out⟩
    ·obtain rfl : j = 64 := by omega
     have HJ6 : Hid (J (64 * (c + 1)) wr) := Lib.hid HJj.out
     go_wp2
     go_roundw
     case rel => exact ⟨c + 1, by omega, by go_num, HJ6.out⟩
     case measure => simp [intOf]; omega
  ·obtain rfl : c = 272 := by omega
   have hJ2 : J 17408 wr := HJc.out
   have HJ2 := Lib.hid hJ2; clear hJ2
   go_wp2
   go_end0
   exact ⟨⟨_, rfl⟩, .inl HJ2.out⟩
end Go.Proofs.YtbmphakfgoompaaGreat

/-
 No trie, no function: walks; the walk of TrieNil.
-/
namespace Go.Proofs.YtbmphakfgoompaaGreat
open Go.RowKit
attribute [local go_sem] Oper.semAt_some

def encS (s : SpanD) : Array Value := #[.agg #[.int .i32 s.f, .int .i32 s.t, .int .u8 s.v]]
def encR (r : Int) : Array Value := #[.int .i32 r]
theorem Spans8_fun (q : Option Addr) (w : World) : Calls Tryz.prog 86 #[.pointer q] w fun e w' => e = .returned (.func (.func 115) #[] #[.pointer (some ⟨w.heap.size, 0, none⟩)]) ∧
  w'.cell? ⟨w.heap.size, 0, none⟩ = some (.pointer q) ∧ w'.heap.size = w.heap.size + 1 ∧ Below w.heap.size w w' := by
 go_enter Tryz.func86, Tryz.ntmps86
 go_wp2
 go_ret
 have c0 := cell_of_row _ w.heap.size 0 _ _ (0, 0) (heap_alloc_new w (.cells #[.pointer q] 96))
 exact ⟨rfl, c0, by simp, (Below.refl _ w).alloc (Nat.le_refl _) _⟩
theorem run_equalIn_nil_nil {P : Program} (w : World) (d : Nat) (t : TypeId) (ps rs : Array TypeId) (v : Bool) (h : P.underlying t = some (.func ps rs v)) :
  (Op.equalIn (d + 1) t .nilFunc .nilFunc).run P w = .ok true w := by
 simp [Op.equalIn, run_underlying h]
theorem run_eql_nil_nil {P : Program} (w : World) (t : TypeId) (ps rs : Array TypeId) (v : Bool) (h : P.underlying t = some (.func ps rs v)) :
  (binOp .eql t .nilFunc .nilFunc).run P w = .ok (.bool true) w := by
 simp only [binOp]
 simp [Op.equal, Op.maxDepth, run_equalIn_nil_nil w 9999 t ps rs v h]
theorem Parts8_nil (w : World) : Calls Tryz.prog 98 #[.pointer none] w fun e w' => e = .returned (.agg #[.slice none 0 0, .slice none 0 0, .slice none 0 0]) ∧ Below w.heap.size w w' := by
 go_enter Tryz.func98, Tryz.ntmps98
 go_wp2_with fail
 refine (there8_nil _).mono ?_
 rintro e w1 ⟨rfl, rfl⟩
 go_wp2
 have z0 : (w.alloc (.cells #[.slice none 0 0, .slice none 0 0, .slice none 0 0] 46)).cell? ⟨w.heap.size, 0, none⟩ = some (.slice none 0 0) := cell_of_row _ w.heap.size 0 _ _ (0, 0) (heap_alloc_new w (.cells #[.slice none 0 0, .slice none 0 0, .slice none 0 0] 46))
 have z1 : (w.alloc (.cells #[.slice none 0 0, .slice none 0 0, .slice none 0 0] 46)).cell? ⟨w.heap.size, 1, none⟩ = some (.slice none 0 0) := cell_of_row _ w.heap.size 1 _ _ (0, 0) (heap_alloc_new w (.cells #[.slice none 0 0, .slice none 0 0, .slice none 0 0] 46))
 have z2 : (w.alloc (.cells #[.slice none 0 0, .slice none 0 0, .slice none 0 0] 46)).cell? ⟨w.heap.size, 2, none⟩ = some (.slice none 0 0) := cell_of_row _ w.heap.size 2 _ _ (0, 0) (heap_alloc_new w (.cells #[.slice none 0 0, .slice none 0 0, .slice none 0 0] 46))
 have hA := (Below.refl _ w).alloc (Nat.le_refl _) (.cells #[.slice none 0 0, .slice none 0 0, .slice none 0 0] 46)
 generalize (w.alloc (.cells #[.slice none 0 0, .slice none 0 0, .slice none 0 0] 46)) = w1 at *
 have hA1 := (Below.refl _ w1).alloc (Nat.le_refl _) (.cells #[.slice none 0 0, .slice none 0 0, .slice none 0 0] 46)
 have y0 := (hA1.cell (p := ⟨w.heap.size, 0, none⟩) (World.block_lt_of_cell? w1 _ z0)).trans z0
 have y1 := (hA1.cell (p := ⟨w.heap.size, 1, none⟩) (World.block_lt_of_cell? w1 _ z1)).trans z1
 have y2 := (hA1.cell (p := ⟨w.heap.size, 2, none⟩) (World.block_lt_of_cell? w1 _ z2)).trans z2
 refine bodyPost_ret (v := .agg #[.slice none 0 0, .slice none 0 0, .slice none 0 0]) (by simp [results, Tryz.results98, go_sem, y0, y1, y2]) rfl ?_
 exact ⟨rfl, hA.trans (hA1.mono hA.size)⟩
theorem At8_nil (w : World) (r : Int) : Calls Tryz.prog 65 #[.pointer none, .int .i32 r] w fun e w' => e = .returned (.int .u8 0) ∧ Below w.heap.size w w' := by
 go_enter Tryz.func65, Tryz.ntmps65
 go_wp2_with fail
 refine (there8_nil _).mono ?_
 rintro e w1 ⟨rfl, rfl⟩
 go_wp2
 go_ret
 exact ⟨rfl, Below.refl _ _⟩
set_option maxRecDepth 100000 in
set_option maxRecDepth 100000 in
set_option maxRecDepth 100000 in
theorem SpansNil_stops (b : Nat) (R : Nat → Prop) (w : World) (h1 : w.cell? ⟨b, 0, none⟩ = some (.pointer none)) :
  SeqX Tryz.prog 115 #[.pointer (some ⟨b, 0, none⟩)] encS R (fun xs => xs = []) (fun _ => False) 0 w := by
 intro l J Jx W hW hJ hJx hY h0
 refine callsIn_wide.2 ?_
 have HJ := Lib.hid (hJ _ (fun _ => False) _ W (W.alloc (.cells #[.func (.yield l) #[] #[]] 202)) h0 (Off.alloc _ _ _) (Wider.refl _ _ _)); clear hJ hJx hY h0
 have q1 : W.cell? ⟨b, 0, none⟩ = some (.pointer none) := by rw [hW.cell (p := ⟨b, 0, none⟩) (World.block_lt_of_cell? w _ h1)]; exact h1
 have q2 : (W.alloc (.cells #[.func (.yield l) #[] #[]] 202)).cell? ⟨b, 0, none⟩ = some (.pointer none) := (((Below.refl _ W).alloc (Nat.le_refl _) _).cell (p := ⟨b, 0, none⟩) (World.block_lt_of_cell? W _ q1)).trans q1
 clear h1 hW q1
 go_enter Tryz.func115, Tryz.ntmps115
 go_wp2_with fail
 refine (there8_nil _).mono ?_
 rintro e w1 ⟨rfl, rfl⟩
 go_wp2
 refine bodyPost_ret (results_none rfl _ _ _) rfl ?_
 exact ⟨⟨_, rfl⟩, .inl ⟨_, [], rfl, HJ.out⟩⟩
theorem leaves_marks {P : Program} {fn : Func} {tmps : Array Value} {Rr : Ending → World → Prop} {B : Nat} : ∀ (Ds : List Nat) (w : World), Ds.Nodup → (∀ D ∈ Ds, B ≤ D ∧ w.heap[D]? = some (.deferred (some []))) →
  (∀ w', Below B w w' → LeavesInM Fence.wide 3 P fn tmps Rr [] .returning w') → LeavesInM Fence.wide 3 P fn tmps Rr (Ds.map (fun D => { target := .collected D, args := #[] })) .returning w
 | [], w, _, _, h => h w (Below.refl _ _)
 | D :: Ds, w, hn, hD, h => by
  rw [List.nodup_cons] at hn
  refine leaves_mark (hD D (by simp)).2 (leaves_marks (B := B) Ds _ hn.2 (fun E hE => ?_) (fun w' hb => h w' ?_))
  ·refine ⟨(hD E (by simp [hE])).1, ?_⟩
   rw [World.putObj_heap_other (show E ≠ D from fun e => hn.1 (e ▸ hE))]
   exact (hD E (by simp [hE])).2
  ·have h1 := (hD D (by simp)).1
   have hp : Below B w (w.putObj D (.deferred none)) := ⟨rfl, rfl, rfl, by simp, fun k hk => World.putObj_heap_other (show k ≠ D by omega)⟩
   exact hp.trans hb

/-- all that lay below n lies as it lay -/
def BelI {α : Type} (w0 : World) (n : Nat) : (Nat → Prop) → List α → World → Prop := fun T _ W => Below n w0 W ∧ n ≤ W.heap.size ∧ ∀ k, T k → n ≤ k
theorem BelI.abide {α : Type} (w0 : World) (n : Nat) : Abide (BelI (α := α) w0 n) := fun T T' s W W' ⟨h1, h2, h3⟩ ho hw =>
 ⟨h1.trans (ho.below n h2 h3), Nat.le_trans h2 ho.size, fun k hk => by rcases hw k hk with h | h; exact h3 k h; omega⟩

end Go.Proofs.YtbmphakfgoompaaGreat
