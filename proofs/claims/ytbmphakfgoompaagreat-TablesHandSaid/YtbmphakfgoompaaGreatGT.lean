/- several texts in one: TM TB TS TL -/
import Derived.DeepKeys3
import Derived.MapKept
import Derived.WalkKit
import Derived.Test.YtbmphakfgoompaaGreatGB
import Derived.Deep.MidRow
import Derived.StillTailTactics
import Derived.Test.YtbmphakfgoompaaGreatGR
set_option linter.unusedVariables false
set_option linter.unusedSimpArgs false
/-
 Laws over the model alone: a map whose keys are arrays, each stored once with the number of keys before it.
-/
namespace Go.Proofs.YtbmphakfgoompaaGreat
open Go.RowKit

structure ArrK (P : Program) (t E : TypeId) (n sz : Nat) {α : Type} (val : α → Value) (eqB : α → α → Bool) : Prop where
 und : P.underlying t = some (.array n E)
 inf : ∃ i, P.info? E = some i
 cel : P.cellsOf E = sz
 wide : ∀ a, (val a).cells.toList.length = sz
 part : ∀ (w : World) (xs : Array Value) (off : Nat) (a : α), (xs.toList.drop off).take sz = (val a).cells.toList → (part E xs off).run P w = .ok (val a) w
 eqE : ∀ (w : World) (d : Nat) (a b : α), (Op.equalIn (d + 3) E (val a) (val b)).run P w = .ok (eqB a b) w
 chk : ∀ (w : World) (em : Bool) (d : Nat) (a : α), (Instr.checkKey em (d + 3) E (val a)).run P w = .ok () w

section
variable {α : Type}
/-- a block as a value -/
def blkC (val : α → Value) (l : List α) : List Value := l.flatMap (fun a => (val a).cells.toList)
def blkV (val : α → Value) (l : List α) : Value := .agg (blkC val l).toArray
def eqL (eqB : α → α → Bool) : List α → List α → Bool
 | a :: l, b :: m => eqB a b && eqL eqB l m
 | _, _ => true

variable {P : Program} {t E : TypeId} {n sz : Nat} {val : α → Value} {eqB : α → α → Bool}

theorem blkC_length (hw : ∀ a, (val a).cells.toList.length = sz) (l : List α) : (blkC val l).length = l.length * sz := by
 induction l with
 | nil => simp [blkC]
 | cons a l ih =>
  rw [blkC, List.flatMap_cons, List.length_append, hw, List.length_cons, Nat.add_mul, Nat.one_mul]
  rw [blkC] at ih
  omega
theorem blkC_drop (hw : ∀ a, (val a).cells.toList.length = sz) (l : List α) (k : Nat) : (blkC val l).drop (k * sz) = blkC val (l.drop k) := by
 induction k generalizing l with
 | zero => simp
 | succ k ih =>
  cases l with
  | nil => simp [blkC]
  | cons a l =>
   rw [List.drop_succ_cons, ← ih l, blkC, List.flatMap_cons, ← blkC, Nat.add_mul, Nat.one_mul, Nat.add_comm, ← List.drop_drop]
   congr 1
   rw [← hw a, List.drop_left]
theorem blkC_part (hw : ∀ a, (val a).cells.toList.length = sz) (l : List α) (k : Nat) (hk : k < l.length) : ((blkC val l).drop (k * sz)).take sz = (val l[k]).cells.toList := by
 rw [blkC_drop hw, List.drop_eq_getElem_cons hk, blkC, List.flatMap_cons, ← hw l[k], List.take_left]

theorem ArrK.equal_items (K : ArrK P t E n sz val eqB) (w : World) (d : Nat) (l m : List α) (hl : l.length = n) (hm : m.length = n) : ∀ (j k : Nat), k + j = n →
  (Op.eqItems (d + 3) E (P.cellsOf E) (blkC val l).toArray (blkC val m).toArray (List.range' k j)).run P w = .ok (eqL eqB (l.drop k) (m.drop k)) w := by
 intro j
 induction j with
 | zero =>
  intro k hk
  rw [List.drop_eq_nil_of_le (by omega)]
  simp [Op.eqItems, eqL]
 | succ j ih =>
  intro k hk
  have hk1 : k < l.length := by omega
  have hk2 : k < m.length := by omega
  rw [List.range'_succ, Op.eqItems, K.cel, List.drop_eq_getElem_cons hk1, List.drop_eq_getElem_cons hk2]
  have p1 := K.part w (blkC val l).toArray (k * sz) l[k] (by rw [← blkC_part K.wide l k hk1])
  have p2 := K.part w (blkC val m).toArray (k * sz) m[k] (by rw [← blkC_part K.wide m k hk2])
  have p3 := K.eqE w d l[k] m[k]
  have p4 := ih (k + 1) (by omega)
  rw [K.cel] at p4
  simp only [Sem.run_bind, p1, p2, p3, Result.andThen_ok, eqL]
  cases h : eqB l[k] m[k]
  ·simp
  ·simpa using p4
theorem ArrK.equal (K : ArrK P t E n sz val eqB) (w : World) (l m : List α) (hl : l.length = n) (hm : m.length = n) : (Op.equal t (blkV val l) (blkV val m)).run P w = .ok (eqL eqB l m) w := by
 obtain ⟨i, hi⟩ := K.inf
 have := K.equal_items w 9996 l m hl hm n 0 (by omega)
 rw [← List.range_eq_range'] at this
 rw [Op.equal, Op.maxDepth, show (10000 : Nat) = (9996 + 3) + 1 from rfl, blkV, blkV, run_equalIn_array w (9996 + 3) _ _ K.und hi]
 simpa using this

theorem ArrK.check (K : ArrK P t E n sz val eqB) (w : World) (em : Bool) (l : List α) (hl : l.length = n) : (Instr.checkKey em 10000 t (blkV val l)).run P w = .ok () w := by
 obtain ⟨i, hi⟩ := K.inf
 rw [show (10000 : Nat) = (9996 + 3) + 1 from rfl, blkV, Instr.checkKey]
 simp only [Sem.run_bind, run_underlying K.und, Result.andThen_ok]
 simp only [Std.Legacy.Range.forIn_eq_forIn_range', Std.Legacy.Range.size, Nat.sub_zero, Nat.add_one_sub_one, Nat.div_one]
 have each : ∀ j ∈ List.range' 0 n, j < l.length := fun j hj => by rw [List.mem_range'] at hj; omega
 generalize List.range' 0 n = is at each
 induction is with
 | nil => simp
 | cons j is ih =>
  have hj := each j (by simp)
  have p1 := K.part w (blkC val l).toArray (j * sz) l[j] (by rw [← blkC_part K.wide l j hj])
  have p2 := K.chk w em 9996 l[j]
  simp only [List.forIn_cons, Sem.run_bind, run_sizeOf w hi, Result.andThen_ok, K.cel, p1, p2, Sem.run_pure]
  exact ih (fun y hy => each y (by simp [hy]))

/-- the entries of a map of blocks, each with its number -/
def entsFrom (val : α → Value) : Nat → List (List α) → List MapEntry
 | _, [] => []
 | i, l :: L => { key := blkV val l, val := .int .u16 (i : Nat), born := i } :: entsFrom val (i + 1) L
def entsL (val : α → Value) (L : List (List α)) : Array MapEntry := (entsFrom val 0 L).toArray
def findB (eqB : α → α → Bool) (l : List α) (L : List (List α)) : Option Nat := L.findIdx? (eqL eqB l)
theorem entsFrom_append (val : α → Value) (L : List (List α)) (l : List α) : ∀ i, entsFrom val i (L ++ [l]) = entsFrom val i L ++ [{ key := blkV val l, val := .int .u16 ((i + L.length : Nat) : Int), born := i + L.length }] := by
 induction L with
 | nil => intro i; rfl
 | cons x L ih =>
  intro i
  rw [List.cons_append, entsFrom, ih, entsFrom, List.length_cons, List.cons_append, show i + 1 + L.length = i + (L.length + 1) by omega]
theorem entsL_push (val : α → Value) (L : List (List α)) (l : List α) : entsL val (L ++ [l]) = (entsL val L).push { key := blkV val l, val := .int .u16 (L.length : Nat), born := L.length } := by
 simp [entsL, entsFrom_append]
theorem entsFrom_length (val : α → Value) (L : List (List α)) : ∀ i, (entsFrom val i L).length = L.length := by
 induction L with
 | nil => intro i; rfl
 | cons x L ih => intro i; simp [entsFrom, ih]

theorem ArrK.find_asking (K : ArrK P t E n sz val eqB) (w : World) (l : List α) (hl : l.length = n) : ∀ (L : List (List α)) (i : Nat) (j : Nat), (∀ m ∈ L, m.length = n) →
  (Instr.findAsking t (blkV val l) (entsFrom val i L) j).run P w = .ok ((findB eqB l L).map (fun k => (j + k, .int .u16 ((i + k : Nat) : Int)))) w := by
 intro L
 induction L with
 | nil => intro i j _; simp [entsFrom, Instr.findAsking, findB]
 | cons m L ih =>
  intro i j hL
  have h1 := K.equal w l m hl (hL m (by simp))
  have h2 := ih (i + 1) (j + 1) (fun m hm => hL m (by simp [hm]))
  rw [entsFrom, Instr.findAsking]
  simp only [Sem.run_bind, h1, Result.andThen_ok, findB, List.findIdx?_cons]
  cases h : eqL eqB l m
  ·simp only [Bool.false_eq_true, if_false, h2, findB]
   congr 1
   rw [Option.map_map]
   congr 1
   funext k
   simp only [Function.comp]
   rw [show j + 1 + k = j + (k + 1) by omega, show i + 1 + k = i + (k + 1) by omega]
  ·simp
theorem findNow_array (n : Nat) (E : TypeId) (k : Value) (e : MapEntry) (es : List MapEntry) (i : Nat) : Instr.findNow (.array n E) k (e :: es) i = none := by
 simp only [Instr.findNow, Instr.sameNow]
theorem ArrK.find_key (K : ArrK P t E n sz val eqB) (w : World) (l : List α) (hl : l.length = n) (L : List (List α)) (hL : ∀ m ∈ L, m.length = n) :
  (Instr.findKey t (blkV val l) (entsL val L).toList).run P w = .ok ((findB eqB l L).map (fun k => (k, .int .u16 (k : Int)))) w := by
 have h := K.find_asking w l hl L 0 0 hL
 simp only [Nat.zero_add] at h
 rw [Instr.findKey]
 simp only [Sem.run_bind, run_underlying K.und, Result.andThen_ok, entsL]
 cases L with
 | nil => simp [entsFrom, Instr.findNow, findB]
 | cons m L =>
  rw [show entsFrom val 0 (m :: L) = { key := blkV val m, val := .int .u16 ((0 : Nat) : Int), born := 0 } :: entsFrom val 1 L from rfl, findNow_array]
  exact h

/-- block b is the map of the blocks L -/
def IdxMap (val : α → Value) (w : World) (b : Nat) (L : List (List α)) : Prop := w.heap[b]? = some (.map (entsL val L) L.length)
/-- block b is laid anew -/
def putB (w : World) (b : Nat) (o : Obj) : World := { w with heap := w.heap.setIfInBounds b o }
def foundV (o : Option Nat) : Value := match o with
 | some k => .tuple #[.int .u16 (k : Nat), .bool true]
 | none => .tuple #[.int .u16 0, .bool false]

theorem ArrK.lookup (K : ArrK P t E n sz val eqB) {tm te : TypeId} (hm : P.underlying tm = some (.map t te)) (hz : ∀ w, (zeroValue te).run P w = .ok (.int .u16 0) w) {w : World} {b : Nat} {L : List (List α)} (h : IdxMap val w b L) (l : List α) (hl : l.length = n) (hL : ∀ m ∈ L, m.length = n) :
  (Instr.lookup tm (.map (some b)) (blkV val l) true).run P w = .ok (foundV (findB eqB l L)) w := by
 rw [Instr.lookup]
 simp only [Sem.run_bind, run_underlying hm, Result.andThen_ok, MapKept.run_getObj_map h, Sem.run_pure, K.check w _ l hl, K.find_key w l hl L hL]
 cases findB eqB l L <;> simp [foundV, hz]

theorem ArrK.store (K : ArrK P t E n sz val eqB) {tm te : TypeId} (hm : P.underlying tm = some (.map t te)) {w : World} {b : Nat} {L : List (List α)} (h : IdxMap val w b L) (l : List α) (hl : l.length = n) (hL : ∀ m ∈ L, m.length = n) (hn : findB eqB l L = none) :
  (Instr.mapUpdate tm (.map (some b)) (blkV val l) (.int .u16 (L.length : Nat))).run P w = .ok () (putB w b (.map (entsL val (L ++ [l])) (L ++ [l]).length)) := by
 rw [Instr.mapUpdate]
 simp only [Sem.run_bind, run_underlying hm, Result.andThen_ok, MapKept.run_getObj_map h, K.check w _ l hl, K.find_key w l hl L hL, hn, Option.map_none, MapKept.run_setObj_map _ h]
 rw [entsL_push, List.length_append]
 rfl
end
end Go.Proofs.YtbmphakfgoompaaGreat

/-
 Tries in memory: their blocks as cells.
-/
namespace Go.Proofs.YtbmphakfgoompaaGreat
open Go.RowKit

/-- a trie: its three stages -/
structure TrieD (α : Type) where
 top : List Nat
 mid : List (List Nat)
 low : List (List α)

def num16 (k : Nat) : Value := .int .u16 (k : Nat)
theorem num16_inj {a b : Nat} (h : num16 a = num16 b) : a = b := by
 simp only [num16, Value.int.injEq, true_and] at h
 omega
def val8 (x : Int) : Value := .int .u8 x

section
variable {α : Type}
/-- the blocks that a slice holds -/
def BlocksAt (val : α → Value) (n : Nat) (w : World) (a : Option Addr) (L : List (List α)) : Prop :=
 ∀ i, (h : i < L.length) → ∃ b o, a = some ⟨b, o, none⟩ ∧ w.rangeAt b (o + i * n) (blkC val L[i])
theorem BlocksAt.get {val : α → Value} {n : Nat} {w : World} {b o : Nat} {L : List (List α)} (h : BlocksAt val n w (some ⟨b, o, none⟩) L) (i : Nat) (hi : i < L.length) : w.rangeAt b (o + i * n) (blkC val L[i]) := by
 obtain ⟨b', o', e, hc⟩ := h i hi
 simp only [Option.some.injEq, Addr.mk.injEq, and_true] at e
 obtain ⟨rfl, rfl⟩ := e
 exact hc
theorem BlocksAt.some {val : α → Value} {n : Nat} {w : World} {a : Option Addr} {L : List (List α)} (h : BlocksAt val n w a L) (hn : 0 < L.length) : ∃ b o, a = Option.some ⟨b, o, none⟩ := by
 obtain ⟨b, o, e, _⟩ := h 0 hn
 exact ⟨b, o, e⟩
theorem rangeAt_below {w w' : World} {B b o : Nat} {cs : List Value} (h : w.rangeAt b o cs) (hb : Below B w w') (hB : w.heap.size ≤ B) : w'.rangeAt b o cs := fun j v hv => by
 have h1 := h j v hv
 rw [hb.cell (p := ⟨b, o + j, none⟩) (Nat.lt_of_lt_of_le (World.block_lt_of_cell? w _ h1) hB)]
 exact h1
theorem BlocksAt.below {val : α → Value} {n : Nat} {w w' : World} {B : Nat} {a : Option Addr} {L : List (List α)} (h : BlocksAt val n w a L) (hb : Below B w w') (hB : w.heap.size ≤ B) : BlocksAt val n w' a L := fun i hi => by
 obtain ⟨b, o, e, hr⟩ := h i hi
 exact ⟨b, o, e, rangeAt_below hr hb hB⟩
/-- one cell of a block of one-cell elements -/
theorem blkC_get {val : α → Value} (h1 : ∀ a, (val a).cells.toList = [val a]) (l : List α) (j : Nat) (hj : j < l.length) : (blkC val l)[j]? = some (val l[j]) := by
 induction l generalizing j with
 | nil => simp at hj
 | cons a l ih =>
  rw [blkC, List.flatMap_cons, ← blkC, h1]
  cases j with
  | zero => simp
  | succ j => simpa using ih j (by simpa using hj)
theorem BlocksAt.cell {val : α → Value} (h1 : ∀ a, (val a).cells.toList = [val a]) {n : Nat} {w : World} {b o : Nat} {L : List (List α)} (h : BlocksAt val n w (Option.some ⟨b, o, none⟩) L) (i : Nat) (hi : i < L.length) (j : Nat) (hj : j < L[i].length) :
  w.cell? ⟨b, o + i * n + j, none⟩ = Option.some (val L[i][j]) := h.get i hi j _ (blkC_get h1 _ j hj)

def trieC (T : TrieD α) (am : Option Addr) (cm : Nat) (al : Option Addr) (cl : Nat) : List Value := T.top.map num16 ++ [Value.slice am T.mid.length cm, Value.slice al T.low.length cl]
/-- a trie's own block -/
def TrieAt (val : α → Value) (ty : TypeId) (n : Nat) (w : World) (g : Nat) (T : TrieD α) : Prop :=
 ∃ am cm al cl, w.heap[g]? = some (.cells (trieC T am cm al cl).toArray ty (0, 0)) ∧ BlocksAt num16 64 w am T.mid ∧ BlocksAt val n w al T.low
/-- its numbers are such as lead to blocks -/
structure TrieOk (T : TrieD α) : Prop where
 top : T.top.length = 272
 mid : ∀ m ∈ T.mid, m.length = 64
 low : ∀ l ∈ T.low, l.length = 64
 topN : ∀ k ∈ T.top, k < T.mid.length
 midN : ∀ m ∈ T.mid, ∀ k ∈ m, k < T.low.length
 midL : T.mid.length ≤ 272
 lowL : T.low.length ≤ 17408
theorem TrieAt.below {val : α → Value} {ty : TypeId} {n : Nat} {w w' : World} {B g : Nat} {T : TrieD α} (h : TrieAt val ty n w g T) (hb : Below B w w') (hB : w.heap.size ≤ B) : TrieAt val ty n w' g T := by
 obtain ⟨am, cm, al, cl, h1, h2, h3⟩ := h
 exact ⟨am, cm, al, cl, by rw [hb.block g (by have := (Array.getElem?_eq_some_iff.1 h1).1; omega)]; exact h1, h2.below hb hB, h3.below hb hB⟩
theorem TrieAt.cell_mid {val : α → Value} {ty : TypeId} {w : World} {g : Nat} {T : TrieD α} {am : Option Addr} {cm : Nat} {al : Option Addr} {cl : Nat} (hk : TrieOk T) (h : w.heap[g]? = some (.cells (trieC T am cm al cl).toArray ty (0, 0))) :
  w.cell? ⟨g, 272, none⟩ = some (.slice am T.mid.length cm) := by
 rw [cell_of_row w g 272 _ _ (0, 0) h]
 simp [trieC, hk.top]
theorem TrieAt.cell_low {val : α → Value} {ty : TypeId} {w : World} {g : Nat} {T : TrieD α} {am : Option Addr} {cm : Nat} {al : Option Addr} {cl : Nat} (hk : TrieOk T) (h : w.heap[g]? = some (.cells (trieC T am cm al cl).toArray ty (0, 0))) :
  w.cell? ⟨g, 273, none⟩ = some (.slice al T.low.length cl) := by
 rw [cell_of_row w g 273 _ _ (0, 0) h]
 simp [trieC, hk.top]
theorem TrieAt.cell_top {val : α → Value} {ty : TypeId} {w : World} {g : Nat} {T : TrieD α} {am : Option Addr} {cm : Nat} {al : Option Addr} {cl : Nat} (hk : TrieOk T) (h : w.heap[g]? = some (.cells (trieC T am cm al cl).toArray ty (0, 0))) (j : Nat) (hj : j < 272) :
  w.cell? ⟨g, j, none⟩ = some (num16 (T.top.getD j 0)) := by
 have hjl : j < T.top.length := by rw [hk.top]; exact hj
 rw [cell_of_row w g j _ _ (0, 0) h]
 simp [trieC, hjl, List.getElem?_append]
/-- what a trie gives of a number -/
def lookT (d : α) (T : TrieD α) (r : Nat) : α := ((T.low.getD ((T.mid.getD (T.top.getD (r / 4096) 0) []).getD (r / 64 % 64) 0) []).getD (r % 64) d)
/-- a number that is none is looked up as FFFD -/
def runeR (r : Int) : Nat := if r < 0 ∨ 1114111 < r then 65533 else r.toNat
theorem runeR_le (r : Int) : runeR r ≤ 1114111 := by unfold runeR; split <;> omega
end
theorem num16_cells (k : Nat) : (num16 k).cells.toList = [num16 k] := rfl
theorem val8_cells (k : Int) : (val8 k).cells.toList = [val8 k] := rfl
end Go.Proofs.YtbmphakfgoompaaGreat

/-
 A trie in the making: the maker's memory, and what each of its stores does.
-/
namespace Go.Proofs.YtbmphakfgoompaaGreat
open Go.RowKit

structure MkS (α : Type) where
 top : List Nat
 cur : List Nat
 lows : List (List α)
 mids : List (List Nat)
 blocks : Nat

section
variable {α : Type}
def mkC (g : Nat) (S : MkS α) : List Value := [.pointer (some ⟨g, 0, none⟩), .map (some (g + 1)), .map (some (g + 2)), .int .i64 (S.blocks : Nat)] ++ S.cur.map num16
def trC (S : MkS α) (am : Option Addr) (cm : Nat) (al : Option Addr) (cl : Nat) : List Value := S.top.map num16 ++ [Value.slice am S.mids.length cm, Value.slice al S.lows.length cl]
structure MkW (S : MkS α) : Prop where
 top : S.top.length = 272
 cur : S.cur.length = 64
 low : ∀ l ∈ S.lows, l.length = 64
 mid : ∀ l ∈ S.mids, l.length = 64
structure MkAt (val : α → Value) (sz : Nat) (tM tT tA tV : TypeId) (w : World) (g : Nat) (S : MkS α) (ml : List (List α)) (mm : List (List Nat)) (am : Option Addr) (cm : Nat) (al : Option Addr) (cl : Nat) : Prop where
 mk_ : w.heap[g + 3]? = some (.cells (mkC g S).toArray tM (0, 0))
 tr : w.heap[g]? = some (.cells (trC S am cm al cl).toArray tT (0, 0))
 rm : w.ownsRow (g + 4) tA 64 (.slice am S.mids.length cm) S.mids.length (S.mids.flatMap (blkC num16))
 rl : w.ownsRow (g + 4) tV (64 * sz) (.slice al S.lows.length cl) S.lows.length (S.lows.flatMap (blkC val))
 ap : ∀ k, (Value.slice am S.mids.length cm).ownBlock = some k → (Value.slice al S.lows.length cl).ownBlock ≠ some k
 lm : IdxMap val w (g + 1) ml
 mm_ : IdxMap num16 w (g + 2) mm
variable {val : α → Value} {sz : Nat} {tM tT tA tV : TypeId} {w w' : World} {g : Nat} {S : MkS α} {ml : List (List α)} {mm : List (List Nat)} {am : Option Addr} {cm : Nat} {al : Option Addr} {cl : Nat}

theorem MkAt.lt (h : MkAt val sz tM tT tA tV w g S ml mm am cm al cl) : g + 4 ≤ w.heap.size := (Array.getElem?_eq_some_iff.1 h.mk_).1
theorem MkAt.below (h : MkAt val sz tM tT tA tV w g S ml mm am cm al cl) (hb : Below w.heap.size w w') : MkAt val sz tM tT tA tV w' g S ml mm am cm al cl := by
 have hl := h.lt
 have k : ∀ b, b < w.heap.size → w'.heap[b]? = w.heap[b]? := hb.block
 have r : ∀ {E : TypeId} {s : Nat} {v : Value} {n : Nat} {xs : List Value}, w.ownsRow (g + 4) E s v n xs → w'.ownsRow (g + 4) E s v n xs := fun h =>
  h.kept (row := none) ⟨hb.os, hb.tape, hb.output, hb.size, fun j hj _ => hb.block j hj⟩ (by rename_i v _ _; cases hv : v.ownBlock <;> simp)
 exact ⟨(k _ (by omega)).trans h.mk_, (k _ (by omega)).trans h.tr, r h.rm, r h.rl, h.ap, (k _ (by omega)).trans h.lm, (k _ (by omega)).trans h.mm_⟩
theorem MkAt.drew (h : MkAt val sz tM tT tA tV w g S ml mm am cm al cl) : MkAt val sz tM tT tA tV w.drew g S ml mm am cm al cl := ⟨h.mk_, h.tr, h.rm, h.rl, h.ap, h.lm, h.mm_⟩
/-- its cells -/
theorem MkAt.c_t (h : MkAt val sz tM tT tA tV w g S ml mm am cm al cl) : w.cell? ⟨g + 3, 0, none⟩ = some (.pointer (some ⟨g, 0, none⟩)) := by rw [cell_of_row w (g + 3) 0 _ _ (0, 0) h.mk_]; simp [mkC]
theorem MkAt.c_lm (h : MkAt val sz tM tT tA tV w g S ml mm am cm al cl) : w.cell? ⟨g + 3, 1, none⟩ = some (.map (some (g + 1))) := by rw [cell_of_row w (g + 3) 1 _ _ (0, 0) h.mk_]; simp [mkC]
theorem MkAt.c_mm (h : MkAt val sz tM tT tA tV w g S ml mm am cm al cl) : w.cell? ⟨g + 3, 2, none⟩ = some (.map (some (g + 2))) := by rw [cell_of_row w (g + 3) 2 _ _ (0, 0) h.mk_]; simp [mkC]
theorem MkAt.c_b (h : MkAt val sz tM tT tA tV w g S ml mm am cm al cl) : w.cell? ⟨g + 3, 3, none⟩ = some (.int .i64 (S.blocks : Nat)) := by rw [cell_of_row w (g + 3) 3 _ _ (0, 0) h.mk_]; simp [mkC]
theorem MkAt.c_cur (h : MkAt val sz tM tT tA tV w g S ml mm am cm al cl) (j : Nat) (hj : j < S.cur.length) : w.cell? ⟨g + 3, 4 + j, none⟩ = some (num16 S.cur[j]) := by
 rw [cell_of_row w (g + 3) (4 + j) _ _ (0, 0) h.mk_]
 simp only [mkC, List.getElem?_toArray]
 rw [List.getElem?_append_right (by simp)]
 simp [show 4 + j - 4 = j by omega, hj]
theorem MkAt.f_mk (h : MkAt val sz tM tT tA tV w g S ml mm am cm al cl) (o : Nat) : w.frozen? ⟨g + 3, o, none⟩ = false := frozen_of_row w (g + 3) o _ _ h.mk_
theorem MkAt.f_tr (h : MkAt val sz tM tT tA tV w g S ml mm am cm al cl) (o : Nat) : w.frozen? ⟨g, o, none⟩ = false := frozen_of_row w g o _ _ h.tr
theorem MkAt.r_cur (h : MkAt val sz tM tT tA tV w g S ml mm am cm al cl) : w.rangeAt (g + 3) 4 (blkC num16 S.cur) := by
 intro j v hv
 have hb : blkC num16 S.cur = S.cur.map num16 := by
  unfold blkC
  induction S.cur with
  | nil => rfl
  | cons a l ih => rw [List.flatMap_cons, ih, List.map_cons]; rfl
 rw [hb, List.getElem?_map] at hv
 cases hc : S.cur[j]? with
 | none => rw [hc] at hv; cases hv
 | some x =>
  rw [hc] at hv
  obtain ⟨hj, rfl⟩ := List.getElem?_eq_some_iff.1 hc
  rw [h.c_cur j hj]
  simpa using hv
theorem MkAt.c_mid (h : MkAt val sz tM tT tA tV w g S ml mm am cm al cl) (hw : MkW S) : w.cell? ⟨g, 272, none⟩ = some (.slice am S.mids.length cm) := by
 rw [cell_of_row w g 272 _ _ (0, 0) h.tr]; simp [trC, hw.top]
theorem MkAt.c_low (h : MkAt val sz tM tT tA tV w g S ml mm am cm al cl) (hw : MkW S) : w.cell? ⟨g, 273, none⟩ = some (.slice al S.lows.length cl) := by
 rw [cell_of_row w g 273 _ _ (0, 0) h.tr]; simp [trC, hw.top]
theorem MkAt.c_top (h : MkAt val sz tM tT tA tV w g S ml mm am cm al cl) (hw : MkW S) (j : Nat) (hj : j < 272) : ∃ v, w.cell? ⟨g, j, none⟩ = some v := by
 rw [cell_of_row w g j _ _ (0, 0) h.tr]
 refine ⟨(trC S am cm al cl)[j]'(by simp [trC, hw.top]; omega), ?_⟩
 simp [trC, hw.top]

theorem other_grown {row : Option Nat} (hg : w.grownBy w' row) {b : Nat} (hb : b < w.heap.size) (hr : ∀ k, row = some k → b ≠ k) : w'.heap[b]? = w.heap[b]? :=
 hg.block b hb (fun e => hr b e.symm rfl)
/-- one more low block -/
theorem MkAt.push_low (h : MkAt val sz tM tT tA tV w g S ml mm am cm al cl) (hw : MkW S) (l : List α) {al' : Option Addr} {cl' : Nat} (ho : w'.ownsRow (g + 4) tV (64 * sz) (.slice al' (S.lows.length + 1) cl') (S.lows.length + 1) (S.lows.flatMap (blkC val) ++ blkC val l))
  (hg : w.grownBy w' (Value.slice al S.lows.length cl).ownBlock) (hn : newBlock w (.slice al S.lows.length cl) (.slice al' (S.lows.length + 1) cl')) :
  MkAt val sz tM tT tA tV (w'.setCell ⟨g, 273, none⟩ (.slice al' (S.lows.length + 1) cl')) g { S with lows := S.lows ++ [l] } ml mm am cm al' cl' := by
 have hl := h.lt
 have hk := World.ownsRow.lt h.rl
 have hkm := World.ownsRow.lt h.rm
 have oth : ∀ b, b < g + 4 → w'.heap[b]? = w.heap[b]? := fun b hb => other_grown hg (by omega) (fun k e => by have := (hk k e).1; omega)
 have htr := (oth g (by omega)).trans h.tr
 have hrm : w'.ownsRow (g + 4) tA 64 (.slice am S.mids.length cm) S.mids.length (S.mids.flatMap (blkC num16)) := h.rm.kept hg (by
  cases e : (Value.slice am S.mids.length cm).ownBlock with
  | none => exact .inl rfl
  | some k => exact .inr (fun e2 => h.ap k e e2.symm))
 refine ⟨?_, ?_, ?_, ?_, ?_, ?_, ?_⟩
 ·rw [heap_setCell_other w' ⟨g, 273, none⟩ (g + 3) _ (by simp)]
  exact (oth (g + 3) (by omega)).trans h.mk_
 ·have := heap_setCell_same w' g 273 _ _ (.slice al' (S.lows.length + 1) cl') htr
  rw [this]
  simp [trC, hw.top]
 ·exact hrm.kept (grown_store w' g 273 _) (by
   cases e : (Value.slice am S.mids.length cm).ownBlock with
   | none => exact .inl rfl
   | some k => exact .inr (fun e2 => by cases e2; have := (hkm _ e).1; omega))
 ·have := ho.kept (grown_store w' g 273 (.slice al' (S.lows.length + 1) cl')) (by
   cases e : (Value.slice al' (S.lows.length + 1) cl').ownBlock with
   | none => exact .inl rfl
   | some k => exact .inr (fun e2 => by cases e2; have := (World.ownsRow.lt ho _ e).1; omega))
  simpa [List.flatMap_append] using this
 ·intro k e e2
  simp only [List.length_append, List.length_singleton] at e2
  rcases hn with hn | ⟨gg, hn, hgg⟩
  ·rw [hn] at e2
   exact h.ap k e e2
  ·rw [hn] at e2
   cases e2
   have := (hkm _ e).2
   omega
 ·show (w'.setCell ⟨g, 273, none⟩ _).heap[g + 1]? = _
  rw [heap_setCell_other w' ⟨g, 273, none⟩ (g + 1) _ (by simp)]
  exact (oth (g + 1) (by omega)).trans h.lm
 ·show (w'.setCell ⟨g, 273, none⟩ _).heap[g + 2]? = _
  rw [heap_setCell_other w' ⟨g, 273, none⟩ (g + 2) _ (by simp)]
  exact (oth (g + 2) (by omega)).trans h.mm_
/-- one more middle block -/
theorem MkAt.push_mid (h : MkAt val sz tM tT tA tV w g S ml mm am cm al cl) (hw : MkW S) (l : List Nat) {am' : Option Addr} {cm' : Nat} (ho : w'.ownsRow (g + 4) tA 64 (.slice am' (S.mids.length + 1) cm') (S.mids.length + 1) (S.mids.flatMap (blkC num16) ++ blkC num16 l))
  (hg : w.grownBy w' (Value.slice am S.mids.length cm).ownBlock) (hn : newBlock w (.slice am S.mids.length cm) (.slice am' (S.mids.length + 1) cm')) :
  MkAt val sz tM tT tA tV (w'.setCell ⟨g, 272, none⟩ (.slice am' (S.mids.length + 1) cm')) g { S with mids := S.mids ++ [l] } ml mm am' cm' al cl := by
 have hl := h.lt
 have hk := World.ownsRow.lt h.rm
 have hkl := World.ownsRow.lt h.rl
 have oth : ∀ b, b < g + 4 → w'.heap[b]? = w.heap[b]? := fun b hb => other_grown hg (by omega) (fun k e => by have := (hk k e).1; omega)
 have htr := (oth g (by omega)).trans h.tr
 have hrl : w'.ownsRow (g + 4) tV (64 * sz) (.slice al S.lows.length cl) S.lows.length (S.lows.flatMap (blkC val)) := h.rl.kept hg (by
  cases e : (Value.slice al S.lows.length cl).ownBlock with
  | none => exact .inl rfl
  | some k => exact .inr (fun e2 => h.ap k e2.symm e))
 refine ⟨?_, ?_, ?_, ?_, ?_, ?_, ?_⟩
 ·rw [heap_setCell_other w' ⟨g, 272, none⟩ (g + 3) _ (by simp)]
  exact (oth (g + 3) (by omega)).trans h.mk_
 ·have := heap_setCell_same w' g 272 _ _ (.slice am' (S.mids.length + 1) cm') htr
  rw [this]
  simp [trC, hw.top]
 ·have := ho.kept (grown_store w' g 272 (.slice am' (S.mids.length + 1) cm')) (by
   cases e : (Value.slice am' (S.mids.length + 1) cm').ownBlock with
   | none => exact .inl rfl
   | some k => exact .inr (fun e2 => by cases e2; have := (World.ownsRow.lt ho _ e).1; omega))
  simpa [List.flatMap_append] using this
 ·exact hrl.kept (grown_store w' g 272 _) (by
   cases e : (Value.slice al S.lows.length cl).ownBlock with
   | none => exact .inl rfl
   | some k => exact .inr (fun e2 => by cases e2; have := (hkl _ e).1; omega))
 ·intro k e e2
  simp only [List.length_append, List.length_singleton] at e
  rcases hn with hn | ⟨gg, hn, hgg⟩
  ·rw [hn] at e
   exact h.ap k e e2
  ·rw [hn] at e
   cases e
   have := (hkl _ e2).2
   omega
 ·show (w'.setCell ⟨g, 272, none⟩ _).heap[g + 1]? = _
  rw [heap_setCell_other w' ⟨g, 272, none⟩ (g + 1) _ (by simp)]
  exact (oth (g + 1) (by omega)).trans h.lm
 ·show (w'.setCell ⟨g, 272, none⟩ _).heap[g + 2]? = _
  rw [heap_setCell_other w' ⟨g, 272, none⟩ (g + 2) _ (by simp)]
  exact (oth (g + 2) (by omega)).trans h.mm_

theorem putB_other (w : World) {b k : Nat} (o : Obj) (h : k ≠ b) : (putB w b o).heap[k]? = w.heap[k]? := by
 simp [putB, Array.getElem?_setIfInBounds, Ne.symm h]
theorem putB_same (w : World) {b : Nat} (o : Obj) (h : b < w.heap.size) : (putB w b o).heap[b]? = some o := by
 simp [putB, Array.getElem?_setIfInBounds, h]
theorem putB_grown (w : World) (b : Nat) (o : Obj) : w.grownBy (putB w b o) (some b) :=
 ⟨rfl, rfl, rfl, by simp [putB], fun k hk hne => putB_other w o (fun e => hne (by rw [e]))⟩
theorem MkAt.put_lm (h : MkAt val sz tM tT tA tV w g S ml mm am cm al cl) (L : List (List α)) : MkAt val sz tM tT tA tV (putB w (g + 1) (.map (entsL val L) L.length)) g S L mm am cm al cl := by
 have hl := h.lt
 have r : ∀ {E : TypeId} {s : Nat} {v : Value} {n : Nat} {xs : List Value}, w.ownsRow (g + 4) E s v n xs → (putB w (g + 1) (.map (entsL val L) L.length)).ownsRow (g + 4) E s v n xs := fun {E s v n xs} h =>
  h.kept (putB_grown w (g + 1) _) (by
   cases e : v.ownBlock with
   | none => exact .inl rfl
   | some k => exact .inr (fun e2 => by cases e2; have := (World.ownsRow.lt h _ e).1; omega))
 exact ⟨(putB_other w _ (by omega)).trans h.mk_, (putB_other w _ (by omega)).trans h.tr, r h.rm, r h.rl, h.ap, putB_same w _ (by omega), (putB_other w _ (by omega)).trans h.mm_⟩
theorem MkAt.put_mm (h : MkAt val sz tM tT tA tV w g S ml mm am cm al cl) (L : List (List Nat)) : MkAt val sz tM tT tA tV (putB w (g + 2) (.map (entsL num16 L) L.length)) g S ml L am cm al cl := by
 have hl := h.lt
 have r : ∀ {E : TypeId} {s : Nat} {v : Value} {n : Nat} {xs : List Value}, w.ownsRow (g + 4) E s v n xs → (putB w (g + 2) (.map (entsL num16 L) L.length)).ownsRow (g + 4) E s v n xs := fun {E s v n xs} h =>
  h.kept (putB_grown w (g + 2) _) (by
   cases e : v.ownBlock with
   | none => exact .inl rfl
   | some k => exact .inr (fun e2 => by cases e2; have := (World.ownsRow.lt h _ e).1; omega))
 exact ⟨(putB_other w _ (by omega)).trans h.mk_, (putB_other w _ (by omega)).trans h.tr, r h.rm, r h.rl, h.ap, (putB_other w _ (by omega)).trans h.lm, putB_same w _ (by omega)⟩
theorem MkAt.store (h : MkAt val sz tM tT tA tV w g S ml mm am cm al cl) (b o : Nat) (v : Value) (S' : MkS α) (hb : b = g ∨ b = g + 3)
  (h1 : (w.setCell ⟨b, o, none⟩ v).heap[g + 3]? = some (.cells (mkC g S').toArray tM (0, 0))) (h2 : (w.setCell ⟨b, o, none⟩ v).heap[g]? = some (.cells (trC S' am cm al cl).toArray tT (0, 0))) (hm : S'.mids = S.mids) (hlo : S'.lows = S.lows) :
  MkAt val sz tM tT tA tV (w.setCell ⟨b, o, none⟩ v) g S' ml mm am cm al cl := by
 have r : ∀ {E : TypeId} {s : Nat} {u : Value} {n : Nat} {xs : List Value}, w.ownsRow (g + 4) E s u n xs → (w.setCell ⟨b, o, none⟩ v).ownsRow (g + 4) E s u n xs := fun {E s u n xs} h =>
  h.kept (grown_store w b o v) (by
   cases e : u.ownBlock with
   | none => exact .inl rfl
   | some k => exact .inr (fun e2 => by cases e2; have := (World.ownsRow.lt h _ e).1; omega))
 refine ⟨h1, h2, by rw [hm]; exact r h.rm, by rw [hlo]; exact r h.rl, by rw [hm, hlo]; exact h.ap, ?_, ?_⟩
 ·show (w.setCell ⟨b, o, none⟩ v).heap[g + 1]? = _
  rw [heap_setCell_other w ⟨b, o, none⟩ (g + 1) _ (by simp; omega)]
  exact h.lm
 ·show (w.setCell ⟨b, o, none⟩ v).heap[g + 2]? = _
  rw [heap_setCell_other w ⟨b, o, none⟩ (g + 2) _ (by simp; omega)]
  exact h.mm_
theorem MkAt.set_cur (h : MkAt val sz tM tT tA tV w g S ml mm am cm al cl) (j k : Nat) : MkAt val sz tM tT tA tV (w.setCell ⟨g + 3, 4 + j, none⟩ (num16 k)) g { S with cur := S.cur.set j k } ml mm am cm al cl := by
 refine h.store (g + 3) (4 + j) _ _ (.inr rfl) ?_ ?_ rfl rfl
 ·rw [heap_setCell_same w (g + 3) (4 + j) _ _ (num16 k) h.mk_]
  have e : 4 + j = j + 1 + 1 + 1 + 1 := by omega
  simp [mkC, e, List.map_set]
 ·rw [heap_setCell_other w ⟨g + 3, 4 + j, none⟩ g _ (by simp)]
  exact h.tr
theorem MkAt.set_blocks (h : MkAt val sz tM tT tA tV w g S ml mm am cm al cl) (k : Nat) : MkAt val sz tM tT tA tV (w.setCell ⟨g + 3, 3, none⟩ (.int .i64 (k : Nat))) g { S with blocks := k } ml mm am cm al cl := by
 refine h.store (g + 3) 3 _ _ (.inr rfl) ?_ ?_ rfl rfl
 ·rw [heap_setCell_same w (g + 3) 3 _ _ (.int .i64 (k : Nat)) h.mk_]
  simp [mkC]
 ·rw [heap_setCell_other w ⟨g + 3, 3, none⟩ g _ (by simp)]
  exact h.tr
theorem MkAt.set_top (h : MkAt val sz tM tT tA tV w g S ml mm am cm al cl) (hw : MkW S) (j k : Nat) (hj : j < 272) : MkAt val sz tM tT tA tV (w.setCell ⟨g, j, none⟩ (num16 k)) g { S with top := S.top.set j k } ml mm am cm al cl := by
 refine h.store g j _ _ (.inl rfl) ?_ ?_ rfl rfl
 ·rw [heap_setCell_other w ⟨g, j, none⟩ (g + 3) _ (by simp)]
  exact h.mk_
 ·rw [heap_setCell_same w g j _ _ (num16 k) h.tr]
  simp [trC, List.map_set, List.set_append, hw.top, hj]

/-- a block's number: what it was given, or the next one -/
def numB {β : Type} (eqB : β → β → Bool) (L : List (List β)) (b : List β) : List (List β) × Nat := match findB eqB b L with
 | some k => (L, k)
 | none => (L ++ [b], L.length)
def addS (eqB : α → α → Bool) (S : MkS α) (b : List α) : MkS α :=
 let l := numB eqB S.lows b
 let cur := S.cur.set (S.blocks % 64) l.2
 if (S.blocks + 1) % 64 = 0 then
  let m := numB (fun x y : Nat => decide (x = y)) S.mids cur
  { top := S.top.set (S.blocks / 64) m.2, cur := cur, lows := l.1, mids := m.1, blocks := S.blocks + 1 }
 else { S with cur := cur, lows := l.1, blocks := S.blocks + 1 }
end
end Go.Proofs.YtbmphakfgoompaaGreat

/-
 Laws over the model alone: loads of whole arrays, look-ups and updates in a region that draws its order.
-/
namespace Go.Proofs.YtbmphakfgoompaaGreat
open Go.RowKit

section
variable {P : Program} {ops : Array Oper} {w : World} {Q : Act → Prop} {rest : List Oper} {o : Oper} {a : Act}
theorem wpStill_val {v : Value} (hg : o.guard = none) (hr : (execOp a.eval o).run P w = .ok (.value v) w) (h : wpStill P ops w Q rest (a.put o.dst v)) : wpStill P ops w Q (o :: rest) a :=
 wpStill_step (fun K hK => by
  simp only [Region.wanted, hg, if_true]
  unfold Oper.still
  rw [hr, Oper.stillUpon_value]
  exact hK _ h)
theorem wpStill_load (hg : o.guard = none) (ty : TypeId) (x : Operand) (ho : o.op = .load ty x) (b off : Nat) (hx : a.eval x = .pointer (some ⟨b, off, none⟩)) (cs : List Value) (d : TypeDesc) (hc : w.rangeAt b off cs)
  (hu : P.underlying ty = some d) (hd : d.isRow = true) (hi : (P.info? ty).map (·.size) = some cs.length) (h : wpStill P ops w Q rest (a.put o.dst (.agg cs.toArray))) : wpStill P ops w Q (o :: rest) a := by
 refine wpStill_val hg ?_ h
 unfold execOp
 simp only [ho, hx, Instr.loadAt, Instr.sureAddr, Sem.run_bind, Sem.run_pure, Result.andThen_ok, run_loadVar_mid w b off ty cs d hc hu hd hi]
theorem wpStill_lookup (hg : o.guard = none) (ty : TypeId) (x y : Operand) (ok : Bool) (ho : o.op = .lookup ty x y ok) (xv yv v : Value) (hx : a.eval x = xv) (hy : a.eval y = yv) (hr : (Instr.lookup ty xv yv ok).run P w = .ok v w)
  (h : wpStill P ops w Q rest (a.put o.dst v)) : wpStill P ops w Q (o :: rest) a := by
 refine wpStill_val hg ?_ h
 unfold execOp
 simp only [ho, hx, hy, Sem.run_bind, Sem.run_pure, Result.andThen_ok, hr]
end
theorem wpList_mapUpdate_val {P : Program} {ops : Array Oper} {w w' : World} {Q : Exit → Act → World → Prop} {rest : List Oper} {o : Oper} {a : Act} (hg : o.guard = none) (ty : TypeId) (m x v : Operand) (ho : o.op = .mapUpdate ty m x v)
  (mv xv vv : Value) (hm : a.eval m = mv) (hx : a.eval x = xv) (hv : a.eval v = vv) (hr : (Instr.mapUpdate ty mv xv vv).run P w = .ok () w') (h : wpList P ops Q rest (a.put o.dst undef) w') : wpList P ops Q (o :: rest) a w :=
 wpList_plain hg fun K hK => by
  unfold Oper.wp execOp
  simp only [ho, hm, hx, hv, Sem.run_bind, Sem.run_pure, Result.andThen_ok, hr]
  exact hK _ _ h
theorem exec_load {P : Program} {o : Oper} {a : Act} {w : World} (ty : TypeId) (x : Operand) (ho : o.op = .load ty x) (b off : Nat) (hx : a.eval x = .pointer (some ⟨b, off, none⟩)) (cs : List Value) (d : TypeDesc) (hc : w.rangeAt b off cs)
  (hu : P.underlying ty = some d) (hd : d.isRow = true) (hi : (P.info? ty).map (·.size) = some cs.length) : (execOp a.eval o).run P w = .ok (.value (.agg cs.toArray)) w := by
 unfold execOp
 simp only [ho, hx, Instr.loadAt, Instr.sureAddr, Sem.run_bind, Sem.run_pure, Result.andThen_ok, run_loadVar_mid w b off ty cs d hc hu hd hi]
theorem exec_appN {P : Program} {t e : TypeId} {z : Value} {size bytes : Nat} (el : ElemN P t e z size bytes) {w : World} {o : Oper} {act : Act} (s x : Operand)
  (ho : o.op = .call { callee := .builtin .append, args := #[s, x], argTypes := #[t, t] }) {B : Nat} {a : Option Addr} {n cap : Nat} {xs : List Value} (hown : w.ownsRow B e size (.slice a n cap) n xs) (hn : (n + 1) * bytes ≤ 140737488355328) (hm : n < 140737488355328) (hB : B ≤ w.heap.size) (cs : List Value) (hcs : cs.length = size) (hu : ∀ u ∈ cs, u.oneCell' = true) (e' : TypeId)
  (hs : act.eval s = .slice a n cap) (hx : act.eval x = .slice (some ⟨w.heap.size, 0, none⟩) 1 1) :
  ∃ a' cap' w', (execOp act.eval o).run P (w.alloc (.cells cs.toArray e')) = .ok (.value (.slice a' (n + 1) cap')) w' ∧ w'.ownsRow B e size (.slice a' (n + 1) cap') (n + 1) (xs ++ cs) ∧ w.grownBy w' (Value.slice a n cap).ownBlock ∧ newBlock w (.slice a n cap) (.slice a' (n + 1) cap') := by
 obtain ⟨i, hi, hz, h1, hb⟩ := info_parts el.inf
 have hcell : ∀ j v, cs[j]? = some v → (w.alloc (.cells cs.toArray e')).cell? ((⟨w.heap.size, 0, none⟩ : Addr).add j) = some v := by
  intro j v hv
  rw [Addr.add_lit, Nat.zero_add, cell_of_row (w.alloc (.cells cs.toArray e')) w.heap.size j cs.toArray e' (0, 0) (heap_alloc_new w _)]
  simpa using hv
 obtain ⟨v', w', hr, h2, h3, h4⟩ := run_app (P := P) (w.alloc (.cells cs.toArray e')) B t o.type e i z size bytes el.und hi hz h1 hb el.sz el.pos _ n xs (World.ownsRow.alloc hown _) ⟨w.heap.size, 0, none⟩ 1 1 cs (by simp [hcs]) hcell hu (by simp only [maxLen]; omega) hn (by simp; omega)
 have hv' : ∃ a' cap', v' = .slice a' (n + 1) cap' := by
  rcases h2.2 with ⟨rfl, h0⟩ | ⟨g, cap', cur, rfl, _⟩
  ·omega
  ·exact ⟨_, _, rfl⟩
 obtain ⟨a', cap', rfl⟩ := hv'
 refine ⟨a', cap', w', ?_, h2, ?_, ?_⟩
 ·unfold execOp
  simp only [ho, resolve, invoke, builtin, Sem.run_bind, Sem.run_pure, Result.andThen_ok, List.map_toArray, List.map_cons, List.map_nil, hs, hx, hr]
 ·refine ⟨h3.os, h3.tape, h3.output, by have := h3.size; simp at this; omega, fun k hk hne => ?_⟩
  rw [h3.block k (by simp; omega) hne]
  exact Below.heap_alloc w _ k hk
 ·rcases h4 with h4 | ⟨g, h4, h5⟩
  ·exact .inl h4
  ·exact .inr ⟨g, h4, by simp at h5; omega⟩
theorem cell_grown {w w' : World} {row : Option Nat} (hg : w.grownBy w' row) {b o : Nat} {v : Value} (hc : w.cell? ⟨b, o, none⟩ = some v) (hr : ∀ k, row = some k → b ≠ k) : w'.cell? ⟨b, o, none⟩ = some v := by
 rw [World.cell?_of_block (w := w) (a := ⟨b, o, none⟩) (other_grown hg (World.block_lt_of_cell? w _ hc) hr)]
 exact hc
theorem range_grown {w w' : World} {row : Option Nat} (hg : w.grownBy w' row) {b o : Nat} {cs : List Value} (hc : w.rangeAt b o cs) (hr : ∀ k, row = some k → b ≠ k) : w'.rangeAt b o cs :=
 fun j v hv => cell_grown hg (hc j v hv) hr
theorem cell_allocN {w : World} {b o : Nat} {v : Value} (hc : w.cell? ⟨b, o, none⟩ = some v) (ob : Obj) : (w.alloc ob).cell? ⟨b, o, none⟩ = some v := by
 rw [World.cell?_of_block (w := w) (a := ⟨b, o, none⟩) (Below.heap_alloc w ob b (World.block_lt_of_cell? w _ hc))]
 exact hc
theorem fold_get (cs : List Value) : ∀ (k : Nat) (z : Array Value) (i : Nat), ((cs.zipIdx k).foldl (fun cs x => cs.setIfInBounds x.snd x.fst) z)[i]? = if k ≤ i ∧ i < k + cs.length ∧ i < z.size then cs[i - k]? else z[i]? := by
 induction cs with
 | nil => intro k z i; simp; intro h1 h2; omega
 | cons c cs ih =>
  intro k z i
  rw [List.zipIdx_cons, List.foldl_cons, ih]
  simp only [Array.size_setIfInBounds, List.length_cons, Array.getElem?_setIfInBounds]
  by_cases h1 : k = i
  ·subst h1
   rw [if_neg (by omega), if_pos rfl]
   by_cases h2 : k < z.size
   ·rw [if_pos h2, if_pos (by omega)]; simp
   ·rw [if_neg h2, if_neg (by omega)]; simp; omega
  ·rw [if_neg h1]
   by_cases h2 : k + 1 ≤ i ∧ i < k + 1 + cs.length ∧ i < z.size
   ·rw [if_pos h2, if_pos (by omega)]
    rw [show i - k = (i - (k + 1)) + 1 by omega]
    simp
   ·rw [if_neg h2, if_neg (by omega)]
theorem fill_all (cs : List Value) (z : Array Value) (h : z.size = cs.length) : cs.zipIdx.foldl (fun cs x => cs.setIfInBounds x.snd x.fst) z = cs.toArray := by
 apply Array.ext_getElem?
 intro i
 rw [fold_get]
 by_cases hi : i < cs.length
 ·rw [if_pos (by omega)]; simp
 ·rw [if_neg (by omega), Array.getElem?_eq_none (by omega), Array.getElem?_eq_none (by simp; omega)]
theorem anyC_app {F : Fence} {nF : Nat} {P : Program} {md : Region.Mode} {ops : Array Oper} {Q : Exit → Act → World → Prop} {C : World → Prop} {M : List Nat} {i : Nat} {o : Oper} {f : Nat} {l : Array Bool} {act : Act} {t e : TypeId} {z : Value} {size bytes : Nat} (el : ElemN P t e z size bytes) {w : World} (hr : Region.ready md ops l = [i]) (hi : ops[i]? = some o) (hc : calmOp o = true)
  (hwt : Region.wanted o (yielded ops act.tmps) = true) (s x : Operand)
  (ho : o.op = .call { callee := .builtin .append, args := #[s, x], argTypes := #[t, t] }) {B : Nat} {a : Option Addr} {n cap : Nat} {xs : List Value} (hown : w.ownsRow B e size (.slice a n cap) n xs) (hn : (n + 1) * bytes ≤ 140737488355328) (hm : n < 140737488355328) (hB : B ≤ w.heap.size) (cs : List Value) (hcs : cs.length = size) (hu : ∀ u ∈ cs, u.oneCell' = true) (e' : TypeId)
  (hs : act.eval s = .slice a n cap) (hx : act.eval x = .slice (some ⟨w.heap.size, 0, none⟩) 1 1)
  (hC : ∀ w', w.grownBy w' (Value.slice a n cap).ownBlock → C w')
  (h : ∀ a' cap' w', w'.ownsRow B e size (.slice a' (n + 1) cap') (n + 1) (xs ++ cs) → w.grownBy w' (Value.slice a n cap).ownBlock → newBlock w (.slice a n cap) (.slice a' (n + 1) cap') → anyC F nF P md ops Q M C f (l.setIfInBounds i true) (act.put o.dst (.slice a' (n + 1) cap')) w') :
  anyC F nF P md ops Q M C (f + 1) l act (w.alloc (.cells cs.toArray e')) := by
 obtain ⟨a', cap', w', h1, h2, h3, h4⟩ := exec_appN el s x ho hown hn hm hB cs hcs hu e' hs hx
 exact anyC_one hr hi hc hwt h1 (hC w' h3) (h a' cap' w' h2 h3 h4)
theorem below_grown {B : Nat} {w w' : World} {row : Option Nat} (hg : w.grownBy w' row) (hr : ∀ k, row = some k → B ≤ k) (hB : B ≤ w.heap.size) : Below B w w' :=
 ⟨hg.os, hg.tape, hg.output, hg.size, fun k hk => hg.block k (by omega) (fun e => by have := hr k e.symm; omega)⟩
theorem below_putB {B : Nat} (w : World) (b : Nat) (o : Obj) (hB : B ≤ b) : Below B w (putB w b o) :=
 ⟨rfl, rfl, rfl, by simp [putB], fun k hk => putB_other w o (by omega)⟩
theorem wpList_val {P : Program} {ops : Array Oper} {w w' : World} {Q : Exit → Act → World → Prop} {rest : List Oper} {o : Oper} {a : Act} {v : Value} (hg : o.guard = none) (hr : (execOp a.eval o).run P w = .ok (.value v) w') (h : wpList P ops Q rest (a.put o.dst v) w') : wpList P ops Q (o :: rest) a w :=
 wpList_plain hg fun K hK => by
  unfold Oper.wp
  rw [hr]
  exact hK _ _ h
/-- the block of a row -/
def ob (a : Option Addr) : Option Nat := (Value.slice a 0 0).ownBlock
theorem ob_eq (a : Option Addr) (n c : Nat) : (Value.slice a n c).ownBlock = ob a := by cases a <;> rfl
/-- beside the maker's four blocks and its two rows (a, l; behind it a', l') all lies as it lay -/
structure AddFr (g : Nat) (w w' : World) (a l a' l' : Option Addr) : Prop where
 os : w'.os = w.os
 tape : w'.tape = w.tape
 output : w'.output = w.output
 size : w.heap.size ≤ w'.heap.size
 oth : ∀ k, k < w.heap.size → (k < g ∨ g + 4 ≤ k) → ob a ≠ some k → ob l ≠ some k → w'.heap[k]? = w.heap[k]?
 na : ∀ k, ob a' = some k → ob a = some k ∨ w.heap.size ≤ k
 nl : ∀ k, ob l' = some k → ob l = some k ∨ w.heap.size ≤ k
theorem AddFr.trans {g : Nat} {w w1 w2 : World} {a l a1 l1 a2 l2 : Option Addr} (h : AddFr g w w1 a l a1 l1) (k : AddFr g w1 w2 a1 l1 a2 l2) : AddFr g w w2 a l a2 l2 := by
 have hs := h.size
 refine ⟨k.os.trans h.os, k.tape.trans h.tape, k.output.trans h.output, Nat.le_trans hs k.size, fun i hi hg ha hl => ?_, fun i hi => ?_, fun i hi => ?_⟩
 ·refine (k.oth i (by omega) hg (fun e => ?_) (fun e => ?_)).trans (h.oth i hi hg ha hl)
  ·rcases h.na i e with h1 | h1
   ·exact ha h1
   ·omega
  ·rcases h.nl i e with h1 | h1
   ·exact hl h1
   ·omega
 ·rcases k.na i hi with h1 | h1
  ·exact h.na i h1
  ·exact .inr (by omega)
 ·rcases k.nl i hi with h1 | h1
  ·exact h.nl i h1
  ·exact .inr (by omega)
theorem AddFr.below {g : Nat} {w w' : World} (a l : Option Addr) (h : Below w.heap.size w w') : AddFr g w w' a l a l := ⟨h.os, h.tape, h.output, h.size, fun k hk _ _ _ => h.block k hk, fun _ h => .inl h, fun _ h => .inl h⟩
theorem AddFr.drew {g : Nat} {w w' : World} {a l a' l' : Option Addr} (h : AddFr g w w' a l a' l') : AddFr g w w'.drew a l a' l' := ⟨h.os, h.tape, h.output, h.size, h.oth, h.na, h.nl⟩
theorem AddFr.store {g : Nat} {w w' : World} {a l a' l' : Option Addr} (h : AddFr g w w' a l a' l') (b o : Nat) (v : Value) (hb : g ≤ b ∧ b < g + 4) : AddFr g w (w'.setCell ⟨b, o, none⟩ v) a l a' l' :=
 ⟨(grown_store w' b o v).os.trans h.os, (grown_store w' b o v).tape.trans h.tape, (grown_store w' b o v).output.trans h.output, Nat.le_trans h.size (grown_store w' b o v).size, fun k hk hg ha hl => by rw [heap_setCell_other w' ⟨b, o, none⟩ k v (by simp; omega)]; exact h.oth k hk hg ha hl, h.na, h.nl⟩
theorem AddFr.put {g : Nat} {w w' : World} {a l a' l' : Option Addr} (h : AddFr g w w' a l a' l') (b : Nat) (o : Obj) (hb : g ≤ b ∧ b < g + 4) : AddFr g w (putB w' b o) a l a' l' :=
 ⟨h.os, h.tape, h.output, by simpa [putB] using h.size, fun k hk hg ha hl => by rw [putB_other w' o (by omega)]; exact h.oth k hk hg ha hl, h.na, h.nl⟩
theorem AddFr.low {g : Nat} {w w' : World} (a : Option Addr) {l l' : Option Addr} {n c n' c' : Nat} (hg : w.grownBy w' (Value.slice l n c).ownBlock) (hn : newBlock w (.slice l n c) (.slice l' n' c')) : AddFr g w w' a l a l' := by
 unfold newBlock at hn
 rw [ob_eq, ob_eq] at hn
 rw [ob_eq] at hg
 refine ⟨hg.os, hg.tape, hg.output, hg.size, fun k hk _ _ hl => hg.block k hk (fun e => hl e.symm), fun _ h => .inl h, fun k h => ?_⟩
 rcases hn with h1 | ⟨gg, h1, h2⟩
 ·exact .inl (by rw [← h1]; exact h)
 ·rw [h1] at h; cases h; exact .inr h2
theorem AddFr.mid {g : Nat} {w w' : World} {a a' : Option Addr} (l : Option Addr) {n c n' c' : Nat} (hg : w.grownBy w' (Value.slice a n c).ownBlock) (hn : newBlock w (.slice a n c) (.slice a' n' c')) : AddFr g w w' a l a' l := by
 unfold newBlock at hn
 rw [ob_eq, ob_eq] at hn
 rw [ob_eq] at hg
 refine ⟨hg.os, hg.tape, hg.output, hg.size, fun k hk _ ha _ => hg.block k hk (fun e => ha e.symm), fun k h => ?_, fun _ h => .inl h⟩
 rcases hn with h1 | ⟨gg, h1, h2⟩
 ·exact .inl (by rw [← h1]; exact h)
 ·rw [h1] at h; cases h; exact .inr h2
theorem AddFr.to_below {g : Nat} {w w' : World} {a l a' l' : Option Addr} (h : AddFr g w w' a l a' l') (ha : ∀ k, ob a = some k → g ≤ k) (hl : ∀ k, ob l = some k → g ≤ k) (hg : g ≤ w.heap.size) : Below g w w' :=
 ⟨h.os, h.tape, h.output, h.size, fun k hk => h.oth k (by omega) (.inl hk) (fun e => by have := ha k e; omega) (fun e => by have := hl k e; omega)⟩
theorem blkC8_map (b : List Int) : blkC val8 b = b.map val8 := by
 induction b with
 | nil => rfl
 | cons a l ih => rw [blkC, List.flatMap_cons, ← blkC, ih, val8_cells]; rfl
end Go.Proofs.YtbmphakfgoompaaGreat
