/-
  Laws over the model alone: a map whose keys are arrays, each stored once with the number of keys before it.
-/
import Derived.DeepKeys3
import Derived.MapKept
import Derived.WalkKit
set_option linter.unusedVariables false
namespace Go.Proofs.Ytabbabkmojaoaaa
open Go.RowKit

structure ArrK (P : Program) (t E : TypeId) (n sz : Nat) {α : Type} (val : α → Value) (eqB : α → α → Bool) : Prop where
  und : P.underlying t = some (.array n E)
  inf : ∃ i, P.info? E = some i
  cel : P.cellsOf E = sz
  wide : ∀ a, (val a).cells.toList.length = sz
  part : ∀ (w : World) (xs : Array Value) (off : Nat) (a : α), (xs.toList.drop off).take sz = (val a).cells.toList → (part E xs off).run P w = .ok (val a) w
  eqE : ∀ (w : World) (d : Nat) (a b : α), (Op.equalIn (d + 3) E (val a) (val b)).run P w = .ok (eqB a b) w
  chk : ∀ (w : World) (em : Bool) (d : Nat) (a : α), (Instr.checkKey em (d + 3) E (val a)).run P w = .ok () w

section
variable {α : Type}
/-- a block as a value -/
def blkC (val : α → Value) (l : List α) : List Value := l.flatMap (fun a => (val a).cells.toList)
def blkV (val : α → Value) (l : List α) : Value := .agg (blkC val l).toArray
def eqL (eqB : α → α → Bool) : List α → List α → Bool
  | a :: l, b :: m => eqB a b && eqL eqB l m
  | _, _ => true

variable {P : Program} {t E : TypeId} {n sz : Nat} {val : α → Value} {eqB : α → α → Bool}

theorem blkC_length (hw : ∀ a, (val a).cells.toList.length = sz) (l : List α) : (blkC val l).length = l.length * sz := by
  induction l with
  | nil => simp [blkC]
  | cons a l ih =>
    rw [blkC, List.flatMap_cons, List.length_append, hw, List.length_cons, Nat.add_mul, Nat.one_mul]
    rw [blkC] at ih
    omega
theorem blkC_drop (hw : ∀ a, (val a).cells.toList.length = sz) (l : List α) (k : Nat) : (blkC val l).drop (k * sz) = blkC val (l.drop k) := by
  induction k generalizing l with
  | zero => simp
  | succ k ih =>
    cases l with
    | nil => simp [blkC]
    | cons a l =>
      rw [List.drop_succ_cons, ← ih l, blkC, List.flatMap_cons, ← blkC, Nat.add_mul, Nat.one_mul, Nat.add_comm, ← List.drop_drop]
      congr 1
      rw [← hw a, List.drop_left]
theorem blkC_part (hw : ∀ a, (val a).cells.toList.length = sz) (l : List α) (k : Nat) (hk : k < l.length) : ((blkC val l).drop (k * sz)).take sz = (val l[k]).cells.toList := by
  rw [blkC_drop hw, List.drop_eq_getElem_cons hk, blkC, List.flatMap_cons, ← hw l[k], List.take_left]

theorem ArrK.equal_items (K : ArrK P t E n sz val eqB) (w : World) (d : Nat) (l m : List α) (hl : l.length = n) (hm : m.length = n) : ∀ (j k : Nat), k + j = n →
    (Op.eqItems (d + 3) E (P.cellsOf E) (blkC val l).toArray (blkC val m).toArray (List.range' k j)).run P w = .ok (eqL eqB (l.drop k) (m.drop k)) w := by
  intro j
  induction j with
  | zero =>
    intro k hk
    rw [List.drop_eq_nil_of_le (by omega)]
    simp [Op.eqItems, eqL]
  | succ j ih =>
    intro k hk
    have hk1 : k < l.length := by omega
    have hk2 : k < m.length := by omega
    rw [List.range'_succ, Op.eqItems, K.cel, List.drop_eq_getElem_cons hk1, List.drop_eq_getElem_cons hk2]
    have p1 := K.part w (blkC val l).toArray (k * sz) l[k] (by rw [← blkC_part K.wide l k hk1])
    have p2 := K.part w (blkC val m).toArray (k * sz) m[k] (by rw [← blkC_part K.wide m k hk2])
    have p3 := K.eqE w d l[k] m[k]
    have p4 := ih (k + 1) (by omega)
    rw [K.cel] at p4
    simp only [Sem.run_bind, p1, p2, p3, Result.andThen_ok, eqL]
    cases h : eqB l[k] m[k]
    · simp
    · simpa using p4
theorem ArrK.equal (K : ArrK P t E n sz val eqB) (w : World) (l m : List α) (hl : l.length = n) (hm : m.length = n) : (Op.equal t (blkV val l) (blkV val m)).run P w = .ok (eqL eqB l m) w := by
  obtain ⟨i, hi⟩ := K.inf
  have := K.equal_items w 9996 l m hl hm n 0 (by omega)
  rw [← List.range_eq_range'] at this
  rw [Op.equal, Op.maxDepth, show (10000 : Nat) = (9996 + 3) + 1 from rfl, blkV, blkV, run_equalIn_array w (9996 + 3) _ _ K.und hi]
  simpa using this

theorem ArrK.check (K : ArrK P t E n sz val eqB) (w : World) (em : Bool) (l : List α) (hl : l.length = n) : (Instr.checkKey em 10000 t (blkV val l)).run P w = .ok () w := by
  obtain ⟨i, hi⟩ := K.inf
  rw [show (10000 : Nat) = (9996 + 3) + 1 from rfl, blkV, Instr.checkKey]
  simp only [Sem.run_bind, run_underlying K.und, Result.andThen_ok]
  simp only [Std.Legacy.Range.forIn_eq_forIn_range', Std.Legacy.Range.size, Nat.sub_zero, Nat.add_one_sub_one, Nat.div_one]
  have each : ∀ j ∈ List.range' 0 n, j < l.length := fun j hj => by rw [List.mem_range'] at hj; omega
  generalize List.range' 0 n = is at each
  induction is with
  | nil => simp
  | cons j is ih =>
    have hj := each j (by simp)
    have p1 := K.part w (blkC val l).toArray (j * sz) l[j] (by rw [← blkC_part K.wide l j hj])
    have p2 := K.chk w em 9996 l[j]
    simp only [List.forIn_cons, Sem.run_bind, run_sizeOf w hi, Result.andThen_ok, K.cel, p1, p2, Sem.run_pure]
    exact ih (fun y hy => each y (by simp [hy]))

/-- the entries of a map of blocks, each with its number -/
def entsFrom (val : α → Value) : Nat → List (List α) → List MapEntry
  | _, [] => []
  | i, l :: L => { key := blkV val l, val := .int .u16 (i : Nat), born := i } :: entsFrom val (i + 1) L
def entsL (val : α → Value) (L : List (List α)) : Array MapEntry := (entsFrom val 0 L).toArray
def findB (eqB : α → α → Bool) (l : List α) (L : List (List α)) : Option Nat := L.findIdx? (eqL eqB l)
theorem entsFrom_append (val : α → Value) (L : List (List α)) (l : List α) : ∀ i, entsFrom val i (L ++ [l]) = entsFrom val i L ++ [{ key := blkV val l, val := .int .u16 ((i + L.length : Nat) : Int), born := i + L.length }] := by
  induction L with
  | nil => intro i; rfl
  | cons x L ih =>
    intro i
    rw [List.cons_append, entsFrom, ih, entsFrom, List.length_cons, List.cons_append, show i + 1 + L.length = i + (L.length + 1) by omega]
theorem entsL_push (val : α → Value) (L : List (List α)) (l : List α) : entsL val (L ++ [l]) = (entsL val L).push { key := blkV val l, val := .int .u16 (L.length : Nat), born := L.length } := by
  simp [entsL, entsFrom_append]
theorem entsFrom_length (val : α → Value) (L : List (List α)) : ∀ i, (entsFrom val i L).length = L.length := by
  induction L with
  | nil => intro i; rfl
  | cons x L ih => intro i; simp [entsFrom, ih]

theorem ArrK.find_asking (K : ArrK P t E n sz val eqB) (w : World) (l : List α) (hl : l.length = n) : ∀ (L : List (List α)) (i : Nat) (j : Nat), (∀ m ∈ L, m.length = n) →
    (Instr.findAsking t (blkV val l) (entsFrom val i L) j).run P w = .ok ((findB eqB l L).map (fun k => (j + k, .int .u16 ((i + k : Nat) : Int)))) w := by
  intro L
  induction L with
  | nil => intro i j _; simp [entsFrom, Instr.findAsking, findB]
  | cons m L ih =>
    intro i j hL
    have h1 := K.equal w l m hl (hL m (by simp))
    have h2 := ih (i + 1) (j + 1) (fun m hm => hL m (by simp [hm]))
    rw [entsFrom, Instr.findAsking]
    simp only [Sem.run_bind, h1, Result.andThen_ok, findB, List.findIdx?_cons]
    cases h : eqL eqB l m
    · simp only [Bool.false_eq_true, if_false, h2, findB]
      congr 1
      rw [Option.map_map]
      congr 1
      funext k
      simp only [Function.comp]
      rw [show j + 1 + k = j + (k + 1) by omega, show i + 1 + k = i + (k + 1) by omega]
    · simp
theorem findNow_array (n : Nat) (E : TypeId) (k : Value) (e : MapEntry) (es : List MapEntry) (i : Nat) : Instr.findNow (.array n E) k (e :: es) i = none := by
  simp only [Instr.findNow, Instr.sameNow]
theorem ArrK.find_key (K : ArrK P t E n sz val eqB) (w : World) (l : List α) (hl : l.length = n) (L : List (List α)) (hL : ∀ m ∈ L, m.length = n) :
    (Instr.findKey t (blkV val l) (entsL val L).toList).run P w = .ok ((findB eqB l L).map (fun k => (k, .int .u16 (k : Int)))) w := by
  have h := K.find_asking w l hl L 0 0 hL
  simp only [Nat.zero_add] at h
  rw [Instr.findKey]
  simp only [Sem.run_bind, run_underlying K.und, Result.andThen_ok, entsL]
  cases L with
  | nil => simp [entsFrom, Instr.findNow, findB]
  | cons m L =>
    rw [show entsFrom val 0 (m :: L) = { key := blkV val m, val := .int .u16 ((0 : Nat) : Int), born := 0 } :: entsFrom val 1 L from rfl, findNow_array]
    exact h

/-- block b is the map of the blocks L -/
def IdxMap (val : α → Value) (w : World) (b : Nat) (L : List (List α)) : Prop := w.heap[b]? = some (.map (entsL val L) L.length)
/-- block b is laid anew -/
def putB (w : World) (b : Nat) (o : Obj) : World := { w with heap := w.heap.setIfInBounds b o }
def foundV (o : Option Nat) : Value := match o with
  | some k => .tuple #[.int .u16 (k : Nat), .bool true]
  | none => .tuple #[.int .u16 0, .bool false]

theorem ArrK.lookup (K : ArrK P t E n sz val eqB) {tm te : TypeId} (hm : P.underlying tm = some (.map t te)) (hz : ∀ w, (zeroValue te).run P w = .ok (.int .u16 0) w) {w : World} {b : Nat} {L : List (List α)} (h : IdxMap val w b L) (l : List α) (hl : l.length = n) (hL : ∀ m ∈ L, m.length = n) :
    (Instr.lookup tm (.map (some b)) (blkV val l) true).run P w = .ok (foundV (findB eqB l L)) w := by
  rw [Instr.lookup]
  simp only [Sem.run_bind, run_underlying hm, Result.andThen_ok, MapKept.run_getObj_map h, Sem.run_pure, K.check w _ l hl, K.find_key w l hl L hL]
  cases findB eqB l L <;> simp [foundV, hz]

theorem ArrK.store (K : ArrK P t E n sz val eqB) {tm te : TypeId} (hm : P.underlying tm = some (.map t te)) {w : World} {b : Nat} {L : List (List α)} (h : IdxMap val w b L) (l : List α) (hl : l.length = n) (hL : ∀ m ∈ L, m.length = n) (hn : findB eqB l L = none) :
    (Instr.mapUpdate tm (.map (some b)) (blkV val l) (.int .u16 (L.length : Nat))).run P w = .ok () (putB w b (.map (entsL val (L ++ [l])) (L ++ [l]).length)) := by
  rw [Instr.mapUpdate]
  simp only [Sem.run_bind, run_underlying hm, Result.andThen_ok, MapKept.run_getObj_map h, K.check w _ l hl, K.find_key w l hl L hL, hn, Option.map_none, MapKept.run_setObj_map _ h]
  rw [entsL_push, List.length_append]
  rfl
end
end Go.Proofs.Ytabbabkmojaoaaa
