/-
  Laws over the model alone: a map whose keys are arrays, each stored once, the value told by the count of keys before it.
-/
import Derived.Test.YtabbabkmojaoaaaTS
set_option linter.unusedVariables false
namespace Go.Proofs.Ytabbabkmojaoaaa
open Go.RowKit

section
variable {α : Type} {P : Program} {t E : TypeId} {n sz : Nat} {val : α → Value} {eqB : α → α → Bool}
def entsG (val : α → Value) (vv : Nat → Value) : Nat → List (List α) → List MapEntry
  | _, [] => []
  | i, l :: L => { key := blkV val l, val := vv i, born := i } :: entsG val vv (i + 1) L
theorem entsG_append (val : α → Value) (vv : Nat → Value) (L : List (List α)) (l : List α) : ∀ i, entsG val vv i (L ++ [l]) = entsG val vv i L ++ [{ key := blkV val l, val := vv (i + L.length), born := i + L.length }] := by
  induction L with
  | nil => intro i; rfl
  | cons x L ih =>
    intro i
    rw [List.cons_append, entsG, ih, entsG, List.length_cons, List.cons_append, show i + 1 + L.length = i + (L.length + 1) by omega]
theorem entsG_push (val : α → Value) (vv : Nat → Value) (L : List (List α)) (l : List α) : (entsG val vv 0 (L ++ [l])).toArray = ((entsG val vv 0 L).toArray).push { key := blkV val l, val := vv L.length, born := L.length } := by
  simp [entsG_append]
theorem ArrK.find_askingG (K : ArrK P t E n sz val eqB) (vv : Nat → Value) (w : World) (l : List α) (hl : l.length = n) : ∀ (L : List (List α)) (i : Nat) (j : Nat), (∀ m ∈ L, m.length = n) →
    (Instr.findAsking t (blkV val l) (entsG val vv i L) j).run P w = .ok ((findB eqB l L).map (fun k => (j + k, vv (i + k)))) w := by
  intro L
  induction L with
  | nil => intro i j _; simp [entsG, Instr.findAsking, findB]
  | cons m L ih =>
    intro i j hL
    have h1 := K.equal w l m hl (hL m (by simp))
    have h2 := ih (i + 1) (j + 1) (fun m hm => hL m (by simp [hm]))
    rw [entsG, Instr.findAsking]
    simp only [Sem.run_bind, h1, Result.andThen_ok, findB, List.findIdx?_cons]
    cases h : eqL eqB l m
    · simp only [Bool.false_eq_true, if_false, h2, findB]
      congr 1
      rw [Option.map_map]
      congr 1
      funext k
      simp only [Function.comp]
      rw [show j + 1 + k = j + (k + 1) by omega, show i + 1 + k = i + (k + 1) by omega]
    · simp
theorem ArrK.find_keyG (K : ArrK P t E n sz val eqB) (vv : Nat → Value) (w : World) (l : List α) (hl : l.length = n) (L : List (List α)) (hL : ∀ m ∈ L, m.length = n) :
    (Instr.findKey t (blkV val l) (entsG val vv 0 L)).run P w = .ok ((findB eqB l L).map (fun k => (k, vv k))) w := by
  have h := K.find_askingG vv w l hl L 0 0 hL
  simp only [Nat.zero_add] at h
  rw [Instr.findKey]
  simp only [Sem.run_bind, run_underlying K.und, Result.andThen_ok]
  cases L with
  | nil => simp [entsG, Instr.findNow, findB]
  | cons m L =>
    rw [show entsG val vv 0 (m :: L) = { key := blkV val m, val := vv 0, born := 0 } :: entsG val vv 1 L from rfl, findNow_array]
    exact h
def IdxMapG (val : α → Value) (vv : Nat → Value) (w : World) (b : Nat) (L : List (List α)) : Prop := w.heap[b]? = some (.map (entsG val vv 0 L).toArray L.length)
theorem ArrK.lookupG (K : ArrK P t E n sz val eqB) {vv : Nat → Value} {z : Value} {tm te : TypeId} (hm : P.underlying tm = some (.map t te)) (hz : ∀ w, (zeroValue te).run P w = .ok z w) {w : World} {b : Nat} {L : List (List α)} (h : IdxMapG val vv w b L) (l : List α) (hl : l.length = n) (hL : ∀ m ∈ L, m.length = n) (ok : Bool) :
    (Instr.lookup tm (.map (some b)) (blkV val l) ok).run P w = .ok (match findB eqB l L with
      | some k => if ok then .tuple #[vv k, .bool true] else vv k
      | none => if ok then .tuple #[z, .bool false] else z) w := by
  rw [Instr.lookup]
  simp only [Sem.run_bind, run_underlying hm, Result.andThen_ok, MapKept.run_getObj_map h, Sem.run_pure, K.check w _ l hl, K.find_keyG vv w l hl L hL]
  cases findB eqB l L <;> cases ok <;> simp [hz]
theorem ArrK.storeG (K : ArrK P t E n sz val eqB) {vv : Nat → Value} {tm te : TypeId} (hm : P.underlying tm = some (.map t te)) {w : World} {b : Nat} {L : List (List α)} (h : IdxMapG val vv w b L) (l : List α) (hl : l.length = n) (hL : ∀ m ∈ L, m.length = n) (hn : findB eqB l L = none) (v : Value) (hv : v = vv L.length) :
    (Instr.mapUpdate tm (.map (some b)) (blkV val l) v).run P w = .ok () (putB w b (.map (entsG val vv 0 (L ++ [l])).toArray (L ++ [l]).length)) := by
  subst hv
  rw [Instr.mapUpdate]
  simp only [Sem.run_bind, run_underlying hm, Result.andThen_ok, MapKept.run_getObj_map h, K.check w _ l hl, K.find_keyG vv w l hl L hL, hn, Option.map_none, MapKept.run_setObj_map _ h]
  rw [entsG_push, List.length_append]
  rfl
end
end Go.Proofs.Ytabbabkmojaoaaa
