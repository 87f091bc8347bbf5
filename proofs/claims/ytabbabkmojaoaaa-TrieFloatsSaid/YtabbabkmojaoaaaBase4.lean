/-
  Small laws over the model alone: appends of an element of several cells; rows of pairs.
-/
import Derived.Test.YtabbabkmojaoaaaBase3
set_option linter.unusedVariables false
namespace Go.Proofs.Ytabbabkmojaoaaa
open Go.RowKit

structure ElemN (P : Program) (t e : TypeId) (z : Value) (size bytes : Nat) : Prop where
  und : P.underlying t = some (.slice e)
  inf : (P.info? e).map (fun i => (i.zero, i.size, i.bytes)) = some (some z, size, bytes)
  sz : z.cells.size = size
  pos : 0 < size

theorem wpList_appN {P : Program} {t e : TypeId} {z : Value} {size bytes : Nat} (el : ElemN P t e z size bytes) {w : World} {ops : Array Oper} {rest : List Oper} {o : Oper} {act : Act} {Q : Exit → Act → World → Prop} (hgd : o.guard = none) (s x : Operand)
    (ho : o.op = .call { callee := .builtin .append, args := #[s, x], argTypes := #[t, t] }) {B : Nat} {a : Option Addr} {n cap : Nat} {xs : List Value} (hown : w.ownsRow B e size (.slice a n cap) n xs) (hB : B ≤ w.heap.size) (hn : (n + 1) * bytes ≤ 140737488355328) (hm : n < 140737488355328) (cs : Array Value) (hcs : cs.size = size) (hu : ∀ u ∈ cs.toList, u.oneCell' = true) (e' : TypeId)
    (hs : act.eval s = .slice a n cap) (hx : act.eval x = .slice (some ⟨w.heap.size, 0, none⟩) 1 1)
    (h : ∀ a' cap' w', w'.ownsRow B e size (.slice a' (n + 1) cap') (n + 1) (xs ++ cs.toList) → w.grownBy w' (Value.slice a n cap).ownBlock → newBlock w (.slice a n cap) (.slice a' (n + 1) cap') → wpList P ops Q rest (act.put o.dst (.slice a' (n + 1) cap')) w') :
    wpList P ops Q (o :: rest) act (w.alloc (.cells cs e')) := by
  obtain ⟨i, hi, hz, h1, hb⟩ := info_parts el.inf
  refine wpList_plain hgd fun K hK' => ?_
  have hcell : ∀ j v, cs.toList[j]? = some v → (w.alloc (.cells cs e')).cell? ((⟨w.heap.size, 0, none⟩ : Addr).add j) = some v := by
    intro j v hv
    rw [Addr.add_lit, Nat.zero_add, cell_of_row (w.alloc (.cells cs e')) w.heap.size j cs e' (0, 0) (heap_alloc_new w _)]
    rwa [Array.getElem?_toList] at hv
  obtain ⟨v', w', hr, h2, h3, h4⟩ := run_app (P := P) (w.alloc (.cells cs e')) B t o.type e i z size bytes el.und hi hz h1 hb el.sz el.pos _ n xs (World.ownsRow.alloc hown _) ⟨w.heap.size, 0, none⟩ 1 1 cs.toList (by simp [hcs]) hcell hu (by simp only [maxLen]; omega) hn (by simp; omega)
  unfold Oper.wp execOp
  simp only [ho, resolve, invoke, builtin, Sem.run_bind, Sem.run_pure, Result.andThen_ok, List.map_toArray, List.map_cons, List.map_nil, hs, hx, hr]
  have hv' : ∃ a' cap', v' = .slice a' (n + 1) cap' := by
    rcases h2.2 with ⟨rfl, h0⟩ | ⟨g, cap', cur, rfl, _⟩
    · omega
    · exact ⟨_, _, rfl⟩
  obtain ⟨a', cap', rfl⟩ := hv'
  refine hK' _ _ (h a' cap' w' h2 ?_ ?_)
  · refine ⟨h3.os, h3.tape, h3.output, by have := h3.size; simp at this; omega, fun k hk hne => ?_⟩
    rw [h3.block k (by simp; omega) hne]
    exact Below.heap_alloc w _ k hk
  · rcases h4 with h4 | ⟨g, h4, h5⟩
    · exact .inl h4
    · exact .inr ⟨g, h4, by simp at h5; omega⟩

/-- pairs of integers, two cells each -/
def flat2 (ps : List (Nat × Nat)) : List Value := ps.flatMap (fun p => [.int .i64 (p.1 : Nat), .int .i64 (p.2 : Nat)])
theorem flat2_length (ps : List (Nat × Nat)) : (flat2 ps).length = ps.length * 2 := by
  induction ps with
  | nil => rfl
  | cons p t ih =>
    have e : flat2 (p :: t) = .int .i64 (p.1 : Nat) :: .int .i64 (p.2 : Nat) :: flat2 t := rfl
    rw [e]
    simp only [List.length_cons]
    omega
theorem flat2_push (ps : List (Nat × Nat)) (p : Nat × Nat) : flat2 (ps ++ [p]) = flat2 ps ++ [.int .i64 (p.1 : Nat), .int .i64 (p.2 : Nat)] := by simp [flat2]
theorem flat2_get (ps : List (Nat × Nat)) (i : Nat) (hi : i < ps.length) : (flat2 ps)[i * 2]? = some (.int .i64 ((ps[i]).1 : Nat)) ∧ (flat2 ps)[i * 2 + 1]? = some (.int .i64 ((ps[i]).2 : Nat)) := by
  induction ps generalizing i with
  | nil => simp at hi
  | cons p t ih =>
    have e : flat2 (p :: t) = .int .i64 (p.1 : Nat) :: .int .i64 (p.2 : Nat) :: flat2 t := rfl
    cases i with
    | zero => rw [e]; simp
    | succ i =>
      simp at hi
      have := ih i hi
      rw [e, show (i + 1) * 2 = i * 2 + 1 + 1 by omega]
      simpa using this

/-- a row of pairs that the call itself has made -/
def Own2 (B : Nat) (E : TypeId) (w : World) (a : Option Addr) (n cap : Nat) (ps : List (Nat × Nat)) : Prop := w.ownsRow B E 2 (.slice a n cap) n (flat2 ps)
/-- in w the slice that begins at a reads as these pairs -/
def Pairs (w : World) (a : Option Addr) (ps : List (Nat × Nat)) : Prop :=
  ∀ i (h : i < ps.length), ∃ b o, a = some ⟨b, o, none⟩ ∧ w.cell? ⟨b, o + i * 2, none⟩ = some (.int .i64 ((ps[i]).1 : Nat)) ∧ w.cell? ⟨b, o + i * 2 + 1, none⟩ = some (.int .i64 ((ps[i]).2 : Nat))
theorem Pairs.below {w w' : World} {B : Nat} {a : Option Addr} {ps : List (Nat × Nat)} (h : Pairs w a ps) (hb : Below B w w') (hB : w.heap.size ≤ B) : Pairs w' a ps := by
  intro i hi
  obtain ⟨b, o, h1, h2, h3⟩ := h i hi
  have hl : b < B := by have := World.block_lt_of_cell? w _ h2; simp at this; omega
  exact ⟨b, o, h1, by rw [hb.cell (p := ⟨b, o + i * 2, none⟩) hl]; exact h2, by rw [hb.cell (p := ⟨b, o + i * 2 + 1, none⟩) hl]; exact h3⟩
section
variable {B : Nat} {E : TypeId} {w : World} {a : Option Addr} {n cap : Nat} {ps : List (Nat × Nat)}
theorem Own2.nil (B : Nat) (E : TypeId) (w : World) : Own2 B E w none 0 0 [] := World.ownsRow_nil w B E 2
theorem Own2.len (h : Own2 B E w a n cap ps) : ps.length = n := by
  have := h.1
  rw [flat2_length] at this
  omega
theorem Own2.pairs (h : Own2 B E w a n cap ps) : Pairs w a ps := by
  intro i hi
  have hl := h.len
  rcases h.2 with ⟨e, h0⟩ | ⟨g, cap', cur, e, hb, hg, hnc, hcm, hcs, ht⟩
  · omega
  · simp only [Value.slice.injEq] at e
    obtain ⟨rfl, _, rfl⟩ := e
    obtain ⟨h1, h2⟩ := flat2_get ps i hi
    refine ⟨g, 0, rfl, ?_, ?_⟩
    · rw [cell_of_row w g _ _ _ (0, 0) hg, Nat.zero_add, ← Array.getElem?_toList, ← h1, ← ht, List.getElem?_take_of_lt (by omega)]
    · rw [cell_of_row w g _ _ _ (0, 0) hg, Nat.zero_add, ← Array.getElem?_toList, ← h2, ← ht, List.getElem?_take_of_lt (by omega)]
theorem Own2.below {B' : Nat} {w' : World} (h : Own2 B E w a n cap ps) (hb : Below B' w w') (hB : w.heap.size ≤ B') : Own2 B E w' a n cap ps := by
  refine ⟨h.1, ?_⟩
  rcases h.2 with hn | ⟨g, cap, cur, e, hbg, hgg, rest⟩
  · exact .inl hn
  · exact .inr ⟨g, cap, cur, e, hbg, by rw [hb.block g (by have := (Array.getElem?_eq_some_iff.1 hgg).1; omega)]; exact hgg, rest⟩
theorem Own2.app {w' : World} (h : Own2 B E w a n cap ps) (hg : w.grownBy w' (Value.slice a n cap).ownBlock) (hB : B ≤ w.heap.size) : Below B w w' :=
  Below.ofGrown hg hB (fun k hk => (World.ownsRow.lt h k hk).1)
end
theorem Pairs.get {w : World} {b o : Nat} {ps : List (Nat × Nat)} (h : Pairs w (some ⟨b, o, none⟩) ps) (i : Nat) (hi : i < ps.length) : w.cell? ⟨b, o + i * 2, none⟩ = some (.int .i64 ((ps[i]).1 : Nat)) ∧ w.cell? ⟨b, o + i * 2 + 1, none⟩ = some (.int .i64 ((ps[i]).2 : Nat)) := by
  obtain ⟨b', o', e, hc⟩ := h i hi
  simp only [Option.some.injEq, Addr.mk.injEq, and_true] at e
  obtain ⟨rfl, rfl⟩ := e
  exact hc
theorem Pairs.some {w : World} {a : Option Addr} {ps : List (Nat × Nat)} (h : Pairs w a ps) (hn : 0 < ps.length) : ∃ b o, a = .some ⟨b, o, none⟩ := by
  obtain ⟨b, o, e, _⟩ := h 0 hn
  exact ⟨b, o, e⟩
end Go.Proofs.Ytabbabkmojaoaaa
