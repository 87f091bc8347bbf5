/-
  Laws over the model alone: appends in the round of a range over a function; a function value against nil; the plain walk's words at a round's end.
-/
import Derived.Test.YtabbabkmojaoaaaRF0
import Derived.OwnWalkIn
set_option linter.unusedVariables false
namespace Go.Proofs.Ytabbabkmojaoaaa
open Go.RowKit

theorem Elem.toN {P : Program} {t e : TypeId} {z : Value} {bytes : Nat} (el : Elem P t e z bytes) : ElemN P t e z 1 bytes := ⟨el.und, el.inf, el.one, by decide⟩

theorem wpListIn_appN {F : Fence} {nF : Nat} {P : Program} {t e : TypeId} {z : Value} {size bytes : Nat} (el : ElemN P t e z size bytes) {w : World} {ops : Array Oper} {rest : List Oper} {o : Oper} {act : Act} {Q : Exit → Act → World → Prop} (hgd : o.guard = none) (s x : Operand)
    (ho : o.op = .call { callee := .builtin .append, args := #[s, x], argTypes := #[t, t] }) {B : Nat} {a : Option Addr} {n cap : Nat} {xs : List Value} (hown : w.ownsRow B e size (.slice a n cap) n xs) (hB : B ≤ w.heap.size) (hn : (n + 1) * bytes ≤ 140737488355328) (hm : n < 140737488355328) (cs : Array Value) (hcs : cs.size = size) (hu : ∀ u ∈ cs.toList, u.oneCell' = true) (e' : TypeId)
    (hs : act.eval s = .slice a n cap) (hx : act.eval x = .slice (some ⟨w.heap.size, 0, none⟩) 1 1)
    (h : ∀ a' cap' w', w'.ownsRow B e size (.slice a' (n + 1) cap') (n + 1) (xs ++ cs.toList) → w.grownBy w' (Value.slice a n cap).ownBlock → newBlock w (.slice a n cap) (.slice a' (n + 1) cap') → wpListIn F nF P ops Q rest (act.put o.dst (.slice a' (n + 1) cap')) w') :
    wpListIn F nF P ops Q (o :: rest) act (w.alloc (.cells cs e')) := by
  obtain ⟨i, hi, hz, h1, hb⟩ := info_parts el.inf
  refine wpListIn_plain hgd fun K hK' => ?_
  have hcell : ∀ j v, cs.toList[j]? = some v → (w.alloc (.cells cs e')).cell? ((⟨w.heap.size, 0, none⟩ : Addr).add j) = some v := by
    intro j v hv
    rw [Addr.add_lit, Nat.zero_add, cell_of_row (w.alloc (.cells cs e')) w.heap.size j cs e' (0, 0) (heap_alloc_new w _)]
    rwa [Array.getElem?_toList] at hv
  obtain ⟨v', w', hr, h2, h3, h4⟩ := run_app (P := P) (w.alloc (.cells cs e')) B t o.type e i z size bytes el.und hi hz h1 hb el.sz el.pos _ n xs (World.ownsRow.alloc hown _) ⟨w.heap.size, 0, none⟩ 1 1 cs.toList (by simp [hcs]) hcell hu (by simp only [maxLen]; omega) hn (by simp; omega)
  have hv' : ∃ a' cap', v' = .slice a' (n + 1) cap' := by
    rcases h2.2 with ⟨rfl, h0⟩ | ⟨g, cap', cur, rfl, _⟩
    · omega
    · exact ⟨_, _, rfl⟩
  obtain ⟨a', cap', rfl⟩ := hv'
  have hg : w.grownBy w' (Value.slice a n cap).ownBlock := by
    refine ⟨h3.os, h3.tape, h3.output, by have := h3.size; simp at this; omega, fun k hk hne => ?_⟩
    rw [h3.block k (by simp; omega) hne]
    exact Below.heap_alloc w _ k hk
  have hnb : newBlock w (.slice a n cap) (.slice a' (n + 1) cap') := by
    rcases h4 with h4 | ⟨g, h4, h5⟩
    · exact .inl h4
    · exact .inr ⟨g, h4, by simp at h5; omega⟩
  unfold Oper.wpIn
  refine ⟨by simp [Oper.about, ho, resolve, Target.leads, Sem.run_pure], ?_⟩
  rw [Oper.semAt_plain F _ _ (by rw [ho]; intro c hc'; cases hc')]
  simp [execOp, ho, resolve, invoke, builtin, hs, hx, hr, Result.andThen]
  exact hK' _ _ (h a' cap' w' h2 hg hnb)

/-- a function value against nil -/
theorem run_equalIn_func_nil {P : Program} (w : World) (d : Nat) (t : TypeId) (fn : Fn) (fs cs : Array Value) (ps rs : Array TypeId) (v : Bool) (h : P.underlying t = some (.func ps rs v)) :
    (Op.equalIn (d + 1) t (.func fn fs cs) .nilFunc).run P w = .ok false w := by
  simp [Op.equalIn, run_underlying h]
theorem run_eql_func_nil {P : Program} (w : World) (t : TypeId) (fn : Fn) (fs cs : Array Value) (ps rs : Array TypeId) (v : Bool) (h : P.underlying t = some (.func ps rs v)) :
    (binOp .eql t (.func fn fs cs) .nilFunc).run P w = .ok (.bool false) w := by
  simp only [binOp]
  simp [Op.equal, Op.maxDepth, run_equalIn_func_nil w 9999 t fn fs cs ps rs v h]

/-- all blocks below n but those of X lie as they lay -/
structure But (n : Nat) (X : Nat → Prop) (W W' : World) : Prop where
  os : W'.os = W.os
  tape : W'.tape = W.tape
  output : W'.output = W.output
  size : W.heap.size ≤ W'.heap.size
  block : ∀ k, k < n → ¬ X k → W'.heap[k]? = W.heap[k]?
theorem But.refl (n : Nat) (X : Nat → Prop) (W : World) : But n X W W := ⟨rfl, rfl, rfl, Nat.le_refl _, fun _ _ _ => rfl⟩
theorem But.trans {n : Nat} {X : Nat → Prop} {A B C : World} (h : But n X A B) (k : But n X B C) : But n X A C :=
  ⟨k.os.trans h.os, k.tape.trans h.tape, k.output.trans h.output, Nat.le_trans h.size k.size, fun i hi hx => (k.block i hi hx).trans (h.block i hi hx)⟩
theorem But.of_below {n : Nat} {X : Nat → Prop} {W W' : World} (h : Below n W W') : But n X W W' := ⟨h.os, h.tape, h.output, h.size, fun k hk _ => h.block k hk⟩
theorem But.below {n : Nat} {X : Nat → Prop} {W W' : World} (h : But n X W W') (B : Nat) (hB : B ≤ n) (hX : ∀ k, X k → B ≤ k) : Below B W W' :=
  ⟨h.os, h.tape, h.output, h.size, fun k hk => h.block k (Nat.lt_of_lt_of_le hk hB) (fun hx => by have := hX k hx; omega)⟩
theorem But.off {n : Nat} {X T : Nat → Prop} {A W W' : World} (h : But n X A W) (ho : Off T W W') (hT : ∀ k, T k → n ≤ k) (hn : n ≤ W.heap.size) : But n X A W' :=
  h.trans ⟨ho.os, ho.tape, ho.output, ho.size, fun k hk _ => ho.block k (Nat.lt_of_lt_of_le hk hn) (fun ht => by have := hT k ht; omega)⟩
theorem But.setCell {n : Nat} {X : Nat → Prop} {W W' : World} (h : But n X W W') (b o : Nat) (v : Value) (hb : X b ∨ n ≤ b) : But n X W (W'.setCell ⟨b, o, none⟩ v) :=
  h.trans ⟨rfl, rfl, rfl, by simp, fun k hk hx => Below.heap_setCell _ _ _ _ (by rintro rfl; rcases hb with h1 | h1; exact hx h1; exact absurd hk (by simp; omega))⟩
theorem But.grown {n : Nat} {X : Nat → Prop} {A W W' : World} {row : Option Nat} (h : But n X A W) (hg : W.grownBy W' row) (hn : n ≤ W.heap.size) (hr : ∀ k, row = some k → X k ∨ n ≤ k) : But n X A W' :=
  h.trans ⟨hg.os, hg.tape, hg.output, hg.size, fun k hk hx => hg.block k (by omega) (fun e => by rcases hr k e.symm with h1 | h1; exact hx h1; omega)⟩
theorem But.alloc {n : Nat} {X : Nat → Prop} {A W : World} (h : But n X A W) (hn : n ≤ W.heap.size) (o : Obj) : But n X A (W.alloc o) :=
  h.trans (But.of_below ((Below.refl _ W).alloc hn o))
theorem But.keep {n : Nat} {X : Nat → Prop} {W W' : World} (h : But n X W W') {k : Nat} {o : Obj} (hk : W.heap[k]? = some o) (hn : k < n) (hx : ¬ X k) : W'.heap[k]? = some o := by rw [h.block k hn hx]; exact hk
theorem But.cell {n : Nat} {X : Nat → Prop} {W W' : World} (h : But n X W W') {b o : Nat} {v : Value} (hc : W.cell? ⟨b, o, none⟩ = some v) (hn : b < n) (hx : ¬ X b) : W'.cell? ⟨b, o, none⟩ = some v := by
  rw [World.cell?_of_block (w := W) (a := ⟨b, o, none⟩) (h.block b hn hx)]; exact hc
theorem ownsRow_off {B s : Nat} {E : TypeId} {W W' : World} {a : Option Addr} {n cap : Nat} {xs : List Value} {T : Nat → Prop} (h : W.ownsRow B E s (.slice a n cap) n xs) (ho : Off T W W') (ht : ∀ k, (Value.slice a n cap).ownBlock = some k → ¬ T k) : W'.ownsRow B E s (.slice a n cap) n xs := by
  refine ⟨h.1, ?_⟩
  rcases h.2 with hn | ⟨g, cap, cur, e, hbg, hgg, rest⟩
  · exact .inl hn
  · refine .inr ⟨g, cap, cur, e, hbg, ho.cellsBlock hgg (ht g ?_), rest⟩
    simp only [Value.slice.injEq] at e
    obtain ⟨rfl, _, _⟩ := e
    rfl
end Go.Proofs.Ytabbabkmojaoaaa
