/-
  Laws over the model alone: loads of whole arrays, look-ups and updates in a region that draws its order.
-/
import Derived.Test.YtabbabkmojaoaaaTS
import Derived.StillTailTactics
import Derived.Test.YtabbabkmojaoaaaRH
set_option linter.unusedVariables false
set_option linter.unusedSimpArgs false
namespace Go.Proofs.Ytabbabkmojaoaaa
open Go.RowKit

section
variable {P : Program} {ops : Array Oper} {w : World} {Q : Act → Prop} {rest : List Oper} {o : Oper} {a : Act}
theorem wpStill_val {v : Value} (hg : o.guard = none) (hr : (execOp a.eval o).run P w = .ok (.value v) w) (h : wpStill P ops w Q rest (a.put o.dst v)) : wpStill P ops w Q (o :: rest) a :=
  wpStill_step (fun K hK => by
    simp only [Region.wanted, hg, if_true]
    unfold Oper.still
    rw [hr, Oper.stillUpon_value]
    exact hK _ h)
theorem wpStill_load (hg : o.guard = none) (ty : TypeId) (x : Operand) (ho : o.op = .load ty x) (b off : Nat) (hx : a.eval x = .pointer (some ⟨b, off, none⟩)) (cs : List Value) (d : TypeDesc) (hc : w.rangeAt b off cs)
    (hu : P.underlying ty = some d) (hd : d.isRow = true) (hi : (P.info? ty).map (·.size) = some cs.length) (h : wpStill P ops w Q rest (a.put o.dst (.agg cs.toArray))) : wpStill P ops w Q (o :: rest) a := by
  refine wpStill_val hg ?_ h
  unfold execOp
  simp only [ho, hx, Instr.loadAt, Instr.sureAddr, Sem.run_bind, Sem.run_pure, Result.andThen_ok, run_loadVar_mid w b off ty cs d hc hu hd hi]
theorem wpStill_lookup (hg : o.guard = none) (ty : TypeId) (x y : Operand) (ok : Bool) (ho : o.op = .lookup ty x y ok) (xv yv v : Value) (hx : a.eval x = xv) (hy : a.eval y = yv) (hr : (Instr.lookup ty xv yv ok).run P w = .ok v w)
    (h : wpStill P ops w Q rest (a.put o.dst v)) : wpStill P ops w Q (o :: rest) a := by
  refine wpStill_val hg ?_ h
  unfold execOp
  simp only [ho, hx, hy, Sem.run_bind, Sem.run_pure, Result.andThen_ok, hr]
end
theorem wpList_mapUpdate_val {P : Program} {ops : Array Oper} {w w' : World} {Q : Exit → Act → World → Prop} {rest : List Oper} {o : Oper} {a : Act} (hg : o.guard = none) (ty : TypeId) (m x v : Operand) (ho : o.op = .mapUpdate ty m x v)
    (mv xv vv : Value) (hm : a.eval m = mv) (hx : a.eval x = xv) (hv : a.eval v = vv) (hr : (Instr.mapUpdate ty mv xv vv).run P w = .ok () w') (h : wpList P ops Q rest (a.put o.dst undef) w') : wpList P ops Q (o :: rest) a w :=
  wpList_plain hg fun K hK => by
    unfold Oper.wp execOp
    simp only [ho, hm, hx, hv, Sem.run_bind, Sem.run_pure, Result.andThen_ok, hr]
    exact hK _ _ h
theorem exec_load {P : Program} {o : Oper} {a : Act} {w : World} (ty : TypeId) (x : Operand) (ho : o.op = .load ty x) (b off : Nat) (hx : a.eval x = .pointer (some ⟨b, off, none⟩)) (cs : List Value) (d : TypeDesc) (hc : w.rangeAt b off cs)
    (hu : P.underlying ty = some d) (hd : d.isRow = true) (hi : (P.info? ty).map (·.size) = some cs.length) : (execOp a.eval o).run P w = .ok (.value (.agg cs.toArray)) w := by
  unfold execOp
  simp only [ho, hx, Instr.loadAt, Instr.sureAddr, Sem.run_bind, Sem.run_pure, Result.andThen_ok, run_loadVar_mid w b off ty cs d hc hu hd hi]
theorem exec_appN {P : Program} {t e : TypeId} {z : Value} {size bytes : Nat} (el : ElemN P t e z size bytes) {w : World} {o : Oper} {act : Act} (s x : Operand)
    (ho : o.op = .call { callee := .builtin .append, args := #[s, x], argTypes := #[t, t] }) {B : Nat} {a : Option Addr} {n cap : Nat} {xs : List Value} (hown : w.ownsRow B e size (.slice a n cap) n xs) (hn : (n + 1) * bytes ≤ 140737488355328) (hm : n < 140737488355328) (hB : B ≤ w.heap.size) (cs : List Value) (hcs : cs.length = size) (hu : ∀ u ∈ cs, u.oneCell' = true) (e' : TypeId)
    (hs : act.eval s = .slice a n cap) (hx : act.eval x = .slice (some ⟨w.heap.size, 0, none⟩) 1 1) :
    ∃ a' cap' w', (execOp act.eval o).run P (w.alloc (.cells cs.toArray e')) = .ok (.value (.slice a' (n + 1) cap')) w' ∧ w'.ownsRow B e size (.slice a' (n + 1) cap') (n + 1) (xs ++ cs) ∧ w.grownBy w' (Value.slice a n cap).ownBlock ∧ newBlock w (.slice a n cap) (.slice a' (n + 1) cap') := by
  obtain ⟨i, hi, hz, h1, hb⟩ := info_parts el.inf
  have hcell : ∀ j v, cs[j]? = some v → (w.alloc (.cells cs.toArray e')).cell? ((⟨w.heap.size, 0, none⟩ : Addr).add j) = some v := by
    intro j v hv
    rw [Addr.add_lit, Nat.zero_add, cell_of_row (w.alloc (.cells cs.toArray e')) w.heap.size j cs.toArray e' (0, 0) (heap_alloc_new w _)]
    simpa using hv
  obtain ⟨v', w', hr, h2, h3, h4⟩ := run_app (P := P) (w.alloc (.cells cs.toArray e')) B t o.type e i z size bytes el.und hi hz h1 hb el.sz el.pos _ n xs (World.ownsRow.alloc hown _) ⟨w.heap.size, 0, none⟩ 1 1 cs (by simp [hcs]) hcell hu (by simp only [maxLen]; omega) hn (by simp; omega)
  have hv' : ∃ a' cap', v' = .slice a' (n + 1) cap' := by
    rcases h2.2 with ⟨rfl, h0⟩ | ⟨g, cap', cur, rfl, _⟩
    · omega
    · exact ⟨_, _, rfl⟩
  obtain ⟨a', cap', rfl⟩ := hv'
  refine ⟨a', cap', w', ?_, h2, ?_, ?_⟩
  · unfold execOp
    simp only [ho, resolve, invoke, builtin, Sem.run_bind, Sem.run_pure, Result.andThen_ok, List.map_toArray, List.map_cons, List.map_nil, hs, hx, hr]
  · refine ⟨h3.os, h3.tape, h3.output, by have := h3.size; simp at this; omega, fun k hk hne => ?_⟩
    rw [h3.block k (by simp; omega) hne]
    exact Below.heap_alloc w _ k hk
  · rcases h4 with h4 | ⟨g, h4, h5⟩
    · exact .inl h4
    · exact .inr ⟨g, h4, by simp at h5; omega⟩
theorem cell_grown {w w' : World} {row : Option Nat} (hg : w.grownBy w' row) {b o : Nat} {v : Value} (hc : w.cell? ⟨b, o, none⟩ = some v) (hr : ∀ k, row = some k → b ≠ k) : w'.cell? ⟨b, o, none⟩ = some v := by
  rw [World.cell?_of_block (w := w) (a := ⟨b, o, none⟩) (other_grown hg (World.block_lt_of_cell? w _ hc) hr)]
  exact hc
theorem range_grown {w w' : World} {row : Option Nat} (hg : w.grownBy w' row) {b o : Nat} {cs : List Value} (hc : w.rangeAt b o cs) (hr : ∀ k, row = some k → b ≠ k) : w'.rangeAt b o cs :=
  fun j v hv => cell_grown hg (hc j v hv) hr
theorem cell_allocN {w : World} {b o : Nat} {v : Value} (hc : w.cell? ⟨b, o, none⟩ = some v) (ob : Obj) : (w.alloc ob).cell? ⟨b, o, none⟩ = some v := by
  rw [World.cell?_of_block (w := w) (a := ⟨b, o, none⟩) (Below.heap_alloc w ob b (World.block_lt_of_cell? w _ hc))]
  exact hc
theorem fold_get (cs : List Value) : ∀ (k : Nat) (z : Array Value) (i : Nat), ((cs.zipIdx k).foldl (fun cs x => cs.setIfInBounds x.snd x.fst) z)[i]? = if k ≤ i ∧ i < k + cs.length ∧ i < z.size then cs[i - k]? else z[i]? := by
  induction cs with
  | nil => intro k z i; simp; intro h1 h2; omega
  | cons c cs ih =>
    intro k z i
    rw [List.zipIdx_cons, List.foldl_cons, ih]
    simp only [Array.size_setIfInBounds, List.length_cons, Array.getElem?_setIfInBounds]
    by_cases h1 : k = i
    · subst h1
      rw [if_neg (by omega), if_pos rfl]
      by_cases h2 : k < z.size
      · rw [if_pos h2, if_pos (by omega)]; simp
      · rw [if_neg h2, if_neg (by omega)]; simp; omega
    · rw [if_neg h1]
      by_cases h2 : k + 1 ≤ i ∧ i < k + 1 + cs.length ∧ i < z.size
      · rw [if_pos h2, if_pos (by omega)]
        rw [show i - k = (i - (k + 1)) + 1 by omega]
        simp
      · rw [if_neg h2, if_neg (by omega)]
theorem fill_all (cs : List Value) (z : Array Value) (h : z.size = cs.length) : cs.zipIdx.foldl (fun cs x => cs.setIfInBounds x.snd x.fst) z = cs.toArray := by
  apply Array.ext_getElem?
  intro i
  rw [fold_get]
  by_cases hi : i < cs.length
  · rw [if_pos (by omega)]; simp
  · rw [if_neg (by omega), Array.getElem?_eq_none (by omega), Array.getElem?_eq_none (by simp; omega)]
theorem anyC_app {F : Fence} {nF : Nat} {P : Program} {md : Region.Mode} {ops : Array Oper} {Q : Exit → Act → World → Prop} {C : World → Prop} {M : List Nat} {i : Nat} {o : Oper} {f : Nat} {l : Array Bool} {act : Act} {t e : TypeId} {z : Value} {size bytes : Nat} (el : ElemN P t e z size bytes) {w : World} (hr : Region.ready md ops l = [i]) (hi : ops[i]? = some o) (hc : calmOp o = true)
    (hwt : Region.wanted o (yielded ops act.tmps) = true) (s x : Operand)
    (ho : o.op = .call { callee := .builtin .append, args := #[s, x], argTypes := #[t, t] }) {B : Nat} {a : Option Addr} {n cap : Nat} {xs : List Value} (hown : w.ownsRow B e size (.slice a n cap) n xs) (hn : (n + 1) * bytes ≤ 140737488355328) (hm : n < 140737488355328) (hB : B ≤ w.heap.size) (cs : List Value) (hcs : cs.length = size) (hu : ∀ u ∈ cs, u.oneCell' = true) (e' : TypeId)
    (hs : act.eval s = .slice a n cap) (hx : act.eval x = .slice (some ⟨w.heap.size, 0, none⟩) 1 1)
    (hC : ∀ w', w.grownBy w' (Value.slice a n cap).ownBlock → C w')
    (h : ∀ a' cap' w', w'.ownsRow B e size (.slice a' (n + 1) cap') (n + 1) (xs ++ cs) → w.grownBy w' (Value.slice a n cap).ownBlock → newBlock w (.slice a n cap) (.slice a' (n + 1) cap') → anyC F nF P md ops Q M C f (l.setIfInBounds i true) (act.put o.dst (.slice a' (n + 1) cap')) w') :
    anyC F nF P md ops Q M C (f + 1) l act (w.alloc (.cells cs.toArray e')) := by
  obtain ⟨a', cap', w', h1, h2, h3, h4⟩ := exec_appN el s x ho hown hn hm hB cs hcs hu e' hs hx
  exact anyC_one hr hi hc hwt h1 (hC w' h3) (h a' cap' w' h2 h3 h4)
theorem below_grown {B : Nat} {w w' : World} {row : Option Nat} (hg : w.grownBy w' row) (hr : ∀ k, row = some k → B ≤ k) (hB : B ≤ w.heap.size) : Below B w w' :=
  ⟨hg.os, hg.tape, hg.output, hg.size, fun k hk => hg.block k (by omega) (fun e => by have := hr k e.symm; omega)⟩
theorem below_putB {B : Nat} (w : World) (b : Nat) (o : Obj) (hB : B ≤ b) : Below B w (putB w b o) :=
  ⟨rfl, rfl, rfl, by simp [putB], fun k hk => putB_other w o (by omega)⟩
theorem wpList_val {P : Program} {ops : Array Oper} {w w' : World} {Q : Exit → Act → World → Prop} {rest : List Oper} {o : Oper} {a : Act} {v : Value} (hg : o.guard = none) (hr : (execOp a.eval o).run P w = .ok (.value v) w') (h : wpList P ops Q rest (a.put o.dst v) w') : wpList P ops Q (o :: rest) a w :=
  wpList_plain hg fun K hK => by
    unfold Oper.wp
    rw [hr]
    exact hK _ _ h
/-- the block of a row -/
def ob (a : Option Addr) : Option Nat := (Value.slice a 0 0).ownBlock
theorem ob_eq (a : Option Addr) (n c : Nat) : (Value.slice a n c).ownBlock = ob a := by cases a <;> rfl
/-- beside the maker's four blocks and its two rows (a, l; behind it a', l') all lies as it lay -/
structure AddFr (g : Nat) (w w' : World) (a l a' l' : Option Addr) : Prop where
  os : w'.os = w.os
  tape : w'.tape = w.tape
  output : w'.output = w.output
  size : w.heap.size ≤ w'.heap.size
  oth : ∀ k, k < w.heap.size → (k < g ∨ g + 4 ≤ k) → ob a ≠ some k → ob l ≠ some k → w'.heap[k]? = w.heap[k]?
  na : ∀ k, ob a' = some k → ob a = some k ∨ w.heap.size ≤ k
  nl : ∀ k, ob l' = some k → ob l = some k ∨ w.heap.size ≤ k
theorem AddFr.trans {g : Nat} {w w1 w2 : World} {a l a1 l1 a2 l2 : Option Addr} (h : AddFr g w w1 a l a1 l1) (k : AddFr g w1 w2 a1 l1 a2 l2) : AddFr g w w2 a l a2 l2 := by
  have hs := h.size
  refine ⟨k.os.trans h.os, k.tape.trans h.tape, k.output.trans h.output, Nat.le_trans hs k.size, fun i hi hg ha hl => ?_, fun i hi => ?_, fun i hi => ?_⟩
  · refine (k.oth i (by omega) hg (fun e => ?_) (fun e => ?_)).trans (h.oth i hi hg ha hl)
    · rcases h.na i e with h1 | h1
      · exact ha h1
      · omega
    · rcases h.nl i e with h1 | h1
      · exact hl h1
      · omega
  · rcases k.na i hi with h1 | h1
    · exact h.na i h1
    · exact .inr (by omega)
  · rcases k.nl i hi with h1 | h1
    · exact h.nl i h1
    · exact .inr (by omega)
theorem AddFr.below {g : Nat} {w w' : World} (a l : Option Addr) (h : Below w.heap.size w w') : AddFr g w w' a l a l := ⟨h.os, h.tape, h.output, h.size, fun k hk _ _ _ => h.block k hk, fun _ h => .inl h, fun _ h => .inl h⟩
theorem AddFr.drew {g : Nat} {w w' : World} {a l a' l' : Option Addr} (h : AddFr g w w' a l a' l') : AddFr g w w'.drew a l a' l' := ⟨h.os, h.tape, h.output, h.size, h.oth, h.na, h.nl⟩
theorem AddFr.store {g : Nat} {w w' : World} {a l a' l' : Option Addr} (h : AddFr g w w' a l a' l') (b o : Nat) (v : Value) (hb : g ≤ b ∧ b < g + 4) : AddFr g w (w'.setCell ⟨b, o, none⟩ v) a l a' l' :=
  ⟨(grown_store w' b o v).os.trans h.os, (grown_store w' b o v).tape.trans h.tape, (grown_store w' b o v).output.trans h.output, Nat.le_trans h.size (grown_store w' b o v).size, fun k hk hg ha hl => by rw [heap_setCell_other w' ⟨b, o, none⟩ k v (by simp; omega)]; exact h.oth k hk hg ha hl, h.na, h.nl⟩
theorem AddFr.put {g : Nat} {w w' : World} {a l a' l' : Option Addr} (h : AddFr g w w' a l a' l') (b : Nat) (o : Obj) (hb : g ≤ b ∧ b < g + 4) : AddFr g w (putB w' b o) a l a' l' :=
  ⟨h.os, h.tape, h.output, by simpa [putB] using h.size, fun k hk hg ha hl => by rw [putB_other w' o (by omega)]; exact h.oth k hk hg ha hl, h.na, h.nl⟩
theorem AddFr.low {g : Nat} {w w' : World} (a : Option Addr) {l l' : Option Addr} {n c n' c' : Nat} (hg : w.grownBy w' (Value.slice l n c).ownBlock) (hn : newBlock w (.slice l n c) (.slice l' n' c')) : AddFr g w w' a l a l' := by
  unfold newBlock at hn
  rw [ob_eq, ob_eq] at hn
  rw [ob_eq] at hg
  refine ⟨hg.os, hg.tape, hg.output, hg.size, fun k hk _ _ hl => hg.block k hk (fun e => hl e.symm), fun _ h => .inl h, fun k h => ?_⟩
  rcases hn with h1 | ⟨gg, h1, h2⟩
  · exact .inl (by rw [← h1]; exact h)
  · rw [h1] at h; cases h; exact .inr h2
theorem AddFr.mid {g : Nat} {w w' : World} {a a' : Option Addr} (l : Option Addr) {n c n' c' : Nat} (hg : w.grownBy w' (Value.slice a n c).ownBlock) (hn : newBlock w (.slice a n c) (.slice a' n' c')) : AddFr g w w' a l a' l := by
  unfold newBlock at hn
  rw [ob_eq, ob_eq] at hn
  rw [ob_eq] at hg
  refine ⟨hg.os, hg.tape, hg.output, hg.size, fun k hk _ ha _ => hg.block k hk (fun e => ha e.symm), fun k h => ?_, fun _ h => .inl h⟩
  rcases hn with h1 | ⟨gg, h1, h2⟩
  · exact .inl (by rw [← h1]; exact h)
  · rw [h1] at h; cases h; exact .inr h2
theorem AddFr.to_below {g : Nat} {w w' : World} {a l a' l' : Option Addr} (h : AddFr g w w' a l a' l') (ha : ∀ k, ob a = some k → g ≤ k) (hl : ∀ k, ob l = some k → g ≤ k) (hg : g ≤ w.heap.size) : Below g w w' :=
  ⟨h.os, h.tape, h.output, h.size, fun k hk => h.oth k (by omega) (.inl hk) (fun e => by have := ha k e; omega) (fun e => by have := hl k e; omega)⟩
theorem blkC8_map (b : List Int) : blkC val8 b = b.map val8 := by
  induction b with
  | nil => rfl
  | cons a l ih => rw [blkC, List.flatMap_cons, ← blkC, ih, val8_cells]; rfl
end Go.Proofs.Ytabbabkmojaoaaa
