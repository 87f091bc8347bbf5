/-
  The walk of TrieSmall.
-/
import Derived.Deep.RegionLaw
import Derived.Test.YtabbabkmojaoaaaTV
set_option linter.unusedVariables false
set_option linter.unusedSimpArgs false
namespace Go.Proofs.Ytabbabkmojaoaaa
open Go.RowKit

theorem wp_appSN {P : Program} {t e : TypeId} {z : Value} {size bytes : Nat} (el : ElemN P t e z size bytes) {w : World} {o : Oper} {act : Act} {K : Act → World → Prop} {Q : Exit → Act → World → Prop} (s x : Operand)
    (ho : o.op = .call { callee := .builtin .append, args := #[s, x], argTypes := #[t, t] }) {B : Nat} {a : Option Addr} {n cap : Nat} {xs : List Value} (hown : w.ownsRow B e size (.slice a n cap) n xs) (hB : B ≤ w.heap.size)
    {a2 : Option Addr} {m c : Nat} {ys : List Value} (hys : ys.length = m * size) (hsrc : ∀ j v, ys[j]? = some v → ∃ ad, a2 = some ad ∧ w.cell? (ad.add j) = some v) (hnone : a2 = none → c = 0) (hone : ∀ u ∈ ys, u.oneCell' = true) (hn : (n + m) * bytes ≤ 140737488355328) (hm : n + m ≤ maxLen)
    (hs : act.eval s = .slice a n cap) (hx : act.eval x = .slice a2 m c)
    (h : ∀ a' cap' w', w'.ownsRow B e size (.slice a' (n + m) cap') (n + m) (xs ++ ys) → w.grownBy w' (Value.slice a n cap).ownBlock → newBlock w (.slice a n cap) (.slice a' (n + m) cap') → K (act.put o.dst (.slice a' (n + m) cap')) w') :
    o.wp P act w K Q := by
  obtain ⟨i, hi, hz, h1, hb⟩ := info_parts el.inf
  have hp := el.pos
  cases a2 with
  | none =>
    have hy0 : ys = [] := by
      cases ys with
      | nil => rfl
      | cons y t => obtain ⟨ad, hbad, _⟩ := hsrc 0 y (by simp); simp at hbad
    subst hy0
    have hm0 : m = 0 := by
      rcases Nat.mul_eq_zero.1 (by simpa using hys.symm) with h | h
      · exact h
      · omega
    subst hm0
    have hc := hnone rfl
    subst hc
    have hr := run_append_owned_none (P := P) w B t o.type e i size el.und hi _ n xs hown
    unfold Oper.wp execOp
    simp only [ho, resolve, invoke, builtin, Sem.run_bind, Sem.run_pure, Result.andThen_ok, List.map_toArray, List.map_cons, List.map_nil, hs, hx, hr]
    exact (h a cap w (by simpa using hown) ⟨rfl, rfl, rfl, Nat.le_refl _, fun _ _ _ => rfl⟩ (.inl rfl))
  | some ad =>
    have hcell : ∀ j v, ys[j]? = some v → w.cell? (ad.add j) = some v := by
      intro j v hv
      obtain ⟨ad', h3, h4⟩ := hsrc j v hv
      obtain rfl := Option.some.inj h3
      exact h4
    obtain ⟨v', w', hr, h2, h3, h4⟩ := run_app (P := P) w B t o.type e i z size bytes el.und hi hz h1 hb el.sz el.pos _ n xs hown ad m c ys hys hcell hone hm hn hB
    unfold Oper.wp execOp
    simp only [ho, resolve, invoke, builtin, Sem.run_bind, Sem.run_pure, Result.andThen_ok, List.map_toArray, List.map_cons, List.map_nil, hs, hx, hr]
    have hv' : ∃ a' cap', v' = .slice a' (n + m) cap' := by
      rcases h2.2 with ⟨rfl, h0⟩ | ⟨g, cap', cur, rfl, _⟩
      · exact ⟨none, 0, by rw [h0]⟩
      · exact ⟨_, _, rfl⟩
    obtain ⟨a', cap', rfl⟩ := hv'
    exact h a' cap' w' h2 h3 h4

theorem step_appSN {P : Program} {t e : TypeId} {z : Value} {size bytes : Nat} (el : ElemN P t e z size bytes) {w : World} {ops : Array Oper} {o : Oper} {act : Act} {K : Act → World → Prop} {Q : Exit → Act → World → Prop} {E : Prop} (hgd : o.guard = none) (s x : Operand)
    (ho : o.op = .call { callee := .builtin .append, args := #[s, x], argTypes := #[t, t] }) {B : Nat} {a : Option Addr} {n cap : Nat} {xs : List Value} (hown : w.ownsRow B e size (.slice a n cap) n xs) (hB : B ≤ w.heap.size)
    {a2 : Option Addr} {m c : Nat} {ys : List Value} (hys : ys.length = m * size) (hsrc : ∀ j v, ys[j]? = some v → ∃ ad, a2 = some ad ∧ w.cell? (ad.add j) = some v) (hnone : a2 = none → c = 0) (hone : ∀ u ∈ ys, u.oneCell' = true) (hn : (n + m) * bytes ≤ 140737488355328) (hm : n + m ≤ maxLen)
    (hs : act.eval s = .slice a n cap) (hx : act.eval x = .slice a2 m c)
    (h : ∀ a' cap' w', w'.ownsRow B e size (.slice a' (n + m) cap') (n + m) (xs ++ ys) → w.grownBy w' (Value.slice a n cap).ownBlock → newBlock w (.slice a n cap) (.slice a' (n + m) cap') → K (act.put o.dst (.slice a' (n + m) cap')) w') :
    if Region.wanted o (yielded ops act.tmps) = true then Oper.wp P o act w K Q else E := by
  rw [if_pos (by simp [Region.wanted, hgd])]
  exact wp_appSN el s x ho hown hB hys hsrc hnone hone hn hm hs hx h
theorem step_appN {P : Program} {t e : TypeId} {z : Value} {size bytes : Nat} (el : ElemN P t e z size bytes) {w : World} {ops : Array Oper} {o : Oper} {act : Act} {K : Act → World → Prop} {Q : Exit → Act → World → Prop} {E : Prop} (hgd : o.guard = none) (s x : Operand)
    (ho : o.op = .call { callee := .builtin .append, args := #[s, x], argTypes := #[t, t] }) {B : Nat} {a : Option Addr} {n cap : Nat} {xs : List Value} (hown : w.ownsRow B e size (.slice a n cap) n xs) (hB : B ≤ w.heap.size) (hn : (n + 1) * bytes ≤ 140737488355328) (hm : n < 140737488355328) (b : Nat) (cs : List Value) (hcs : cs.length = size)
    (hcell : ∀ j v, cs[j]? = some v → w.cell? ⟨b, j, none⟩ = some v) (hu : ∀ u ∈ cs, u.oneCell' = true)
    (hs : act.eval s = .slice a n cap) (hx : act.eval x = .slice (some ⟨b, 0, none⟩) 1 1)
    (h : ∀ a' cap' w', w'.ownsRow B e size (.slice a' (n + 1) cap') (n + 1) (xs ++ cs) → w.grownBy w' (Value.slice a n cap).ownBlock → newBlock w (.slice a n cap) (.slice a' (n + 1) cap') → K (act.put o.dst (.slice a' (n + 1) cap')) w') :
    if Region.wanted o (yielded ops act.tmps) = true then Oper.wp P o act w K Q else E := by
  rw [if_pos (by simp [Region.wanted, hgd])]
  obtain ⟨i, hi, hz, h1, hb⟩ := info_parts el.inf
  have hcell' : ∀ j v, cs[j]? = some v → w.cell? ((⟨b, 0, none⟩ : Addr).add j) = some v := by
    intro j v hv
    rw [Addr.add_lit, Nat.zero_add]
    exact hcell j v hv
  obtain ⟨v', w', hr, h2, h3, h4⟩ := run_app (P := P) w B t o.type e i z size bytes el.und hi hz h1 hb el.sz el.pos _ n xs hown ⟨b, 0, none⟩ 1 1 cs (by simp [hcs]) hcell' hu (by simp only [maxLen]; omega) hn hB
  unfold Oper.wp execOp
  simp only [ho, resolve, invoke, builtin, Sem.run_bind, Sem.run_pure, Result.andThen_ok, List.map_toArray, List.map_cons, List.map_nil, hs, hx, hr]
  have hv' : ∃ a' cap', v' = .slice a' (n + 1) cap' := by
    rcases h2.2 with ⟨rfl, h0⟩ | ⟨g, cap', cur, rfl, _⟩
    · omega
    · exact ⟨_, _, rfl⟩
  obtain ⟨a', cap', rfl⟩ := hv'
  exact h a' cap' w' h2 h3 h4



theorem Try.elemSpan : ElemN Try.prog 22 24 (.agg #[.int .i32 0, .int .i32 0, .int .u8 0]) 3 12 := ⟨Try.underlying22, by kernel_rfl, by kernel_rfl, by decide⟩
def flatS (l : List SpanD) : List Value := l.flatMap (fun s => [.int .i32 s.f, .int .i32 s.t, .int .u8 s.v])
theorem flatS_length (l : List SpanD) : (flatS l).length = l.length * 3 := by
  induction l with
  | nil => rfl
  | cons s l ih => rw [flatS, List.flatMap_cons, ← flatS, List.length_append, ih, List.length_cons]; simp; omega
theorem flatS_one (l : List SpanD) : ∀ u ∈ flatS l, u.oneCell' = true := fun u hu => by
  obtain ⟨s, -, hs⟩ := List.mem_flatMap.1 hu
  simp at hs
  rcases hs with rfl | rfl | rfl <;> rfl
theorem flatS_snoc (l : List SpanD) (s : SpanD) : flatS (l ++ [s]) = flatS l ++ [.int .i32 s.f, .int .i32 s.t, .int .u8 s.v] := by simp [flatS]
theorem flatS_get : ∀ (l : List SpanD) (i : Nat) (hi : i < l.length), (flatS l)[i * 3]? = some (.int .i32 l[i].f) ∧ (flatS l)[i * 3 + 1]? = some (.int .i32 l[i].t) ∧ (flatS l)[i * 3 + 2]? = some (.int .u8 l[i].v)
  | [], i, hi => absurd hi (by simp)
  | s :: l, 0, _ => by simp [flatS]
  | s :: l, i + 1, hi => by
    have e : flatS (s :: l) = .int .i32 s.f :: .int .i32 s.t :: .int .u8 s.v :: flatS l := rfl
    have h := flatS_get l i (by simpa using hi)
    rw [e, show (i + 1) * 3 = i * 3 + 1 + 1 + 1 by omega]
    simpa using h
theorem SpansAt.src {w : World} {a : Option Addr} {l : List SpanD} (h : SpansAt w a l) : ∀ j v, (flatS l)[j]? = Option.some v → ∃ ad, a = Option.some ad ∧ w.cell? (ad.add j) = Option.some v := by
  intro j v hv
  have hj := (List.getElem?_eq_some_iff.1 hv).1
  rw [flatS_length] at hj
  have hi : j / 3 < l.length := by omega
  obtain ⟨b, o, rfl, h1, h2, h3⟩ := h (j / 3) hi
  obtain ⟨g1, g2, g3⟩ := flatS_get l (j / 3) hi
  refine ⟨_, rfl, ?_⟩
  rw [Addr.add_lit]
  have hc : j = j / 3 * 3 ∨ j = j / 3 * 3 + 1 ∨ j = j / 3 * 3 + 2 := by omega
  rcases hc with e | e | e
  · rw [e, g1] at hv; rw [e]; cases hv; exact h1
  · rw [e, g2] at hv; rw [e]; cases hv; exact h2
  · rw [e, g3] at hv; rw [e]; cases hv; exact h3
theorem spans_of_row {B : Nat} {E : TypeId} {w : World} {a : Option Addr} {n c : Nat} {l : List SpanD} (h : w.ownsRow B E 3 (.slice a n c) n (flatS l)) : SpansAt w a l := by
  intro i hi
  have hln : l.length * 3 = n * 3 := by have := h.1; rw [flatS_length] at this; omega
  rcases h.2 with ⟨-, h0⟩ | ⟨g, cap, cur, e, hb, hg, -⟩
  · omega
  · simp only [Value.slice.injEq] at e
    obtain ⟨rfl, -, rfl⟩ := e
    obtain ⟨g1, g2, g3⟩ := flatS_get l i hi
    refine ⟨g, 0, rfl, ?_, ?_, ?_⟩
    · rw [Nat.zero_add, World.ownsRow.cellAt h (i * 3) (by omega)]; exact g1
    · rw [Nat.zero_add, World.ownsRow.cellAt h (i * 3 + 1) (by omega)]; exact g2
    · rw [Nat.zero_add, World.ownsRow.cellAt h (i * 3 + 2) (by omega)]; exact g3

/-- the spans may be, and go together -/
def okS (l : List SpanD) : Prop := (∀ j, j < l.length → ¬ badS (l.getD j default)) ∧ ∀ j, j < l.length → ¬ meetS l j
def BldI (rest : Int) (l : List SpanD) (tv : Value) (er : Int) (w' : World) : Prop :=
  (er ≠ 0 ∧ ¬ okS l) ∨ (er = 0 ∧ okS l ∧ ∃ g S, tv = .pointer (some ⟨g, 0, none⟩) ∧ Made8 (fS rest l) S ∧ TrieAt val8 114 64 w' g (trieS S))
theorem BldI.below {rest : Int} {l : List SpanD} {tv : Value} {er : Int} {w w' : World} (h : BldI rest l tv er w) (hb : Below w.heap.size w w') : BldI rest l tv er w' := by
  rcases h with h | ⟨h1, h2, g, S, h3, h4, h5⟩
  · exact .inl h
  · exact .inr ⟨h1, h2, g, S, h3, h4, h5.below hb (Nat.le_refl _)⟩
theorem Build8_any (rest : Int) (a : Option Addr) (n c : Nat) (l : List SpanD) (w : World) (hl : l.length = n) (hn : n ≤ 1048576) (hs : SpansAt w a l) (hwf : ∀ s ∈ l, -2147483648 ≤ s.f ∧ s.f ≤ 2147483647 ∧ -2147483648 ≤ s.t ∧ s.t ≤ 2147483647) :
    Calls Try.prog 14 #[.int .u8 rest, .slice a n c] w fun e w' => ∃ tv at_ er, e = .returned (.tuple #[tv, .int .i64 at_, .int .i64 er]) ∧ Below w.heap.size w w' ∧ BldI rest l tv er w' := by
  refine (Build8_walk rest a n c l w hl hn hs hwf).mono ?_
  intro e w' hq
  obtain ⟨hb, hq⟩ := bldQ_of hq
  rcases hq with ⟨i, hi, h1, -, rfl⟩ | ⟨-, k, hk, h1, -, rfl⟩ | ⟨h1, h2, g, S, rfl, -, hS, hT⟩
  · exact ⟨_, _, _, rfl, hb, .inl ⟨by omega, fun h => h.1 i hi h1⟩⟩
  · exact ⟨_, _, _, rfl, hb, .inl ⟨by omega, fun h => h.2 k hk h1⟩⟩
  · exact ⟨_, _, _, rfl, hb, .inr ⟨rfl, ⟨h1, h2⟩, g, S, rfl, hS, hT⟩⟩
theorem okS_nil : okS [] := ⟨fun j hj => by simp at hj, fun j hj => by simp at hj⟩
theorem okS_snoc {l : List SpanD} {x : SpanD} (h : okS (l ++ [x])) : okS l ∧ ¬ badS x ∧ ¬ meetS (l ++ [x]) l.length := by
  refine ⟨⟨fun j hj => ?_, fun j hj hm => ?_⟩, ?_, h.2 l.length (by simp)⟩
  · have := h.1 j (by simp; omega)
    rwa [List.getD_eq_getElem?_getD, List.getElem?_append_left hj, ← List.getD_eq_getElem?_getD] at this
  · refine h.2 j (by simp; omega) ?_
    have e : (l ++ [x]).take l.length = l := by simp
    exact meet_take hj (by rw [e]; exact hm)
  · have := h.1 l.length (by simp)
    simpa [List.getD_eq_getElem?_getD] using this
end Go.Proofs.Ytabbabkmojaoaaa
