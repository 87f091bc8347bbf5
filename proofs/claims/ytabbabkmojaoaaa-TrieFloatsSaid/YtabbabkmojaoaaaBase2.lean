/-
  Small laws over the model alone: one slice appended to a row of the call's own.
-/
import Derived.Test.YtabbabkmojaoaaaBase
set_option linter.unusedVariables false
namespace Go.Proofs.Ytabbabkmojaoaaa
open Go.RowKit

/-- in w the slice that begins at a reads as xs, a cell an element -/
def Vals (w : World) (a : Option Addr) (xs : List Value) : Prop :=
  ∀ i (h : i < xs.length), ∃ b o, a = some ⟨b, o, none⟩ ∧ w.cell? ⟨b, o + i, none⟩ = some xs[i]

theorem Ints.vals {k : IntKind} {w : World} {a : Option Addr} {zs : List Int} (h : Ints k w a zs) : Vals w a (ivs k zs) := by
  intro i hi
  have hi' : i < zs.length := by simpa [ivs] using hi
  obtain ⟨b, o, h1, h2⟩ := h i hi'
  exact ⟨b, o, h1, by rw [h2]; simp [ivs]⟩
theorem ivs_one (k : IntKind) (zs : List Int) : ∀ u ∈ ivs k zs, u.oneCell' = true := by
  intro u hu
  obtain ⟨_, _, rfl⟩ := List.mem_map.1 hu
  rfl

theorem wp_appS {P : Program} {t e : TypeId} {z : Value} {bytes : Nat} (el : Elem P t e z bytes) {w : World} {o : Oper} {act : Act} {K : Act → World → Prop} {Q : Exit → Act → World → Prop} (s x : Operand)
    (ho : o.op = .call { callee := .builtin .append, args := #[s, x], argTypes := #[t, t] }) {B : Nat} {a : Option Addr} {n cap : Nat} {xs : List Value} (hown : Own B e w a n cap xs) (hB : B ≤ w.heap.size)
    {a2 : Option Addr} {m c : Nat} {ys : List Value} (hys : ys.length = m) (hsrc : Vals w a2 ys) (hnone : a2 = none → c = 0) (hone : ∀ u ∈ ys, u.oneCell' = true) (hn : (n + m) * bytes ≤ 140737488355328) (hm : n + m ≤ maxLen)
    (hs : act.eval s = .slice a n cap) (hx : act.eval x = .slice a2 m c)
    (h : ∀ a' cap' w', Own B e w' a' (n + m) cap' (xs ++ ys) → w.grownBy w' (Value.slice a n cap).ownBlock → newBlock w (.slice a n cap) (.slice a' (n + m) cap') → K (act.put o.dst (.slice a' (n + m) cap')) w') :
    o.wp P act w K Q := by
  obtain ⟨i, hi, hz, h1, hb⟩ := info_parts el.inf
  cases a2 with
  | none =>
    have hy0 : ys = [] := by
      cases ys with
      | nil => rfl
      | cons y t => obtain ⟨b, o, hbad, _⟩ := hsrc 0 (by simp); simp at hbad
    subst hy0
    have hm0 : m = 0 := by simpa using hys.symm
    subst hm0
    have hc := hnone rfl
    subst hc
    have hr := run_append_owned_none (P := P) w B t o.type e i 1 el.und hi _ n xs hown
    unfold Oper.wp execOp
    simp only [ho, resolve, invoke, builtin, Sem.run_bind, Sem.run_pure, Result.andThen_ok, List.map_toArray, List.map_cons, List.map_nil, hs, hx, hr]
    exact (h a cap w (by simpa using hown) ⟨rfl, rfl, rfl, Nat.le_refl _, fun _ _ _ => rfl⟩ (.inl rfl))
  | some ad =>
    have hcell : ∀ j v, ys[j]? = some v → w.cell? (ad.add j) = some v := by
      intro j v hv
      obtain ⟨hj, hv2⟩ := List.getElem?_eq_some_iff.1 hv
      obtain ⟨b, o, h3, h4⟩ := hsrc j hj
      obtain rfl := Option.some.inj h3
      rw [Addr.add_lit, h4, hv2]
    obtain ⟨v', w', hr, h2, h3, h4⟩ := run_app (P := P) w B t o.type e i z 1 bytes el.und hi hz h1 hb el.one (by decide) _ n xs hown ad m c ys (by simpa using hys) hcell hone hm hn hB
    unfold Oper.wp execOp
    simp only [ho, resolve, invoke, builtin, Sem.run_bind, Sem.run_pure, Result.andThen_ok, List.map_toArray, List.map_cons, List.map_nil, hs, hx, hr]
    have hv' : ∃ a' cap', v' = .slice a' (n + m) cap' := by
      rcases h2.2 with ⟨rfl, h0⟩ | ⟨g, cap', cur, rfl, _⟩
      · exact ⟨none, 0, by rw [h0]⟩
      · exact ⟨_, _, rfl⟩
    obtain ⟨a', cap', rfl⟩ := hv'
    exact h a' cap' w' h2 h3 h4

theorem wpList_appS {P : Program} {t e : TypeId} {z : Value} {bytes : Nat} (el : Elem P t e z bytes) {w : World} {ops : Array Oper} {rest : List Oper} {o : Oper} {act : Act} {Q : Exit → Act → World → Prop} (hgd : o.guard = none) (s x : Operand)
    (ho : o.op = .call { callee := .builtin .append, args := #[s, x], argTypes := #[t, t] }) {B : Nat} {a : Option Addr} {n cap : Nat} {xs : List Value} (hown : Own B e w a n cap xs) (hB : B ≤ w.heap.size)
    {a2 : Option Addr} {m c : Nat} {ys : List Value} (hys : ys.length = m) (hsrc : Vals w a2 ys) (hnone : a2 = none → c = 0) (hone : ∀ u ∈ ys, u.oneCell' = true) (hn : (n + m) * bytes ≤ 140737488355328) (hm : n + m ≤ maxLen)
    (hs : act.eval s = .slice a n cap) (hx : act.eval x = .slice a2 m c)
    (h : ∀ a' cap' w', Own B e w' a' (n + m) cap' (xs ++ ys) → w.grownBy w' (Value.slice a n cap).ownBlock → newBlock w (.slice a n cap) (.slice a' (n + m) cap') → wpList P ops Q rest (act.put o.dst (.slice a' (n + m) cap')) w') :
    wpList P ops Q (o :: rest) act w :=
  wpList_plain hgd fun _ hK => wp_appS el s x ho hown hB hys hsrc hnone hone hn hm hs hx fun a' cap' w' h2 h3 h4 => hK _ _ (h a' cap' w' h2 h3 h4)

/-- the same as one step of a region that draws its order -/
theorem step_appS {P : Program} {t e : TypeId} {z : Value} {bytes : Nat} (el : Elem P t e z bytes) {w : World} {ops : Array Oper} {o : Oper} {act : Act} {K : Act → World → Prop} {Q : Exit → Act → World → Prop} {E : Prop} (hgd : o.guard = none) (s x : Operand)
    (ho : o.op = .call { callee := .builtin .append, args := #[s, x], argTypes := #[t, t] }) {B : Nat} {a : Option Addr} {n cap : Nat} {xs : List Value} (hown : Own B e w a n cap xs) (hB : B ≤ w.heap.size)
    {a2 : Option Addr} {m c : Nat} {ys : List Value} (hys : ys.length = m) (hsrc : Vals w a2 ys) (hnone : a2 = none → c = 0) (hone : ∀ u ∈ ys, u.oneCell' = true) (hn : (n + m) * bytes ≤ 140737488355328) (hm : n + m ≤ maxLen)
    (hs : act.eval s = .slice a n cap) (hx : act.eval x = .slice a2 m c)
    (h : ∀ a' cap' w', Own B e w' a' (n + m) cap' (xs ++ ys) → w.grownBy w' (Value.slice a n cap).ownBlock → newBlock w (.slice a n cap) (.slice a' (n + m) cap') → K (act.put o.dst (.slice a' (n + m) cap')) w') :
    if Region.wanted o (yielded ops act.tmps) = true then Oper.wp P o act w K Q else E := by
  rw [if_pos (by simp [Region.wanted, hgd])]
  exact wp_appS el s x ho hown hB hys hsrc hnone hone hn hm hs hx h
end Go.Proofs.Ytabbabkmojaoaaa
