/-
  Pieces in memory; a whole list of elements of several cells appended.
-/
import Derived.Test.YtkcdcgijbaepmaaJ1
import Derived.Test.YtkcdcgijbaepmaaBase5
import Derived.Test.YtkcdcgijbaepmaaSO
import Derived.Test.YtkcdcgijbaepmaaProg
set_option linter.unusedVariables false
namespace Go.Proofs.Ytkcdcgijbaepmaa
open Go.RowKit

def cellsP (r : PD) : List Value := [.int .i64 r.f, .int .i64 r.t]
theorem cellsP_length (r : PD) : (cellsP r).length = 2 := rfl
def flatP (rs : List PD) : List Value := rs.flatMap cellsP
theorem flatP_length (rs : List PD) : (flatP rs).length = rs.length * 2 := by
  induction rs with
  | nil => rfl
  | cons x t ih => simp only [flatP, List.flatMap_cons, List.length_append, cellsP_length] at *; rw [ih, List.length_cons]; omega
theorem flatP_append (a b : List PD) : flatP (a ++ b) = flatP a ++ flatP b := by simp [flatP]
theorem flatP_push (rs : List PD) (r : PD) : flatP (rs ++ [r]) = flatP rs ++ [.int .i64 r.f, .int .i64 r.t] := by simp [flatP, cellsP]
theorem flatP_get (rs : List PD) (i : Nat) (hi : i < rs.length) : (flatP rs)[i * 2]? = some (.int .i64 rs[i].f) ∧ (flatP rs)[i * 2 + 1]? = some (.int .i64 rs[i].t) := by
  induction rs generalizing i with
  | nil => simp at hi
  | cons x t ih =>
    have e : flatP (x :: t) = cellsP x ++ flatP t := by simp [flatP]
    rw [e]
    cases i with
    | zero => simp [cellsP]
    | succ i =>
      have hi' : i < t.length := by simpa using hi
      have h := ih i hi'
      have hl : (cellsP x).length = 2 := rfl
      refine ⟨?_, ?_⟩
      · rw [List.getElem?_append_right (by omega), hl, show (i + 1) * 2 - 2 = i * 2 by omega]; exact h.1
      · rw [List.getElem?_append_right (by omega), hl, show (i + 1) * 2 + 1 - 2 = i * 2 + 1 by omega]; exact h.2
theorem flatP_set (rs : List PD) (r : PD) (t : Int) : (flatP (rs ++ [r])).set (rs.length * 2 + 1) (.int .i64 t) = flatP (rs ++ [⟨r.f, t⟩]) := by
  rw [flatP_push, flatP_push, List.set_append_right _ _ (by rw [flatP_length]; omega), flatP_length, show rs.length * 2 + 1 - rs.length * 2 = 1 by omega]
  rfl
theorem flatP_set2 (rs : List PD) (i : Nat) (hi : i < rs.length) (r : PD) : ((flatP rs).set (i * 2) (.int .i64 r.f)).set (i * 2 + 1) (.int .i64 r.t) = flatP (rs.set i r) := by
  induction rs generalizing i with
  | nil => simp at hi
  | cons x t ih =>
    have e : ∀ (x : PD) (t : List PD), flatP (x :: t) = .int .i64 x.f :: .int .i64 x.t :: flatP t := fun x t => by simp [flatP, cellsP]
    cases i with
    | zero => simp [e]
    | succ i =>
      have hi' : i < t.length := by simpa using hi
      rw [e, List.set_cons_succ, e, ← ih i hi', show (i + 1) * 2 = i * 2 + 1 + 1 by omega]
      simp only [List.set_cons_succ]
theorem flatP_one (rs : List PD) : ∀ u ∈ flatP rs, u.oneCell' = true := by
  intro u hu
  obtain ⟨r, _, h⟩ := List.mem_flatMap.1 hu
  simp [cellsP] at h
  rcases h with rfl | rfl <;> rfl

theorem Try.elemPiece : ElemN Try.prog 22 45 (.agg #[.int .i64 0, .int .i64 0]) 2 16 := ⟨Try.underlying22, by kernel_rfl, by kernel_rfl, by decide⟩
def OwnP (B : Nat) (w : World) (a : Option Addr) (n c : Nat) (rs : List PD) : Prop := w.ownsRow B 45 2 (.slice a n c) n (flatP rs)
theorem OwnP.len {B : Nat} {w : World} {a : Option Addr} {n c : Nat} {rs : List PD} (h : OwnP B w a n c rs) : rs.length = n := by
  have := h.1
  rw [flatP_length] at this
  omega
/-- in w the slice that begins at a reads as these pieces -/
def PiecesAt (w : World) (a : Option Addr) (rs : List PD) : Prop :=
  ∀ i (h : i < rs.length), ∃ b o, a = some ⟨b, o, none⟩ ∧ w.cell? ⟨b, o + i * 2, none⟩ = some (.int .i64 rs[i].f) ∧ w.cell? ⟨b, o + i * 2 + 1, none⟩ = some (.int .i64 rs[i].t)
theorem PiecesAt.nil (w : World) (a : Option Addr) : PiecesAt w a [] := fun i h => absurd h (by simp)
theorem PiecesAt.get {w : World} {b o : Nat} {rs : List PD} (h : PiecesAt w (some ⟨b, o, none⟩) rs) (i : Nat) (hi : i < rs.length) :
    w.cell? ⟨b, o + i * 2, none⟩ = some (.int .i64 rs[i].f) ∧ w.cell? ⟨b, o + i * 2 + 1, none⟩ = some (.int .i64 rs[i].t) := by
  obtain ⟨b', o', e, hc⟩ := h i hi
  simp only [Option.some.injEq, Addr.mk.injEq, and_true] at e
  obtain ⟨rfl, rfl⟩ := e
  exact hc
theorem PiecesAt.some {w : World} {a : Option Addr} {rs : List PD} (h : PiecesAt w a rs) (hn : 0 < rs.length) : ∃ b o, a = Option.some ⟨b, o, none⟩ := by
  obtain ⟨b, o, e, _⟩ := h 0 hn
  exact ⟨b, o, e⟩
theorem PiecesAt.below {w w' : World} {B : Nat} {a : Option Addr} {rs : List PD} (h : PiecesAt w a rs) (hb : Below B w w') (hB : w.heap.size ≤ B) : PiecesAt w' a rs := by
  intro i hi
  obtain ⟨b, o, rfl, h1, h2⟩ := h i hi
  have hl : b < B := Nat.lt_of_lt_of_le (World.block_lt_of_cell? w _ h1) hB
  exact ⟨b, o, rfl, by rw [hb.cell (p := ⟨b, o + i * 2, none⟩) hl]; exact h1, by rw [hb.cell (p := ⟨b, o + i * 2 + 1, none⟩) hl]; exact h2⟩
theorem OwnP.at {B : Nat} {w : World} {a : Option Addr} {n c : Nat} {rs : List PD} (h : OwnP B w a n c rs) (hn : 0 < n) : ∃ g, a = some ⟨g, 0, none⟩ ∧ B ≤ g ∧ g < w.heap.size ∧ n ≤ c ∧ c ≤ maxLen := by
  rcases h.2 with ⟨_, h0⟩ | ⟨g, cap', cur, e, hb, hg, hnc, hcm, _⟩
  · omega
  · simp only [Value.slice.injEq] at e
    obtain ⟨rfl, _, rfl⟩ := e
    exact ⟨g, rfl, hb, (Array.getElem?_eq_some_iff.1 hg).1, hnc, hcm⟩
theorem OwnP.pieces {B : Nat} {w : World} {a : Option Addr} {n c : Nat} {rs : List PD} (h : OwnP B w a n c rs) : PiecesAt w a rs := by
  intro i hi
  have hl := h.len
  obtain ⟨g, rfl, _⟩ := h.at (by omega)
  obtain ⟨h1, h2⟩ := flatP_get rs i hi
  refine ⟨g, 0, rfl, ?_, ?_⟩
  · rw [Nat.zero_add, World.ownsRow.cellAt h (i * 2) (by omega)]; exact h1
  · rw [Nat.zero_add, World.ownsRow.cellAt h (i * 2 + 1) (by omega)]; exact h2
theorem OwnP.below {B B' : Nat} {w w' : World} {a : Option Addr} {n c : Nat} {rs : List PD} (h : OwnP B w a n c rs) (hb : Below B' w w') (hB : w.heap.size ≤ B') : OwnP B w' a n c rs := by
  refine ⟨h.1, ?_⟩
  rcases h.2 with hn | ⟨g, cap, cur, e, hbg, hgg, rest⟩
  · exact .inl hn
  · exact .inr ⟨g, cap, cur, e, hbg, by rw [hb.block g (by have := (Array.getElem?_eq_some_iff.1 hgg).1; omega)]; exact hgg, rest⟩
theorem OwnP.mono {B B' : Nat} {w : World} {a : Option Addr} {n c : Nat} {rs : List PD} (h : OwnP B w a n c rs) (hB : B' ≤ B) : OwnP B' w a n c rs := by
  refine ⟨h.1, ?_⟩
  rcases h.2 with hn | ⟨g, cap, cur, e, hbg, rest⟩
  · exact .inl hn
  · exact .inr ⟨g, cap, cur, e, by omega, rest⟩
theorem OwnP.nil (B : Nat) (w : World) : OwnP B w none 0 0 [] := World.ownsRow_nil w B _ 2
theorem OwnP.blk {B : Nat} {w : World} {a : Option Addr} {n c : Nat} {rs : List PD} (h : OwnP B w a n c rs) : ∀ k, (Value.slice a n c).ownBlock = some k → B ≤ k := fun k hk => (World.ownsRow.lt h k hk).1
theorem OwnP.app {B : Nat} {w w' : World} {a : Option Addr} {n c : Nat} {rs : List PD} (h : OwnP B w a n c rs) (hg : w.grownBy w' (Value.slice a n c).ownBlock) (hB : B ≤ w.heap.size) : Below B w w' := Below.ofGrown hg hB h.blk
theorem OwnP.store {B : Nat} {w : World} {g n c : Nat} {rs : List PD} (h : OwnP B w (some ⟨g, 0, none⟩) n c rs) (i : Nat) (hi : i < rs.length) (r : PD) : OwnP B (w.setCells g (i * 2) (cellsP r)) (some ⟨g, 0, none⟩) n c (rs.set i r) := by
  unfold OwnP
  rw [← flatP_set2 rs i hi r]
  have h1 := (World.ownsRow.stored h (i * 2) (.int .i64 r.f)).1
  exact (World.ownsRow.stored h1 (i * 2 + 1) (.int .i64 r.t)).1
theorem OwnP.there {B : Nat} {w : World} {g n c : Nat} {rs : List PD} (h : OwnP B w (some ⟨g, 0, none⟩) n c rs) (i : Nat) (hi : i < n) : w.there g (i * 2) 2 := Any.there ⟨_, h⟩ i hi
/-- the same row, cut behind its first elements -/
theorem OwnP.cut {B : Nat} {w : World} {g n c : Nat} {rs : List PD} (h : OwnP B w (some ⟨g, 0, none⟩) n c rs) (k : Nat) (hk : k ≤ n) : OwnP B w (some ⟨g, 0, none⟩) k c (rs.take k) := by
  have hl := h.len
  refine ⟨by rw [flatP_length, List.length_take]; omega, ?_⟩
  rcases h.2 with ⟨e, _⟩ | ⟨g', cap, cur, e, hbg, hgg, hnc, hcm, hcs, htake⟩
  · simp at e
  · simp only [Value.slice.injEq, Option.some.injEq, Addr.mk.injEq, and_true, true_and] at e
    obtain ⟨rfl, rfl⟩ := e
    refine .inr ⟨g, c, cur, rfl, hbg, hgg, by omega, hcm, hcs, ?_⟩
    have e2 : cur.toList.take (k * 2) = (cur.toList.take (n * 2)).take (k * 2) := by rw [List.take_take, Nat.min_eq_left (by omega)]
    rw [e2, htake]
    have e3 : flatP rs = flatP (rs.take k) ++ flatP (rs.drop k) := by rw [← flatP_append, List.take_append_drop]
    rw [e3, List.take_left' (by rw [flatP_length, List.length_take]; omega)]

/-! ### a whole list appended -/
theorem wp_appSN {P : Program} {t e : TypeId} {z : Value} {size bytes : Nat} (el : ElemN P t e z size bytes) {w : World} {o : Oper} {act : Act} {K : Act → World → Prop} {Q : Exit → Act → World → Prop} (s x : Operand)
    (ho : o.op = .call { callee := .builtin .append, args := #[s, x], argTypes := #[t, t] }) {B : Nat} {a : Option Addr} {n cap : Nat} {xs : List Value} (hown : w.ownsRow B e size (.slice a n cap) n xs) (hB : B ≤ w.heap.size)
    {a2 : Option Addr} {m c : Nat} {ys : List Value} (hys : ys.length = m * size) (hsrc : ∀ j v, ys[j]? = some v → ∃ ad, a2 = some ad ∧ w.cell? (ad.add j) = some v) (hnone : a2 = none → c = 0) (hone : ∀ u ∈ ys, u.oneCell' = true) (hn : (n + m) * bytes ≤ 140737488355328) (hm : n + m ≤ maxLen)
    (hs : act.eval s = .slice a n cap) (hx : act.eval x = .slice a2 m c)
    (h : ∀ a' cap' w', w'.ownsRow B e size (.slice a' (n + m) cap') (n + m) (xs ++ ys) → w.grownBy w' (Value.slice a n cap).ownBlock → newBlock w (.slice a n cap) (.slice a' (n + m) cap') → K (act.put o.dst (.slice a' (n + m) cap')) w') :
    o.wp P act w K Q := by
  obtain ⟨i, hi, hz, h1, hb⟩ := info_parts el.inf
  have hp := el.pos
  cases a2 with
  | none =>
    have hy0 : ys = [] := by
      cases ys with
      | nil => rfl
      | cons y t => obtain ⟨ad, hbad, _⟩ := hsrc 0 y (by simp); simp at hbad
    subst hy0
    have hm0 : m = 0 := by
      rcases Nat.mul_eq_zero.1 (by simpa using hys.symm) with h | h
      · exact h
      · omega
    subst hm0
    have hc := hnone rfl
    subst hc
    have hr := run_append_owned_none (P := P) w B t o.type e i size el.und hi _ n xs hown
    unfold Oper.wp execOp
    simp only [ho, resolve, invoke, builtin, Sem.run_bind, Sem.run_pure, Result.andThen_ok, List.map_toArray, List.map_cons, List.map_nil, hs, hx, hr]
    exact (h a cap w (by simpa using hown) ⟨rfl, rfl, rfl, Nat.le_refl _, fun _ _ _ => rfl⟩ (.inl rfl))
  | some ad =>
    have hcell : ∀ j v, ys[j]? = some v → w.cell? (ad.add j) = some v := by
      intro j v hv
      obtain ⟨ad', h3, h4⟩ := hsrc j v hv
      obtain rfl := Option.some.inj h3
      exact h4
    obtain ⟨v', w', hr, h2, h3, h4⟩ := run_app (P := P) w B t o.type e i z size bytes el.und hi hz h1 hb el.sz el.pos _ n xs hown ad m c ys hys hcell hone hm hn hB
    unfold Oper.wp execOp
    simp only [ho, resolve, invoke, builtin, Sem.run_bind, Sem.run_pure, Result.andThen_ok, List.map_toArray, List.map_cons, List.map_nil, hs, hx, hr]
    have hv' : ∃ a' cap', v' = .slice a' (n + m) cap' := by
      rcases h2.2 with ⟨rfl, h0⟩ | ⟨g, cap', cur, rfl, _⟩
      · exact ⟨none, 0, by rw [h0]⟩
      · exact ⟨_, _, rfl⟩
    obtain ⟨a', cap', rfl⟩ := hv'
    exact h a' cap' w' h2 h3 h4
theorem wpList_appSN {P : Program} {t e : TypeId} {z : Value} {size bytes : Nat} (el : ElemN P t e z size bytes) {w : World} {ops : Array Oper} {rest : List Oper} {o : Oper} {act : Act} {Q : Exit → Act → World → Prop} (hgd : o.guard = none) (s x : Operand)
    (ho : o.op = .call { callee := .builtin .append, args := #[s, x], argTypes := #[t, t] }) {B : Nat} {a : Option Addr} {n cap : Nat} {xs : List Value} (hown : w.ownsRow B e size (.slice a n cap) n xs) (hB : B ≤ w.heap.size)
    {a2 : Option Addr} {m c : Nat} {ys : List Value} (hys : ys.length = m * size) (hsrc : ∀ j v, ys[j]? = some v → ∃ ad, a2 = some ad ∧ w.cell? (ad.add j) = some v) (hnone : a2 = none → c = 0) (hone : ∀ u ∈ ys, u.oneCell' = true) (hn : (n + m) * bytes ≤ 140737488355328) (hm : n + m ≤ maxLen)
    (hs : act.eval s = .slice a n cap) (hx : act.eval x = .slice a2 m c)
    (h : ∀ a' cap' w', w'.ownsRow B e size (.slice a' (n + m) cap') (n + m) (xs ++ ys) → w.grownBy w' (Value.slice a n cap).ownBlock → newBlock w (.slice a n cap) (.slice a' (n + m) cap') → wpList P ops Q rest (act.put o.dst (.slice a' (n + m) cap')) w') :
    wpList P ops Q (o :: rest) act w :=
  wpList_plain hgd fun _ hK => wp_appSN el s x ho hown hB hys hsrc hnone hone hn hm hs hx fun a' cap' w' h2 h3 h4 => hK _ _ (h a' cap' w' h2 h3 h4)
theorem PiecesAt.src {w : World} {a : Option Addr} {rs : List PD} (h : PiecesAt w a rs) : ∀ j v, (flatP rs)[j]? = Option.some v → ∃ ad, a = Option.some ad ∧ w.cell? (ad.add j) = Option.some v := by
  intro j v hv
  have hj : j < rs.length * 2 := by
    have := (List.getElem?_eq_some_iff.1 hv).1
    rwa [flatP_length] at this
  have hi : j / 2 < rs.length := by omega
  obtain ⟨b, o, e, c0, c1⟩ := h (j / 2) hi
  obtain ⟨f0, f1⟩ := flatP_get rs (j / 2) hi
  refine ⟨_, e, ?_⟩
  rw [Addr.add_lit]
  rcases Nat.mod_two_eq_zero_or_one j with hm | hm
  · have ej : j / 2 * 2 = j := by omega
    rw [ej] at c0 f0
    rw [c0, ← f0, hv]
  · have ej : j / 2 * 2 + 1 = j := by omega
    rw [ej] at f1
    rw [Nat.add_assoc, ej] at c1
    rw [c1, ← f1, hv]
end Go.Proofs.Ytkcdcgijbaepmaa
