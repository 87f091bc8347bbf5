/-
  Small laws over the model alone (no program): slices that read as lists of numbers, slices that the call owns, appends of one element, stores.
-/
import Derived.WalkKit
import Derived.WalkSpells
import Derived.WalkLawsBesides
import Derived.Lib.Hide
import Derived.Handy
import Derived.WalkSmall
namespace Go.Proofs.Ytabbabkmojaoaaa
open Go.RowKit

/-- in w the slice that begins at a reads as the numbers zs of kind k -/
def Ints (k : IntKind) (w : World) (a : Option Addr) (zs : List Int) : Prop :=
  ∀ i (h : i < zs.length), ∃ b o, a = some ⟨b, o, none⟩ ∧ w.cell? ⟨b, o + i, none⟩ = some (.int k zs[i])

/-- a row of one-cell elements that the call itself has made, from block B on -/
def Own (B : Nat) (E : TypeId) (w : World) (a : Option Addr) (n cap : Nat) (xs : List Value) : Prop :=
  w.ownsRow B E 1 (.slice a n cap) n xs

def ivs (k : IntKind) (zs : List Int) : List Value := zs.map (.int k)

theorem ivs_length (k : IntKind) (zs : List Int) : (ivs k zs).length = zs.length := by simp [ivs]
theorem ivs_append (k : IntKind) (a b : List Int) : ivs k (a ++ b) = ivs k a ++ ivs k b := by simp [ivs]
theorem ivs_set (k : IntKind) (a : List Int) (i : Nat) (x : Int) : (ivs k a).set i (.int k x) = ivs k (a.set i x) := by simp [ivs, List.map_set]
theorem ivs_replicate (k : IntKind) (n : Nat) (x : Int) : List.replicate n (Value.int k x) = ivs k (List.replicate n x) := by simp [ivs]

theorem Ints.nil (k : IntKind) (w : World) (a : Option Addr) : Ints k w a [] := fun i h => absurd h (by simp)

theorem Ints.get {k : IntKind} {w : World} {b o : Nat} {zs : List Int} (h : Ints k w (some ⟨b, o, none⟩) zs) (i : Nat) (hi : i < zs.length) :
    w.cell? ⟨b, o + i, none⟩ = some (.int k zs[i]) := by
  obtain ⟨b', o', e, hc⟩ := h i hi
  simp only [Option.some.injEq, Addr.mk.injEq, and_true] at e
  obtain ⟨rfl, rfl⟩ := e
  exact hc

theorem Ints.some {k : IntKind} {w : World} {a : Option Addr} {zs : List Int} (h : Ints k w a zs) (hn : 0 < zs.length) : ∃ b o, a = .some ⟨b, o, none⟩ := by
  obtain ⟨b, o, e, _⟩ := h 0 hn
  exact ⟨b, o, e⟩

theorem Ints.below {k : IntKind} {w w' : World} {B : Nat} {a : Option Addr} {zs : List Int} (h : Ints k w a zs) (hb : Below B w w') (hB : w.heap.size ≤ B) : Ints k w' a zs := by
  intro i hi
  obtain ⟨b, o, rfl, hc⟩ := h i hi
  have hl := World.block_lt_of_cell? w _ hc
  exact ⟨b, o, rfl, by rw [hb.cell (p := ⟨b, o + i, none⟩) (by simp at hl ⊢; omega)]; exact hc⟩

theorem Own.nil (B : Nat) (E : TypeId) (w : World) : Own B E w none 0 0 [] := World.ownsRow_nil w B E 1

theorem Own.len {B : Nat} {E : TypeId} {w : World} {a : Option Addr} {n cap : Nat} {xs : List Value} (h : Own B E w a n cap xs) : xs.length = n := by simpa using h.1

theorem Own.lenI {B : Nat} {E : TypeId} {w : World} {a : Option Addr} {n cap : Nat} {k : IntKind} {zs : List Int} (h : Own B E w a n cap (ivs k zs)) : zs.length = n := by
  simpa [ivs] using h.len

/-- an owned row that is not empty stands at the head of a block -/
theorem Own.at {B : Nat} {E : TypeId} {w : World} {a : Option Addr} {n cap : Nat} {xs : List Value} (h : Own B E w a n cap xs) (hn : 0 < n) :
    ∃ g, a = some ⟨g, 0, none⟩ ∧ B ≤ g ∧ g < w.heap.size ∧ n ≤ cap ∧ cap ≤ maxLen := by
  rcases h.2 with ⟨_, h0⟩ | ⟨g, cap', cur, e, hb, hg, hnc, hcm, _⟩
  · omega
  · simp only [Value.slice.injEq] at e
    obtain ⟨rfl, _, rfl⟩ := e
    exact ⟨g, rfl, hb, (Array.getElem?_eq_some_iff.1 hg).1, hnc, hcm⟩

theorem Own.cell {B : Nat} {E : TypeId} {w : World} {g n cap : Nat} {xs : List Value} (h : Own B E w (some ⟨g, 0, none⟩) n cap xs) (i : Nat) (hi : i < xs.length) :
    w.cell? ⟨g, i, none⟩ = some xs[i] := by
  have hl := h.len
  rw [World.ownsRow.cellAt h i (by omega)]
  simp [hi]

theorem Own.cap {B : Nat} {E : TypeId} {w : World} {a : Option Addr} {n cap : Nat} {xs : List Value} (h : Own B E w a n cap xs) : n ≤ cap ∧ cap ≤ maxLen := by
  rcases h.2 with ⟨e, h0⟩ | ⟨g, cap', cur, e, hb, hg, hnc, hcm, _⟩
  · simp at e; obtain ⟨_, rfl, rfl⟩ := e; exact ⟨Nat.le_refl _, Nat.zero_le _⟩
  · simp only [Value.slice.injEq] at e
    obtain ⟨rfl, _, rfl⟩ := e
    exact ⟨hnc, hcm⟩

theorem Own.ints {B : Nat} {E : TypeId} {w : World} {a : Option Addr} {n cap : Nat} {k : IntKind} {zs : List Int} (h : Own B E w a n cap (ivs k zs)) : Ints k w a zs := by
  intro i hi
  have hl := h.lenI
  obtain ⟨g, rfl, _⟩ := h.at (by omega)
  refine ⟨g, 0, rfl, ?_⟩
  have := h.cell i (by simpa [ivs] using hi)
  simpa [ivs] using this

theorem Own.below {B B' : Nat} {E : TypeId} {w w' : World} {a : Option Addr} {n cap : Nat} {xs : List Value} (h : Own B E w a n cap xs) (hb : Below B' w w') (hB : w.heap.size ≤ B') : Own B E w' a n cap xs := by
  refine ⟨h.1, ?_⟩
  rcases h.2 with hn | ⟨g, cap, cur, e, hbg, hgg, rest⟩
  · exact .inl hn
  · exact .inr ⟨g, cap, cur, e, hbg, by rw [hb.block g (by have := (Array.getElem?_eq_some_iff.1 hgg).1; omega)]; exact hgg, rest⟩

theorem Own.grown {B : Nat} {E : TypeId} {w w' : World} {a : Option Addr} {n cap : Nat} {xs : List Value} {row : Option Nat} (h : Own B E w a n cap xs) (hg : w.grownBy w' row) (hne : (Value.slice a n cap).ownBlock = none ∨ (Value.slice a n cap).ownBlock ≠ row) : Own B E w' a n cap xs :=
  World.ownsRow.kept h hg hne

theorem Own.mono {B B' : Nat} {E : TypeId} {w : World} {a : Option Addr} {n cap : Nat} {xs : List Value} (h : Own B E w a n cap xs) (hB : B' ≤ B) : Own B' E w a n cap xs := by
  refine ⟨h.1, ?_⟩
  rcases h.2 with hn | ⟨g, cap, cur, e, hbg, rest⟩
  · exact .inl hn
  · exact .inr ⟨g, cap, cur, e, by omega, rest⟩

theorem Own.store {B : Nat} {E : TypeId} {w : World} {g n cap : Nat} {xs : List Value} (h : Own B E w (some ⟨g, 0, none⟩) n cap xs) (j : Nat) (u : Value) :
    Own B E (w.setCell ⟨g, j, none⟩ u) (some ⟨g, 0, none⟩) n cap (xs.set j u) := (World.ownsRow.stored h j u).1

theorem Own.unfrozen {B : Nat} {E : TypeId} {w : World} {g n cap : Nat} {xs : List Value} (h : Own B E w (some ⟨g, 0, none⟩) n cap xs) (j : Nat) :
    w.frozen? ⟨g, j, none⟩ = false := World.ownsRow.frozenAt h j

/-- an element's type: one cell, its zero, its bytes -/
structure Elem (P : Program) (t e : TypeId) (z : Value) (bytes : Nat) : Prop where
  und : P.underlying t = some (.slice e)
  inf : (P.info? e).map (fun i => (i.zero, i.size, i.bytes)) = some (some z, 1, bytes)
  one : z.cells.size = 1

/-- append of one element, just laid in a block of its own, onto a row of the call's own -/
theorem wpList_app1 {P : Program} {t e : TypeId} {z : Value} {bytes : Nat} (el : Elem P t e z bytes) {w : World} {ops : Array Oper} {rest : List Oper} {o : Oper} {act : Act} {Q : Exit → Act → World → Prop} (hgd : o.guard = none) (s x : Operand)
    (ho : o.op = .call { callee := .builtin .append, args := #[s, x], argTypes := #[t, t] }) {B : Nat} {a : Option Addr} {n cap : Nat} {xs : List Value} (hown : Own B e w a n cap xs) (hB : B ≤ w.heap.size) (hn : (n + 1) * bytes ≤ 140737488355328) (hm : n < 140737488355328) (u : Value) (hu : u.oneCell' = true) (e' : TypeId)
    (hs : act.eval s = .slice a n cap) (hx : act.eval x = .slice (some ⟨w.heap.size, 0, none⟩) 1 1)
    (h : ∀ a' cap' w', Own B e w' a' (n + 1) cap' (xs ++ [u]) → w.grownBy w' (Value.slice a n cap).ownBlock → wpList P ops Q rest (act.put o.dst (.slice a' (n + 1) cap')) w') :
    wpList P ops Q (o :: rest) act (w.alloc (.cells #[u] e')) := by
  obtain ⟨i, hi, hz, h1, hb⟩ := info_parts el.inf
  refine wpList_append_own (w.alloc (.cells #[u] e')) hgd s x t ho B e i z 1 bytes el.und hi hz h1 hb el.one (by decide) _ n xs hs (hown.alloc _) ⟨w.heap.size, 0, none⟩ 1 1 [u] hx rfl ?_ ?_ ?_ hn (by simp; omega) ?_
  · intro j v hv
    have hj : j = 0 := by
      have := (List.getElem?_eq_some_iff.1 hv).1
      simp at this; exact this
    subst hj
    simp at hv; subst hv
    rw [show ((⟨w.heap.size, 0, none⟩ : Addr).add 0) = ⟨w.heap.size, 0, none⟩ from by simp [Addr.add]]
    rw [cell_of_row (w.alloc (.cells #[u] e')) w.heap.size 0 #[u] e' (0, 0) (heap_alloc_new w _)]
    rfl
  · intro v hv; simp at hv; subst hv; exact hu
  · simp only [maxLen]; omega
  · intro v' w' h2 h3 _
    have hv' : ∃ a' cap', v' = .slice a' (n + 1) cap' := by
      rcases h2.2 with ⟨rfl, h0⟩ | ⟨g, cap', cur, rfl, _⟩
      · omega
      · exact ⟨_, _, rfl⟩
    obtain ⟨a', cap', rfl⟩ := hv'
    refine h a' cap' w' h2 ?_
    refine ⟨h3.os, h3.tape, h3.output, by have := h3.size; simp at this; omega, fun k hk hne => ?_⟩
    rw [h3.block k (by simp; omega) hne]
    exact Below.heap_alloc w _ k hk

/-- where the row lies behind an append: where it lay, or in a new block -/
def newBlock (w : World) (v v' : Value) : Prop := v'.ownBlock = v.ownBlock ∨ ∃ g, v'.ownBlock = some g ∧ w.heap.size ≤ g

theorem run_app {P : Program} (w : World) (base : Nat) (t ty e : TypeId) (i : TypeInfo) (z : Value) (size bytes : Nat) (ht : P.underlying t = some (.slice e)) (hi : P.info? e = some i) (hz : i.zero = some z)
    (hsize : i.size = size) (hby : i.bytes = bytes) (hzs : z.cells.size = size) (hsz : 0 < size)
    (v : Value) (n : Nat) (xs : List Value) (hown : w.ownsRow base e size v n xs)
    (a : Addr) (m c : Nat) (news : List Value) (hl : news.length = m * size) (hnews : ∀ j u, news[j]? = some u → w.cell? (a.add j) = some u) (h1 : ∀ u ∈ news, u.oneCell' = true)
    (h63 : n + m ≤ maxLen) (hbytes : (n + m) * bytes ≤ 140737488355328) (hbase : base ≤ w.heap.size) :
    ∃ v' w', (Builtin.append_ #[t, t] ty #[v, .slice (some a) m c]).run P w = .ok v' w' ∧ w'.ownsRow base e size v' (n + m) (xs ++ news) ∧ w.grownBy w' v.ownBlock ∧ newBlock w v v' := by
  obtain ⟨v', w', hr, h2, h3, h4⟩ := run_append_own (P := P) w base t ty e i z size bytes ht hi hz hsize hby hzs hsz v n xs hown a m c news hl hnews h1 h63 hbytes hbase
  refine ⟨v', w', hr, h2, h3, ?_⟩
  subst hsize
  subst hby
  have hsmall : n + m ≤ 9223372036854775807 := by simp only [maxLen] at h63; omega
  rcases hown.2 with ⟨rfl, rfl⟩ | ⟨g, cap, cur, rfl, hbg, hg, hnc, hcm, hcs, htake⟩
  · by_cases hm : m = 0
    · have := h4.2 ⟨rfl, hm⟩
      subst this
      exact .inl rfl
    · have hr2 := run_append_nil (P := P) w t ty e i z ht hi hz a m c news hl hnews (by omega) (by omega) (by have hb := hbytes; simp only [Nat.zero_add] at hb; omega)
      rw [hr2] at hr
      simp only [Result.ok.injEq] at hr
      rw [← hr.1]
      exact .inr ⟨w.heap.size, rfl, Nat.le_refl _⟩
  · by_cases hroom : n + m ≤ cap
    · have hfit : n * i.size + news.length ≤ cur.size := by rw [hl, hcs, ← Nat.add_mul]; exact Nat.mul_le_mul_right _ hroom
      have hr2 := run_append_room (P := P) w t ty e i ht hi g n cap cur hg a m c news hl hnews h1 hroom hfit
      rw [hr2] at hr
      simp only [Result.ok.injEq] at hr
      rw [← hr.1]
      exact .inl rfl
    · have holds : ∀ j u, xs[j]? = some u → w.cell? ((⟨g, 0, none⟩ : Addr).add j) = some u := hown.cells (g := g) rfl
      have hr2 := run_append_grow (P := P) w t ty e i z ht hi hz ⟨g, 0, none⟩ n cap xs hown.1 holds a m c news hl hnews (by omega) (by omega) (growslice_fits (by omega) hbytes)
      rw [hr2] at hr
      simp only [Result.ok.injEq] at hr
      rw [← hr.1]
      exact .inr ⟨w.heap.size, rfl, Nat.le_refl _⟩

/-- append of one element, and where the row lies behind it -/
theorem wpList_app1x {P : Program} {t e : TypeId} {z : Value} {bytes : Nat} (el : Elem P t e z bytes) {w : World} {ops : Array Oper} {rest : List Oper} {o : Oper} {act : Act} {Q : Exit → Act → World → Prop} (hgd : o.guard = none) (s x : Operand)
    (ho : o.op = .call { callee := .builtin .append, args := #[s, x], argTypes := #[t, t] }) {B : Nat} {a : Option Addr} {n cap : Nat} {xs : List Value} (hown : Own B e w a n cap xs) (hB : B ≤ w.heap.size) (hn : (n + 1) * bytes ≤ 140737488355328) (hm : n < 140737488355328) (u : Value) (hu : u.oneCell' = true) (e' : TypeId)
    (hs : act.eval s = .slice a n cap) (hx : act.eval x = .slice (some ⟨w.heap.size, 0, none⟩) 1 1)
    (h : ∀ a' cap' w', Own B e w' a' (n + 1) cap' (xs ++ [u]) → w.grownBy w' (Value.slice a n cap).ownBlock → newBlock w (.slice a n cap) (.slice a' (n + 1) cap') → wpList P ops Q rest (act.put o.dst (.slice a' (n + 1) cap')) w') :
    wpList P ops Q (o :: rest) act (w.alloc (.cells #[u] e')) := by
  obtain ⟨i, hi, hz, h1, hb⟩ := info_parts el.inf
  refine wpList_plain hgd fun K hK' => ?_
  have hcell : ∀ j v, [u][j]? = some v → (w.alloc (.cells #[u] e')).cell? ((⟨w.heap.size, 0, none⟩ : Addr).add j) = some v := by
    intro j v hv
    have hj : j = 0 := by
      have := (List.getElem?_eq_some_iff.1 hv).1
      simp at this; exact this
    subst hj
    simp at hv; subst hv
    rw [show ((⟨w.heap.size, 0, none⟩ : Addr).add 0) = ⟨w.heap.size, 0, none⟩ from by simp [Addr.add]]
    rw [cell_of_row (w.alloc (.cells #[u] e')) w.heap.size 0 #[u] e' (0, 0) (heap_alloc_new w _)]
    rfl
  obtain ⟨v', w', hr, h2, h3, h4⟩ := run_app (P := P) (w.alloc (.cells #[u] e')) B t o.type e i z 1 bytes el.und hi hz h1 hb el.one (by decide) _ n xs (World.ownsRow.alloc hown _) ⟨w.heap.size, 0, none⟩ 1 1 [u] rfl hcell (by intro v hv; simp at hv; subst hv; exact hu) (by simp only [maxLen]; omega) hn (by simp; omega)
  unfold Oper.wp execOp
  simp only [ho, resolve, invoke, builtin, Sem.run_bind, Sem.run_pure, Result.andThen_ok, List.map_toArray, List.map_cons, List.map_nil, hs, hx, hr]
  have hv' : ∃ a' cap', v' = .slice a' (n + 1) cap' := by
    rcases h2.2 with ⟨rfl, h0⟩ | ⟨g, cap', cur, rfl, _⟩
    · omega
    · exact ⟨_, _, rfl⟩
  obtain ⟨a', cap', rfl⟩ := hv'
  refine hK' _ _ (h a' cap' w' h2 ?_ ?_)
  · refine ⟨h3.os, h3.tape, h3.output, by have := h3.size; simp at this; omega, fun k hk hne => ?_⟩
    rw [h3.block k (by simp; omega) hne]
    exact Below.heap_alloc w _ k hk
  · rcases h4 with h4 | ⟨g, h4, h5⟩
    · exact .inl h4
    · exact .inr ⟨g, h4, by simp at h5; omega⟩

/-- 'make([]T, n)' -/
theorem wpList_mk {P : Program} {t e : TypeId} {z : Value} {bytes : Nat} (el : Elem P t e z bytes) (hz1 : z.cells = #[z]) {w : World} {ops : Array Oper} {rest : List Oper} {o : Oper} {act : Act} {Q : Exit → Act → World → Prop} (hgd : o.guard = none) (l c : Operand)
    (ho : o.op = .makeSlice t l c) (n : Nat) (hb : bytes * n ≤ 281474976710656) (hm : n ≤ maxLen) (hl : act.eval l = .int .i64 (n : Int)) (hc : act.eval c = .int .i64 (n : Int))
    (h : ∀ w', Own w.heap.size e w' (some ⟨w.heap.size, 0, none⟩) n n (List.replicate n z) → Below w.heap.size w w' → w'.heap.size = w.heap.size + 1 → wpList P ops Q rest (act.put o.dst (.slice (some ⟨w.heap.size, 0, none⟩) n n)) w') :
    wpList P ops Q (o :: rest) act w := by
  obtain ⟨i, hi, hz, h1, hb'⟩ := info_parts el.inf
  subst hb'
  refine wpList_plain hgd fun K hK' => ?_
  have h63' : (n : Int) ≤ 9223372036854775807 := by simp [maxLen] at hm; omega
  have hb'' : (i.bytes : Int) * (n : Int) ≤ 281474976710656 := by
    have h : ((i.bytes * n : Nat) : Int) ≤ 281474976710656 := by omega
    rwa [Int.natCast_mul] at h
  have hr := run_make (P := P) w t e i z el.und hi hz .i64 .i64 n n (by omega) (Int.le_refl _) hb'' h63'
  simp only [Int.toNat_natCast] at hr
  unfold Oper.wp
  simp [execOp, ho, hl, hc, hr, Result.andThen]
  refine hK' _ _ (h _ ?_ ((Below.refl _ _).alloc (Nat.le_refl _) _) (by simp))
  have := World.ownsRow_lit (size := 1) (e := e) w (madeCells z.cells (n * i.size)) n (Nat.le_refl _) hm (by rw [size_madeCells, h1])
  rw [h1, hz1, Nat.mul_one, toList_madeCells_one] at this
  rw [h1, hz1, Nat.mul_one]
  exact this

theorem Below.ofGrown {w w' : World} {B : Nat} {v : Value} (hg : w.grownBy w' v.ownBlock) (hB : B ≤ w.heap.size) (hr : ∀ k, v.ownBlock = some k → B ≤ k) : Below B w w' :=
  (Below.refl B w).grown hg hB hr

theorem Own.blk {B : Nat} {E : TypeId} {w : World} {a : Option Addr} {n cap : Nat} {xs : List Value} (h : Own B E w a n cap xs) : ∀ k, (Value.slice a n cap).ownBlock = some k → B ≤ k :=
  fun k hk => (World.ownsRow.lt h k hk).1

/-- an append onto a row of the call's own, seen from below -/
theorem Own.app {B : Nat} {E : TypeId} {w w' : World} {a : Option Addr} {n cap : Nat} {xs : List Value} (h : Own B E w a n cap xs) (hg : w.grownBy w' (Value.slice a n cap).ownBlock) (hB : B ≤ w.heap.size) : Below B w w' :=
  Below.ofGrown hg hB h.blk

theorem Own.lit {B : Nat} {E : TypeId} (w : World) (cs : Array Value) (hB : B ≤ w.heap.size) (hm : cs.size ≤ maxLen) : Own B E (w.alloc (.cells cs E)) (some ⟨w.heap.size, 0, none⟩) cs.size cs.size cs.toList :=
  World.ownsRow_lit w cs cs.size hB hm (by simp)

/-- a row stays apart from another when that one is appended to -/
theorem apart_new {w : World} {v v' u : Value} (h : newBlock w v v') (hu : ∀ k, u.ownBlock = some k → k < w.heap.size) (hne : u.ownBlock = none ∨ u.ownBlock ≠ v.ownBlock) : u.ownBlock = none ∨ u.ownBlock ≠ v'.ownBlock := by
  rcases h with h | ⟨g, h, hg⟩
  · rw [h]; exact hne
  · rw [h]
    cases hk : u.ownBlock with
    | none => exact .inl rfl
    | some k =>
      refine .inr (fun e => ?_)
      have := hu k hk
      simp at e
      omega
theorem apart_symm {u v : Value} (h : u.ownBlock = none ∨ u.ownBlock ≠ v.ownBlock) : v.ownBlock = none ∨ v.ownBlock ≠ u.ownBlock := by
  rcases h with h | h
  · cases hv : v.ownBlock with
    | none => exact .inl rfl
    | some k => rw [h]; exact .inr (by simp)
  · exact .inr (fun e => h e.symm)
theorem Own.lt {B : Nat} {E : TypeId} {w : World} {a : Option Addr} {n cap : Nat} {xs : List Value} (h : Own B E w a n cap xs) : ∀ k, (Value.slice a n cap).ownBlock = some k → k < w.heap.size :=
  fun k hk => (World.ownsRow.lt h k hk).2

theorem grown_store (w : World) (g j : Nat) (u : Value) : w.grownBy (w.setCell ⟨g, j, none⟩ u) (some g) :=
  ⟨rfl, rfl, rfl, by simp, fun k _ hk => heap_setCell_other w ⟨g, j, none⟩ k u (fun e => hk (by simp [e]))⟩
theorem grown_trans {a b c : World} {row : Option Nat} (h : a.grownBy b row) (k : b.grownBy c row) : a.grownBy c row :=
  ⟨k.os.trans h.os, k.tape.trans h.tape, k.output.trans h.output, Nat.le_trans h.size k.size, fun i hi hne => (k.block i (Nat.lt_of_lt_of_le hi h.size) hne).trans (h.block i hi hne)⟩

theorem grown_drew {a w : World} {row : Option Nat} (h : a.grownBy w row) : a.grownBy w.drew row := ⟨h.os, h.tape, h.output, h.size, h.block⟩

/-- what a row is told of a slice of integers that came in -/
def IsRow (k : IntKind) (w : World) (a : Option Addr) (len cap : Nat) (zs : List Int) : Prop :=
  (a = none ∧ len = 0 ∧ cap = 0 ∧ zs = []) ∨
  ∃ x, a = some x ∧ len ≤ cap ∧ cap ≤ maxLen ∧ zs.length = cap ∧ (∀ i, i < zs.length → w.cell? (x.add i) = some (.int k (zs.getD i 0))) ∧ ∀ n ∈ zs, (Lit.int k n).wf = true

theorem isRow_ints {k : IntKind} {w : World} {a : Option Addr} {len cap : Nat} {zs : List Int} (h : IsRow k w a len cap zs) :
    Ints k w a (zs.take len) ∧ (zs.take len).length = len ∧ len ≤ 9223372036854775807 ∧ (∀ n ∈ zs.take len, (Lit.int k n).wf = true) := by
  rcases h with ⟨rfl, rfl, rfl, rfl⟩ | ⟨x, rfl, hl, hm, hz, hcell, hwz⟩
  · exact ⟨Ints.nil _ _ _, rfl, by omega, fun n hn => by simp at hn⟩
  · have hlen : (zs.take len).length = len := by rw [List.length_take]; omega
    refine ⟨?_, hlen, by unfold maxLen at hm; omega, fun n hn => hwz n (List.mem_of_mem_take hn)⟩
    intro i hi
    rw [hlen] at hi
    have hc := hcell i (by omega)
    have h0 := hcell 0 (by omega)
    obtain ⟨b, off, spot⟩ := x
    have hspot : spot = none := by simpa [Addr.add] using World.cell?_spot h0
    subst hspot
    refine ⟨b, off, rfl, ?_⟩
    simp only [Addr.add_lit] at hc
    rw [hc]
    simp [List.getD_eq_getElem?_getD, show i < zs.length by omega]

theorem ret_eq {a b : Value} (h : a = b) : Ending.returned a = .returned b := by rw [h]

end Go.Proofs.Ytabbabkmojaoaaa
