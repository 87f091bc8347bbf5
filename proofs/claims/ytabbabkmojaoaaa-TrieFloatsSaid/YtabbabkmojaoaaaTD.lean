/-
  The walk of 'Build' (numbers of eight bits): the closure, the two loops.
-/
import Derived.Test.YtabbabkmojaoaaaTF
set_option linter.unusedVariables false
set_option linter.unusedSimpArgs false
namespace Go.Proofs.Ytabbabkmojaoaaa
open Go.RowKit

structure SpanD where
  f : Int
  t : Int
  v : Int
instance : Inhabited SpanD := ⟨⟨0, 0, 0⟩⟩
/-- the spans that a slice holds -/
def SpansAt (w : World) (a : Option Addr) (l : List SpanD) : Prop :=
  ∀ i (h : i < l.length), ∃ b o, a = some ⟨b, o, none⟩ ∧ w.cell? ⟨b, o + i * 3, none⟩ = some (.int .i32 l[i].f) ∧ w.cell? ⟨b, o + i * 3 + 1, none⟩ = some (.int .i32 l[i].t) ∧ w.cell? ⟨b, o + i * 3 + 2, none⟩ = some (.int .u8 l[i].v)
theorem SpansAt.get {w : World} {b o : Nat} {l : List SpanD} (h : SpansAt w (some ⟨b, o, none⟩) l) (i : Nat) (hi : i < l.length) :
    w.cell? ⟨b, o + i * 3, none⟩ = some (.int .i32 l[i].f) ∧ w.cell? ⟨b, o + i * 3 + 1, none⟩ = some (.int .i32 l[i].t) ∧ w.cell? ⟨b, o + i * 3 + 2, none⟩ = some (.int .u8 l[i].v) := by
  obtain ⟨b', o', e, hc⟩ := h i hi
  simp only [Option.some.injEq, Addr.mk.injEq, and_true] at e
  obtain ⟨rfl, rfl⟩ := e
  exact hc
theorem SpansAt.some {w : World} {a : Option Addr} {l : List SpanD} (h : SpansAt w a l) (hn : 0 < l.length) : ∃ b o, a = Option.some ⟨b, o, none⟩ := by
  obtain ⟨b, o, e, _⟩ := h 0 hn
  exact ⟨b, o, e⟩
theorem SpansAt.below {w w' : World} {B : Nat} {a : Option Addr} {l : List SpanD} (h : SpansAt w a l) (hb : Below B w w') (hB : ∀ b o, a = Option.some ⟨b, o, none⟩ → 0 < l.length → b < B) : SpansAt w' a l := by
  intro i hi
  obtain ⟨b, o, rfl, h1, h2, h3⟩ := h i hi
  have hl := hB b o rfl (by omega)
  exact ⟨b, o, rfl, by rw [hb.cell (p := ⟨b, o + i * 3, none⟩) hl]; exact h1, by rw [hb.cell (p := ⟨b, o + i * 3 + 1, none⟩) hl]; exact h2, by rw [hb.cell (p := ⟨b, o + i * 3 + 2, none⟩) hl]; exact h3⟩
theorem SpansAt.lt {w : World} {a : Option Addr} {l : List SpanD} (h : SpansAt w a l) : ∀ b o, a = Option.some ⟨b, o, none⟩ → 0 < l.length → b < w.heap.size := fun b o e h0 => by
  obtain ⟨b', o', e2, h3, -⟩ := h 0 h0
  rw [e2] at e
  simp only [Option.some.injEq, Addr.mk.injEq, and_true] at e
  obtain ⟨rfl, -⟩ := e
  exact World.block_lt_of_cell? w _ h3

set_option maxRecDepth 100000 in
theorem bld1_walk (w : World) (bo bs br go N n c : Nat) (a : Option Addr) (l : List SpanD) (rest : Int) (os : List Int) (r : Nat) (hN : os.length = N) (hN2 : N ≤ 1114112) (hr : r < N) (hl : l.length = n) (hn : n ≤ 2097152)
    (h1 : w.cell? ⟨bo, 0, none⟩ = some (.slice (some ⟨go, 0, none⟩) N N)) (h2 : Ints .i32 w (some ⟨go, 0, none⟩) os) (h3 : w.cell? ⟨bs, 0, none⟩ = some (.slice a n c)) (h4 : SpansAt w a l) (h5 : w.cell? ⟨br, 0, none⟩ = some (.int .u8 rest))
    (hx : os[r] = 0 ∨ ∃ i : Nat, i < n ∧ os[r] = (i : Int) + 1) :
    Calls Try.prog 59 #[.int .i32 (r : Nat), .pointer (some ⟨bo, 0, none⟩), .pointer (some ⟨bs, 0, none⟩), .pointer (some ⟨br, 0, none⟩)] w fun e w' =>
      e = .returned (val8 (if os[r] = 0 then rest else (l.getD (os[r] - 1).toNat default).v)) ∧ w = w' := by
  have c1 := h2.get r (by omega)
  rw [Nat.zero_add] at c1
  have H2 := Lib.hid h2; clear h2
  have H4 := Lib.hid h4; clear h4
  generalize os[r] = x at *
  have hri : (r : Int) < (N : Int) := by omega
  go_enter Try.func59, Try.ntmps59
  rcases hx with rfl | ⟨i, hi, rfl⟩
  · go_wp2
    go_ret
    exact ⟨rfl, rfl⟩
  · obtain ⟨b, o, rfl⟩ := H4.out.some (by omega)
    obtain ⟨-, -, c2⟩ := H4.out.get i (by omega)
    have e : (l.getD ((i : Int) + 1 - 1).toNat default) = l[i]'(by omega) := by
      rw [show ((i : Int) + 1 - 1).toNat = i by omega]
      simp [show i < l.length by omega]
    rw [if_neg (by omega), e]
    clear e
    generalize l[i]'(by omega) = s at *
    have hi1 : (0 : Int) < (i : Int) + 1 := by omega
    have hi2 : (i : Int) < (n : Int) := by omega
    go_wp2
    go_ret
    exact ⟨rfl, rfl⟩

/-! ### the spans' law -/
def badS (s : SpanD) : Prop := s.f < 0 ∨ 1114111 < s.t ∨ s.t < s.f
def hasS (x : Int) (s : SpanD) : Bool := decide (s.f ≤ x ∧ x ≤ s.t)
def ownF (l : List SpanD) (x : Int) : Int := match l.findIdx? (hasS x) with
  | some i => (i : Int) + 1
  | none => 0
def osF (N : Nat) (l : List SpanD) : List Int := (List.range N).map (fun x => ownF l (x : Nat))
def osG (N : Nat) (l : List SpanD) (f r v : Int) : List Int := (List.range N).map (fun x => if f ≤ ((x : Nat) : Int) ∧ ((x : Nat) : Int) < r then v else ownF l (x : Nat))
def meetS (l : List SpanD) (k : Nat) : Prop := ∃ x : Int, hasS x (l.getD k default) = true ∧ ownF (l.take k) x ≠ 0
def fS (rest : Int) (l : List SpanD) (r : Nat) : Int := if ownF l (r : Nat) = 0 then rest else (l.getD (ownF l (r : Nat) - 1).toNat default).v
theorem ownF_le (l : List SpanD) (x : Int) : ownF l x = 0 ∨ ∃ i : Nat, i < l.length ∧ ownF l x = (i : Int) + 1 := by
  unfold ownF
  cases h : l.findIdx? (hasS x) with
  | none => exact .inl rfl
  | some i => exact .inr ⟨i, (List.findIdx?_eq_some_iff_getElem.1 h).1, rfl⟩
theorem ownF_snoc (l : List SpanD) (s : SpanD) (x : Int) : ownF (l ++ [s]) x = if ownF l x = 0 then (if hasS x s = true then (l.length : Int) + 1 else 0) else ownF l x := by
  unfold ownF
  rw [List.findIdx?_append]
  cases h : l.findIdx? (hasS x) with
  | some i => simp; omega
  | none =>
    simp only [Option.none_or, List.findIdx?_cons, List.findIdx?_nil]
    by_cases hs : hasS x s = true
    · simp [hs]
    · simp [hs]
theorem osG_start (N : Nat) (l : List SpanD) (f v : Int) : osG N l f f v = osF N l := by
  unfold osG osF
  apply List.map_congr_left
  intro x _
  rw [if_neg (by omega)]
theorem osG_step (N : Nat) (l : List SpanD) (f : Int) (r : Nat) (v : Int) (hr : r < N) (hf : f ≤ (r : Int)) : (osG N l f r v).set r v = osG N l f ((r : Int) + 1) v := by
  apply List.ext_getElem?
  intro i
  by_cases e : r = i
  · subst e
    rw [List.getElem?_set_self (by simp [osG]; exact hr)]
    simp only [osG, List.getElem?_map, List.getElem?_range hr, Option.map_some]
    rw [if_pos (by omega)]
  · rw [List.getElem?_set_ne e]
    simp only [osG, List.getElem?_map]
    by_cases hi : i < N
    · rw [List.getElem?_range hi]
      simp only [Option.map_some]
      by_cases h : f ≤ (i : Int) ∧ (i : Int) < r
      · rw [if_pos h, if_pos (by omega)]
      · rw [if_neg h, if_neg (by omega)]
    · rw [List.getElem?_eq_none (by simp; omega)]
      rfl
theorem osG_at (N : Nat) (l : List SpanD) (f : Int) (r : Nat) (v : Int) (hr : r < N) : (osG N l f r v)[r]? = some (ownF l r) := by
  simp only [osG, List.getElem?_map, List.getElem?_range hr, Option.map_some]
  rw [if_neg (by omega)]
theorem osG_end (N : Nat) (l : List SpanD) (k : Nat) (hk : k < l.length) (hm : ¬ meetS l k) : osG N (l.take k) (l[k]).f ((l[k]).t + 1) ((k : Int) + 1) = osF N (l.take (k + 1)) := by
  unfold osG osF
  apply List.map_congr_left
  intro x _
  rw [List.take_succ_eq_append_getElem hk, ownF_snoc]
  have hl : (l.take k).length = k := by rw [List.length_take]; omega
  rw [hl]
  by_cases h : (l[k]).f ≤ ((x : Nat) : Int) ∧ ((x : Nat) : Int) < (l[k]).t + 1
  · have hs : hasS (x : Nat) l[k] = true := decide_eq_true ⟨h.1, by omega⟩
    have h0 : ownF (l.take k) (x : Nat) = 0 := Classical.byContradiction fun hn => hm ⟨(x : Nat), by rw [show l.getD k default = l[k] by simp [hk]]; exact hs, hn⟩
    rw [if_pos h, if_pos h0, if_pos hs]
  · have hs : ¬ hasS (x : Nat) l[k] = true := fun e => by have := of_decide_eq_true e; omega
    rw [if_neg h, if_neg hs]
    split
    · rename_i h0; exact h0
    · rfl
theorem osF_nil (N : Nat) : osF N [] = List.replicate N 0 := by
  rw [List.eq_replicate_iff]
  refine ⟨by simp [osF], fun x hx => ?_⟩
  obtain ⟨y, -, rfl⟩ := List.mem_map.1 hx
  rfl
theorem osF_get (N : Nat) (l : List SpanD) (r : Nat) (hr : r < N) : (osF N l)[r]? = some (ownF l r) := by
  simp only [osF, List.getElem?_map, List.getElem?_range hr, Option.map_some]
theorem osF_length (N : Nat) (l : List SpanD) : (osF N l).length = N := by simp [osF]
theorem osG_length (N : Nat) (l : List SpanD) (f r v : Int) : (osG N l f r v).length = N := by simp [osG]
theorem no_meet {l : List SpanD} {k : Nat} (hk : k < l.length) (h : ∀ x : Int, (l[k]).f ≤ x → x ≤ (l[k]).t → ownF (l.take k) x = 0) : ¬ meetS l k := by
  rintro ⟨x, h1, h2⟩
  rw [show l.getD k default = l[k] by simp [hk]] at h1
  have h3 := of_decide_eq_true h1
  exact h2 (h x h3.1 h3.2)
theorem yes_meet {l : List SpanD} {k : Nat} (hk : k < l.length) {x : Int} (h1 : (l[k]).f ≤ x) (h2 : x ≤ (l[k]).t) (h : ownF (l.take k) x ≠ 0) : meetS l k :=
  ⟨x, by rw [show l.getD k default = l[k] by simp [hk]]; exact decide_eq_true ⟨h1, h2⟩, h⟩
end Go.Proofs.Ytabbabkmojaoaaa
