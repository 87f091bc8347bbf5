/- several texts in one: LB LP LN -/
import Derived.Test.YtabbabkmojaoaaaQ5
import Derived.Test.YtabbabkmojaoaaaRQ
import Derived.Test.YtabbabkmojaoaaaRC
import Derived.Lib.QuietBelow
set_option linter.unusedVariables false
set_option linter.unusedSimpArgs false
/-
  Small laws: values below a block; what looks at tries share.
-/
namespace Go.Proofs.Ytabbabkmojaoaaa
open Go.RowKit
theorem vals_below {w w' : World} {B : Nat} {a : Option Addr} {xs : List Value} (h : Vals w a xs) (hb : Below B w w') (hB : w.heap.size ≤ B) : Vals w' a xs := by
  intro i hi
  obtain ⟨b, o, rfl, hc⟩ := h i hi
  have hl := World.block_lt_of_cell? w _ hc
  exact ⟨b, o, rfl, by rw [hb.cell (p := ⟨b, o + i, none⟩) (by simp at hl ⊢; omega)]; exact hc⟩
end Go.Proofs.Ytabbabkmojaoaaa

/-
  Plain laws: the stretches of a function whose values are made of numbers are the document's runs. A region in the round of a range over a function, whose callees end in 'Below'.
-/
namespace Go.Proofs.Ytabbabkmojaoaaa
open Go.RowKit
section
variable {α : Type}
/-- the stretches that runs stand for; p: where the one ahead ends -/
def toS (of : Int → α) : Int → List (Int × Int) → List (Stretch α)
  | _, [] => []
  | p, x :: A => ⟨(p + 1).toNat, x.1.toNat, of x.2⟩ :: toS of x.1 A
def endP : Int → List (Int × Int) → Int
  | p, [] => p
  | _, x :: A => endP x.1 A
theorem toS_snoc (of : Int → α) (x : Int × Int) : ∀ (A : List (Int × Int)) (p : Int), toS of p (A ++ [x]) = toS of p A ++ [⟨(endP p A + 1).toNat, x.1.toNat, of x.2⟩]
  | [], p => rfl
  | y :: A, p => by
    rw [List.cons_append, toS, toS, toS_snoc of x A y.1]
    rfl
theorem endP_snoc (x : Int × Int) : ∀ (A : List (Int × Int)) (p : Int), endP p (A ++ [x]) = x.1
  | [], p => rfl
  | y :: A, p => by rw [List.cons_append, endP, endP_snoc x A y.1]
theorem toS_length (of : Int → α) : ∀ (A : List (Int × Int)) (p : Int), (toS of p A).length = A.length
  | [], _ => rfl
  | x :: A, p => by rw [toS, List.length_cons, List.length_cons, toS_length of A x.1]
theorem toS_get (of : Int → α) : ∀ (A : List (Int × Int)) (p : Int) (i : Nat) (h : i < A.length), (toS of p A)[i]? = some ⟨(endP p (A.take i) + 1).toNat, (A[i]).1.toNat, of (A[i]).2⟩
  | [], _, i, h => by simp at h
  | x :: A, p, 0, h => rfl
  | x :: A, p, i + 1, h => by
    rw [toS, List.getElem?_cons_succ, toS_get of A x.1 i (by simpa using h)]
    rfl
theorem spL_toS {ne : α → α → Bool} {f : Nat → α} {F : Nat → Int} {of : Int → α} (N : Nat) (hne : ∀ a b, ne a b = true ↔ a ≠ b) (hinj : ∀ r s, r < N → s < N → of (F r) = of (F s) → F r = F s) (hf : ∀ r, r < N → f r = of (F r)) : ∀ n, n ≠ 0 → n ≤ N →
    ∃ A, runL F n = A ++ [(((n - 1 : Nat) : Int), F (spT ne f n).2)] ∧ (spT ne f n).1 = toS of (-1) A ∧ ((spT ne f n).2 : Int) = endP (-1) A + 1
  | 0, h, _ => absurd rfl h
  | n + 1, _, hn => by
    by_cases h0 : n = 0
    · subst h0
      refine ⟨[], ?_, ?_, ?_⟩
      · rw [spT_one]; rfl
      · rw [spT_one]; rfl
      · rw [spT_one]; rfl
    · obtain ⟨A, h1, h2, h3⟩ := spL_toS N hne hinj hf n h0 (by omega)
      have hlt := spT_lt ne f n h0
      obtain ⟨s, hs⟩ : ∃ s, s = (spT ne f n).2 := ⟨_, rfl⟩
      rw [← hs] at h1 h3 hlt
      have hrl : runL F (n + 1) = withL (runL F n) (n : Nat) (F n) := rfl
      by_cases hc : ne (f n) (f (spT ne f n).2) = true
      · have hne2 : f n ≠ f s := by rw [hs]; exact (hne _ _).1 hc
        have hF : F s ≠ F n := fun e => hne2 (by rw [hf n (by omega), hf s (by omega), e])
        rw [spT_cut h0 hc]
        refine ⟨A ++ [(((n - 1 : Nat) : Int), F s)], ?_, ?_, ?_⟩
        · rw [hrl, h1]
          unfold withL
          simp [hF]
        · rw [toS_snoc, h2, ← hs, hf s (by omega)]
          rw [← h3]
          simp
        · rw [endP_snoc]; simp; omega
      · have hne2 : f n = f s := by
          rw [hs]
          exact Classical.byContradiction fun h => hc ((hne _ _).2 h)
        have hF : F s = F n := (hinj s n (by omega) (by omega) (by rw [← hf s (by omega), ← hf n (by omega), hne2]))
        rw [spT_on h0 hc, ← hs]
        refine ⟨A, ?_, h2, h3⟩
        rw [hrl, h1]
        unfold withL
        simp [hF]
theorem spL_runs {ne : α → α → Bool} {f : Nat → α} {F : Nat → Int} {of : Int → α} (N : Nat) (hN : N ≠ 0) (hne : ∀ a b, ne a b = true ↔ a ≠ b) (hinj : ∀ r s, r < N → s < N → of (F r) = of (F s) → F r = F s) (hf : ∀ r, r < N → f r = of (F r)) : spL ne f N = toS of (-1) (runL F N) := by
  obtain ⟨A, h1, h2, h3⟩ := spL_toS N hne hinj hf N hN (Nat.le_refl _)
  have hlt := spT_lt ne f N hN
  rw [h1, toS_snoc, ← h2]
  unfold spL
  rw [← h3, hf _ hlt]
  simp
/-- the ends rise -/
theorem runL_rise (F : Nat → Int) : ∀ n, List.Pairwise (fun a b : Int × Int => a.1 < b.1) (runL F n) ∧ ∀ x ∈ runL F n, 0 ≤ x.1
  | 0 => ⟨List.Pairwise.nil, fun x h => by simp [runL] at h⟩
  | n + 1 => by
    obtain ⟨h1, h2⟩ := runL_rise F n
    have hlt := runL_lt F n
    rw [runL]
    rcases withL_form (runL F n) (n : Nat) (F n) with ⟨y, e1, e2, e3⟩ | e3
    · rw [e3]
      rw [e1] at h1
      refine ⟨List.pairwise_append.2 ⟨(List.pairwise_append.1 h1).1, by simp, fun a ha b hb => ?_⟩, fun x hx => ?_⟩
      · rw [List.mem_singleton.1 hb]; exact hlt a (List.dropLast_subset _ ha)
      · rcases List.mem_append.1 hx with hx | hx
        · exact h2 x (List.dropLast_subset _ hx)
        · rw [List.mem_singleton.1 hx]; simp only; omega
    · rw [e3]
      refine ⟨List.pairwise_append.2 ⟨h1, by simp, fun a ha b hb => ?_⟩, fun x hx => ?_⟩
      · rw [List.mem_singleton.1 hb]; exact hlt a ha
      · rcases List.mem_append.1 hx with hx | hx
        · exact h2 x hx
        · rw [List.mem_singleton.1 hx]; simp only; omega
theorem endP_take : ∀ (A : List (Int × Int)) (p : Int) (i : Nat) (h : i < A.length), endP p (A.take (i + 1)) = (A[i]).1
  | [], _, i, h => by simp at h
  | x :: A, p, 0, h => rfl
  | x :: A, p, i + 1, h => by
    rw [List.take_succ_cons, endP, endP_take A x.1 i (by simpa using h)]
    rfl
end
theorem two_boxes (w : World) (c0 c1 : Array Value) (t0 t1 : TypeId) : Below w.heap.size w ((w.alloc (.cells c0 t0)).alloc (.cells c1 t1)) ∧ ((w.alloc (.cells c0 t0)).alloc (.cells c1 t1)).heap[w.heap.size]? = some (.cells c0 t0 (0, 0)) ∧
    ((w.alloc (.cells c0 t0)).alloc (.cells c1 t1)).heap[w.heap.size + 1]? = some (.cells c1 t1 (0, 0)) ∧ ((w.alloc (.cells c0 t0)).alloc (.cells c1 t1)).heap.size = w.heap.size + 2 := by
  refine ⟨((Below.refl _ w).alloc (Nat.le_refl _) _).alloc (by simp) _, ?_, ?_, by simp⟩
  · rw [Below.heap_alloc _ _ _ (by simp)]
    exact heap_alloc_new w _
  · have := heap_alloc_new (w.alloc (.cells c0 t0)) (.cells c1 t1)
    simpa using this
theorem run_val {F : Nat → Int} : ∀ {n : Nat} {x : Int × Int}, x ∈ runL F n → ∃ r, r < n ∧ x.2 = F r
  | 0, x, h => by simp [runL] at h
  | n + 1, x, h => by
    rw [runL] at h
    rcases withL_form (runL F n) (n : Nat) (F n) with ⟨y, e1, e2, e3⟩ | e3
    · rw [e3] at h
      rcases List.mem_append.1 h with h | h
      · obtain ⟨r, h1, h2⟩ := run_val (List.dropLast_subset _ h)
        exact ⟨r, by omega, h2⟩
      · exact ⟨n, by omega, by rw [List.mem_singleton.1 h]⟩
    · rw [e3] at h
      rcases List.mem_append.1 h with h | h
      · obtain ⟨r, h1, h2⟩ := run_val h
        exact ⟨r, by omega, h2⟩
      · exact ⟨n, by omega, by rw [List.mem_singleton.1 h]⟩
theorem four_boxes (w : World) (c0 c1 c2 c3 : Array Value) (t0 t1 t2 t3 : TypeId) : Below w.heap.size w ((((w.alloc (.cells c0 t0)).alloc (.cells c1 t1)).alloc (.cells c2 t2)).alloc (.cells c3 t3)) ∧ ((((w.alloc (.cells c0 t0)).alloc (.cells c1 t1)).alloc (.cells c2 t2)).alloc (.cells c3 t3)).heap[w.heap.size]? = some (.cells c0 t0 (0, 0)) ∧
    ((((w.alloc (.cells c0 t0)).alloc (.cells c1 t1)).alloc (.cells c2 t2)).alloc (.cells c3 t3)).heap[w.heap.size + 1]? = some (.cells c1 t1 (0, 0)) ∧ ((((w.alloc (.cells c0 t0)).alloc (.cells c1 t1)).alloc (.cells c2 t2)).alloc (.cells c3 t3)).heap[w.heap.size + 2]? = some (.cells c2 t2 (0, 0)) ∧
    ((((w.alloc (.cells c0 t0)).alloc (.cells c1 t1)).alloc (.cells c2 t2)).alloc (.cells c3 t3)).heap[w.heap.size + 3]? = some (.cells c3 t3 (0, 0)) ∧ ((((w.alloc (.cells c0 t0)).alloc (.cells c1 t1)).alloc (.cells c2 t2)).alloc (.cells c3 t3)).heap.size = w.heap.size + 4 := by
  refine ⟨((((Below.refl _ w).alloc (Nat.le_refl _) _).alloc (by simp) _).alloc (by simp; omega) _).alloc (by simp; omega) _, ?_, ?_, ?_, ?_, by simp⟩
  · rw [Below.heap_alloc _ _ _ (by simp; omega), Below.heap_alloc _ _ _ (by simp; omega), Below.heap_alloc _ _ _ (by simp)]
    exact heap_alloc_new w _
  · rw [Below.heap_alloc _ _ _ (by simp), Below.heap_alloc _ _ _ (by simp)]
    have := heap_alloc_new (w.alloc (.cells c0 t0)) (.cells c1 t1)
    simpa using this
  · rw [Below.heap_alloc _ _ _ (by simp)]
    have := heap_alloc_new ((w.alloc (.cells c0 t0)).alloc (.cells c1 t1)) (.cells c2 t2)
    simpa using this
  · have := heap_alloc_new (((w.alloc (.cells c0 t0)).alloc (.cells c1 t1)).alloc (.cells c2 t2)) (.cells c3 t3)
    simpa using this
section
variable {F : Fence} {n : Nat} {P : Program}
theorem wpIn_region_belowR {id : Nat} {Q : Exit → Act → World → Prop} {a : Act} {w : World} {l : List Oper} (hro : l.all noDefer = true) (hm : P.follows .mixedOrders = true) (hB : Region.lexB .any l.toArray = true)
    (h : wpQuietIn F n P l.toArray (fun w' => ∃ p : Regrown, w' = Go.Sort.grow (redrawn w p.d) p.os) (fun a' => ∀ w', (∃ p : Regrown, w' = Go.Sort.grow (redrawn w p.d) p.os) → Q .normal a' w') l a) : (Code.region id l.toArray true).wpIn F n P Q a w := by
  simp only [Region.lexB, Bool.and_eq_true] at hB
  refine wpIn_region_any hm (wpAnyIn_of_quietR (C := fun w' => ∃ p : Regrown, w' = Go.Sort.grow (redrawn w p.d) p.os) (Q := fun a' => ∀ w', (∃ p : Regrown, w' = Go.Sort.grow (redrawn w p.d) p.os) → Q .normal a' w') (fun i o hi => ?_) (fun _ w' hw' h => h w' hw') _ _ _ _ ⟨⟨w.drawn + 1, #[]⟩, by rw [Go.Sort.grow_empty]; rfl⟩ ?_)
  · rw [List.getElem?_toArray] at hi
    exact (List.all_eq_true.1 hro) o (List.mem_of_getElem? hi)
  · have := wpAnyQIn_lex (F := F) (n := n) (C := fun w' => ∃ p : Regrown, w' = Go.Sort.grow (redrawn w p.d) p.os) (md := .any) hB.1 l 0 (Array.replicate l.toArray.size false) a (by simp) (by simpa using hB.2) h
    simpa using this
end
theorem exec_call3 {P : Program} {o : Oper} {a : Act} {w : World} (f : FuncId) (x y z : Operand) (ts : Array TypeId) (ho : o.op = .call { callee := .value (.func f), args := #[x, y, z], argTypes := ts }) (vx vy vz : Value) (hx : a.eval x = vx) (hy : a.eval y = vy) (hz : a.eval z = vz) (eg : ∀ args W, (callFunc f args).run P W = .ok (.enter f args) W) :
    (execOp a.eval o).run P w = .ok (.enter f #[vx, vy, vz]) w := by
  subst hx hy hz
  unfold execOp
  simp only [ho]
  simp [resolve, invoke, go_sem, eg, Act.eval]
theorem own_vals {B : Nat} {E : TypeId} {w : World} {a : Option Addr} {n cap : Nat} {xs : List Value} (h : Own B E w a n cap xs) : Vals w a xs := fun i hi => by
  have hl := h.len
  obtain ⟨g, rfl, _⟩ := h.at (by omega)
  exact ⟨g, 0, rfl, by rw [Nat.zero_add]; exact h.cell i hi⟩
theorem flatV_flatten {α : Type} (val : α → Value) (L : List (List α)) : flatV val L = L.flatten.map val := by
  unfold flatV
  rw [List.flatMap_def, List.map_flatten]
theorem flatten_len {α : Type} (L : List (List α)) (h : ∀ l ∈ L, l.length = 64) : L.flatten.length = 64 * L.length := by
  induction L with
  | nil => rfl
  | cons l L ih =>
    rw [List.flatten_cons, List.length_append, h l (by simp), ih (fun m hm => h m (by simp [hm])), List.length_cons]
    omega
end Go.Proofs.Ytabbabkmojaoaaa

/-
  Plain laws: a maker fed with values that are made of numbers, and one that is fed with the numbers.
-/
namespace Go.Proofs.Ytabbabkmojaoaaa
section
variable {α : Type} [DecidableEq α]
def rng8 (x : Int) : Prop := 0 ≤ x ∧ x ≤ 255
def inj8 (of : Int → α) : Prop := ∀ x y, 0 ≤ x → x ≤ 255 → 0 ≤ y → y ≤ 255 → of x = of y → x = y
theorem eqL_of {of : Int → α} (hi : inj8 of) : ∀ (a b : List Int), (∀ x ∈ a, rng8 x) → (∀ x ∈ b, rng8 x) → eqL (fun x y => decide (x = y)) (a.map of) (b.map of) = eqL (fun x y => decide (x = y)) a b
  | [], _, _, _ => by simp [eqL]
  | x :: a, [], _, _ => by simp [eqL]
  | x :: a, y :: b, ha, hb => by
    have h1 := ha x (by simp)
    have h2 := hb y (by simp)
    rw [List.map_cons, List.map_cons, eqL, eqL, eqL_of hi a b (fun z hz => ha z (by simp [hz])) (fun z hz => hb z (by simp [hz]))]
    congr 1
    by_cases h : x = y
    · subst h; simp
    · have : of x ≠ of y := fun e => h (hi x y h1.1 h1.2 h2.1 h2.2 e)
      simp [h, this]
theorem findB_of {of : Int → α} (hi : inj8 of) {b : List Int} (hb : ∀ x ∈ b, rng8 x) : ∀ (L : List (List Int)), (∀ l ∈ L, ∀ x ∈ l, rng8 x) → findB (fun x y => decide (x = y)) (b.map of) (L.map (List.map of)) = findB (fun x y => decide (x = y)) b L
  | [], _ => rfl
  | l :: L, hL => by
    have ih := findB_of hi hb L (fun m hm => hL m (by simp [hm]))
    unfold findB at ih ⊢
    rw [List.map_cons, List.findIdx?_cons, List.findIdx?_cons, eqL_of hi b l hb (hL l (by simp)), ih]
theorem numB_of {of : Int → α} (hi : inj8 of) {b : List Int} (hb : ∀ x ∈ b, rng8 x) {L : List (List Int)} (hL : ∀ l ∈ L, ∀ x ∈ l, rng8 x) :
    numB (fun x y => decide (x = y)) (L.map (List.map of)) (b.map of) = ((numB (fun x y => decide (x = y)) L b).1.map (List.map of), (numB (fun x y => decide (x = y)) L b).2) := by
  unfold numB
  rw [findB_of hi hb L hL]
  cases findB (fun x y => decide (x = y)) b L with
  | some k => rfl
  | none => simp
theorem numB_rng {b : List Int} (hb : ∀ x ∈ b, rng8 x) {L : List (List Int)} (hL : ∀ l ∈ L, ∀ x ∈ l, rng8 x) : ∀ l ∈ (numB (fun x y => decide (x = y)) L b).1, ∀ x ∈ l, rng8 x := by
  unfold numB
  cases findB (fun x y => decide (x = y)) b L with
  | some k => exact hL
  | none =>
    intro l hl
    rcases List.mem_append.1 hl with h | h
    · exact hL l h
    · rw [List.mem_singleton.1 h]; exact hb
def mapS (of : Int → α) (S : MkS Int) : MkS α := ⟨S.top, S.cur, S.lows.map (List.map of), S.mids, S.blocks⟩
theorem addS_of {of : Int → α} (hi : inj8 of) {S : MkS Int} {b : List Int} (hb : ∀ x ∈ b, rng8 x) (hL : ∀ l ∈ S.lows, ∀ x ∈ l, rng8 x) :
    addS (fun x y => decide (x = y)) (mapS of S) (b.map of) = mapS of (addS (fun x y => decide (x = y)) S b) := by
  unfold addS
  simp only
  have h := numB_of hi hb hL
  rw [show (mapS of S).lows = S.lows.map (List.map of) from rfl, h]
  show (if (S.blocks + 1) % 64 = 0 then _ else _) = mapS of (if (S.blocks + 1) % 64 = 0 then _ else _)
  by_cases h1 : (S.blocks + 1) % 64 = 0
  · rw [if_pos h1, if_pos h1]; rfl
  · rw [if_neg h1, if_neg h1]; rfl
theorem addS_rng {S : MkS Int} {b : List Int} (hb : ∀ x ∈ b, rng8 x) (hL : ∀ l ∈ S.lows, ∀ x ∈ l, rng8 x) : ∀ l ∈ (addS (fun x y => decide (x = y)) S b).lows, ∀ x ∈ l, rng8 x := by
  unfold addS
  simp only
  split
  · exact numB_rng hb hL
  · exact numB_rng hb hL
end
end Go.Proofs.Ytabbabkmojaoaaa
