/- several texts in one: RR4 RR5 -/
import Derived.Test.YtabbabkmojaoaaaQ8
import Derived.Test.YtabbabkmojaoaaaQ9
import Derived.Test.YtabbabkmojaoaaaQA
import Derived.Test.YtabbabkmojaoaaaTV
set_option linter.unusedVariables false
set_option linter.unusedSimpArgs false
/-
  TrieReads: a patch ('cut').
-/
namespace Go.Proofs.Ytabbabkmojaoaaa
open Go.RowKit
attribute [local go_sem] Oper.semAt_some

theorem anyC_cp {F : Fence} {nF : Nat} {P : Program} {md : Region.Mode} {ops : Array Oper} {Q : Exit → Act → World → Prop} {C : World → Prop} {M : List Nat} {i : Nat} {o : Oper} {f : Nat} {l : Array Bool} {act : Act} {t e : TypeId} {z : Value} {bytes : Nat} (el : ElemN P t e z 1 bytes) {w : World} (hr : Region.ready md ops l = [i]) (hi : ops[i]? = some o) (hc : calmOp o = true)
    (hwt : Region.wanted o (yielded ops act.tmps) = true) (x : Operand)
    (ho : o.op = .call { callee := .builtin .append, args := #[.const (.slice none 0 0), x], argTypes := #[t, t] })
    {a2 : Option Addr} {m c : Nat} {ys : List Value} (hys : ys.length = m) (hsrc : ∀ j v, ys[j]? = some v → ∃ ad, a2 = some ad ∧ w.cell? (ad.add j) = some v) (hnone : a2 = none → c = 0) (hone : ∀ u ∈ ys, u.oneCell' = true) (hn : m * bytes ≤ 140737488355328) (hm : m ≤ maxLen)
    (hx : act.eval x = .slice a2 m c)
    (hC : ∀ w', Below w.heap.size w w' → C w')
    (h : ∀ a' cap' w', Own w.heap.size e w' a' m cap' ys → Below w.heap.size w w' → anyC F nF P md ops Q M C f (l.setIfInBounds i true) (act.put o.dst (.slice a' m cap')) w') :
    anyC F nF P md ops Q M C (f + 1) l act w := by
  obtain ⟨a', c', w', hr', ho', hg, -⟩ := exec_appSN el (act := act) (.const (.slice none 0 0)) x ho (World.ownsRow_nil w w.heap.size e 1) (Nat.le_refl _) (ys := ys) (by simpa using hys) hsrc hnone hone (by simpa using hn) (by simpa using hm) rfl hx
  rw [Nat.zero_add] at hr' ho'
  rw [List.nil_append] at ho'
  have hb : Below w.heap.size w w' := (Below.refl _ w).grown hg (Nat.le_refl _) (fun k e => by cases e)
  exact anyC_one hr hi hc hwt (v := .slice a' m c') (w' := w') hr' (hC w' hb) (h a' c' w' ho' hb)
theorem three_boxesP (w : World) (c0 c1 c2 : Array Value) (t0 t1 t2 : TypeId) : Below w.heap.size w (((w.alloc (.cells c0 t0)).alloc (.cells c1 t1)).alloc (.cells c2 t2)) ∧ (((w.alloc (.cells c0 t0)).alloc (.cells c1 t1)).alloc (.cells c2 t2)).heap[w.heap.size]? = some (.cells c0 t0 (0, 0)) ∧
    (((w.alloc (.cells c0 t0)).alloc (.cells c1 t1)).alloc (.cells c2 t2)).heap[w.heap.size + 1]? = some (.cells c1 t1 (0, 0)) ∧ (((w.alloc (.cells c0 t0)).alloc (.cells c1 t1)).alloc (.cells c2 t2)).heap[w.heap.size + 2]? = some (.cells c2 t2 (0, 0)) ∧ (((w.alloc (.cells c0 t0)).alloc (.cells c1 t1)).alloc (.cells c2 t2)).heap.size = w.heap.size + 3 := by
  obtain ⟨h1, h2, h3, h4⟩ := two_boxes w c0 c1 t0 t1
  have h5 := (Below.refl _ ((w.alloc (.cells c0 t0)).alloc (.cells c1 t1))).alloc (Nat.le_refl _) (.cells c2 t2)
  have h6 := heap_alloc_new ((w.alloc (.cells c0 t0)).alloc (.cells c1 t1)) (.cells c2 t2)
  rw [h4] at h6
  exact ⟨h1.trans (h5.mono h1.size), (h5.block _ (by omega)).trans h2, (h5.block _ (by omega)).trans h3, h6, by rw [World.size_alloc, h4]⟩
/-- parts in rows of one's own -/
def PartsO (z : Nat) (w : World) (pv : Value) (T M : List Nat) (L : List Int) : Prop := ∃ aT cT aM cM aL cL, pv = .agg #[.slice aT T.length cT, .slice aM M.length cM, .slice aL L.length cL] ∧ Own z 91 w aT T.length cT (ivs .u16 (natsI T)) ∧ Own z 91 w aM M.length cM (ivs .u16 (natsI M)) ∧ Own z 5 w aL L.length cL (ivs .u8 L) ∧ Dis3 aT aM aL
theorem PartsO.v {z : Nat} {w : World} {pv : Value} {T M : List Nat} {L : List Int} (h : PartsO z w pv T M L) : PartsV w pv T M L := by
  obtain ⟨_, _, _, _, _, _, e, h1, h2, h3, -⟩ := h
  exact ⟨_, _, _, _, _, _, e, h1.ints, h2.ints, h3.ints⟩
theorem PartsO.below {z B : Nat} {w w' : World} {pv : Value} {T M : List Nat} {L : List Int} (h : PartsO z w pv T M L) (hb : Below B w w') (hB : w.heap.size ≤ B) : PartsO z w' pv T M L := by
  obtain ⟨_, _, _, _, _, _, e, h1, h2, h3, h4⟩ := h
  exact ⟨_, _, _, _, _, _, e, h1.below hb hB, h2.below hb hB, h3.below hb hB, h4⟩
theorem PartsO.mono {z z' : Nat} {w : World} {pv : Value} {T M : List Nat} {L : List Int} (h : PartsO z w pv T M L) (hz : z' ≤ z) : PartsO z' w pv T M L := by
  obtain ⟨_, _, _, _, _, _, e, h1, h2, h3, h4⟩ := h
  exact ⟨_, _, _, _, _, _, e, h1.mono hz, h2.mono hz, h3.mono hz, h4⟩
/-- parts with a patch -/
def cutL (st at_ : Int) (tv : Nat) (T M : List Nat) (L : List Int) : List Nat × List Nat × List Int :=
  if st = 0 then (T.set (placeN at_ T.length) tv, M, L)
  else if st = 1 then (T, M.set (placeN at_ M.length) tv, L)
  else if st = 2 then (T, M, L.set (placeN at_ L.length) ((tv : Int) % 256))
  else if st = 3 then (T.take (placeN at_ (T.length + 1)), M, L)
  else if st = 4 then (T, M.take (placeN at_ (M.length + 1)), L)
  else if st = 5 then (T, M, L.take (placeN at_ (L.length + 1)))
  else if st = 6 then (T, M ++ List.replicate 64 0, L)
  else if st = 7 then (T, M, L ++ List.replicate 64 0)
  else if st = 8 then (T ++ [tv], M, L)
  else (T, M, L)
/-- behind the cases -/
def CutJ (z : Nat) (u : World) (R : List Nat × List Nat × List Int) (vT vM vL : Value) (W : World) : Prop := ∃ aT cT aM cM aL cL, vT = .slice aT R.1.length cT ∧ vM = .slice aM R.2.1.length cM ∧ vL = .slice aL R.2.2.length cL ∧
  Own z 91 W aT R.1.length cT (ivs .u16 (natsI R.1)) ∧ Own z 91 W aM R.2.1.length cM (ivs .u16 (natsI R.2.1)) ∧ Own z 5 W aL R.2.2.length cL (ivs .u8 R.2.2) ∧ Dis3 aT aM aL ∧ Below z u W
theorem CutJ.dr {z : Nat} {u : World} {R : List Nat × List Nat × List Int} {a b c : Value} {W : World} (h : CutJ z u R a b c W) : CutJ z u R a b c W.drew := by
  obtain ⟨_, _, _, _, _, _, e1, e2, e3, h1, h2, h3, h4, h5⟩ := h
  exact ⟨_, _, _, _, _, _, e1, e2, e3, World.ownsRow.drew h1, World.ownsRow.drew h2, World.ownsRow.drew h3, h4, h5.drew⟩
theorem natsI_set (l : List Nat) (i x : Nat) : natsI (l.set i x) = (natsI l).set i (x : Int) := by simp [natsI, List.map_set]
theorem natsI_take (l : List Nat) (k : Nat) : natsI (l.take k) = (natsI l).take k := by simp [natsI]
theorem natsI_zeros (n : Nat) : natsI (List.replicate n 0) = List.replicate n 0 := by simp [natsI]
theorem Own.grownO {B : Nat} {E : TypeId} {w w' : World} {a : Option Addr} {n c : Nat} {xs : List Value} {row : Option Nat} (h : Own B E w a n c xs) (hg : w.grownBy w' row) (hne : ∀ k, row = some k → blkO a ≠ some k) : Own B E w' a n c xs :=
  ownsRow_at h (fun k e => hg.block k (World.ownsRow.lt h k e).2 (fun e2 => hne k e2.symm ((ownBlock_eq a n c).symm.trans e)))
theorem one_valsP (w : World) (u : Value) (E : TypeId) : Vals (w.alloc (.cells #[u] E)) (some ⟨w.heap.size, 0, none⟩) [u] := by
  intro i hi
  have hi0 : i = 0 := by simp at hi; exact hi
  subst hi0
  refine ⟨w.heap.size, 0, rfl, ?_⟩
  have := cell_of_row (w.alloc (.cells #[u] E)) w.heap.size 0 #[u] E (0, 0) (heap_alloc_new w _)
  exact this
theorem Try.elemI8N : ElemN Try.prog 77 5 (.int .u8 0) 1 1 := ⟨Try.underlying77, by kernel_rfl, by kernel_rfl, by decide⟩
theorem Try.elemI16N : ElemN Try.prog 76 91 (.int .u16 0) 1 2 := ⟨Try.underlying76, by kernel_rfl, by kernel_rfl, by decide⟩
theorem Try.elemI8z : Elem Try.prog 77 5 (.int .u8 0) 1 := ⟨Try.underlying77, by kernel_rfl, by kernel_rfl⟩
theorem new_blk {w : World} {a a' : Option Addr} {n c n' c' : Nat} (h : newBlock w (.slice a n c) (.slice a' n' c')) : blkO a' = blkO a ∨ ∃ g, blkO a' = some g ∧ w.heap.size ≤ g := by
  unfold newBlock at h
  rw [ownBlock_eq, ownBlock_eq] at h
  exact h
theorem Dis3.newT {z : Nat} {aT aM aL a' : Option Addr} (h : Dis3 aT aM aL) (hn : blkO a' = blkO aT ∨ ∃ g, blkO a' = some g ∧ z ≤ g) (hM : ∀ k, blkO aM = some k → k < z) (hL : ∀ k, blkO aL = some k → k < z) : Dis3 a' aM aL := by
  refine ⟨fun k e => ?_, h.2⟩
  rcases hn with h1 | ⟨g, h1, h2⟩
  · exact h.1 k (h1 ▸ e)
  · rw [h1] at e
    cases e
    exact ⟨fun e => by have := hM _ e; omega, fun e => by have := hL _ e; omega⟩
theorem Dis3.newM {z : Nat} {aT aM aL a' : Option Addr} (h : Dis3 aT aM aL) (hn : blkO a' = blkO aM ∨ ∃ g, blkO a' = some g ∧ z ≤ g) (hT : ∀ k, blkO aT = some k → k < z) (hL : ∀ k, blkO aL = some k → k < z) : Dis3 aT a' aL := by
  refine ⟨fun k e => ⟨fun e2 => ?_, (h.1 k e).2⟩, fun k e => ?_⟩
  · rcases hn with h1 | ⟨g, h1, h2⟩
    · exact (h.1 k e).1 (h1 ▸ e2)
    · rw [h1] at e2; cases e2; have := hT _ e; omega
  · rcases hn with h1 | ⟨g, h1, h2⟩
    · exact h.2 k (h1 ▸ e)
    · rw [h1] at e; cases e; exact fun e => by have := hL _ e; omega
theorem Dis3.newL {z : Nat} {aT aM aL a' : Option Addr} (h : Dis3 aT aM aL) (hn : blkO a' = blkO aL ∨ ∃ g, blkO a' = some g ∧ z ≤ g) (hT : ∀ k, blkO aT = some k → k < z) (hM : ∀ k, blkO aM = some k → k < z) : Dis3 aT aM a' := by
  refine ⟨fun k e => ⟨(h.1 k e).1, fun e2 => ?_⟩, fun k e e2 => ?_⟩
  · rcases hn with h1 | ⟨g, h1, h2⟩
    · exact (h.1 k e).2 (h1 ▸ e2)
    · rw [h1] at e2; cases e2; have := hT _ e; omega
  · rcases hn with h1 | ⟨g, h1, h2⟩
    · exact h.2 k e (h1 ▸ e2)
    · rw [h1] at e2; cases e2; have := hM _ e; omega
theorem Own.blt {B : Nat} {E : TypeId} {w : World} {a : Option Addr} {n c : Nat} {xs : List Value} (h : Own B E w a n c xs) : ∀ k, blkO a = some k → B ≤ k ∧ k < w.heap.size := fun k e => World.ownsRow.lt h k ((ownBlock_eq _ _ _).trans e)
set_option maxRecDepth 100000 in
set_option maxHeartbeats 1600000 in
theorem patch_walk (w : World) (z : Nat) (st at_ : Int) (tv : Nat) (pv : Value) (T M : List Nat) (L : List Int) (hz : z ≤ w.heap.size) (hT : T.length ≤ 1073741824) (hM : M.length ≤ 1073741824) (hL : L.length ≤ 1073741824) (hat : -9223372036854775808 ≤ at_ ∧ at_ ≤ 9223372036854775807) (hto : tv ≤ 65535) (hp : PartsO z w pv T M L) :
    Calls Try.prog 51 #[.agg #[.int .i64 st, .int .i64 at_, .int .u16 (tv : Nat)], pv] w fun e w' => ∃ pv', e = .returned pv' ∧ PartsO w.heap.size w' pv' (cutL st at_ tv T M L).1 (cutL st at_ tv T M L).2.1 (cutL st at_ tv T M L).2.2 ∧ Below w.heap.size w w' := by
  obtain ⟨aT, cT, aM, cM, aL, cL, rfl, oT, oM, oL, -⟩ := hp
  obtain ⟨nT, hnT⟩ : ∃ n, T.length = n := ⟨_, rfl⟩
  obtain ⟨nM, hnM⟩ : ∃ n, M.length = n := ⟨_, rfl⟩
  obtain ⟨nL, hnL⟩ : ∃ n, L.length = n := ⟨_, rfl⟩
  rw [hnT] at hT oT ⊢; rw [hnM] at hM oM ⊢; rw [hnL] at hL oL ⊢
  have HnT := Lib.hid hnT; have HnM := Lib.hid hnM; have HnL := Lib.hid hnL
  have HT := Lib.hid oT; have HM := Lib.hid oM; have HL := Lib.hid oL
  have HAt := Lib.hid hat; have HTo := Lib.hid hto
  clear hnT hnM hnL oT oM oL hat hto
  obtain ⟨b0, hb0⟩ : ∃ b0, b0 = w.heap.size := ⟨_, rfl⟩
  obtain ⟨W, hW⟩ : ∃ W, W = ((w.alloc (.cells #[.int .i64 st, .int .i64 at_, .int .u16 (tv : Nat)] 95)).alloc (.cells #[.slice aT nT cT, .slice aM nM cM, .slice aL nL cL] 79)).alloc (.cells #[.slice none 0 0, .slice none 0 0, .slice none 0 0] 79) := ⟨_, rfl⟩
  have HP : Hid (Below w.heap.size w W ∧ W.heap[b0]? = some (.cells #[.int .i64 st, .int .i64 at_, .int .u16 (tv : Nat)] 95 (0, 0)) ∧ W.heap[b0 + 1]? = some (.cells #[.slice aT nT cT, .slice aM nM cM, .slice aL nL cL] 79 (0, 0)) ∧ W.heap[b0 + 2]? = some (.cells #[.slice none 0 0, .slice none 0 0, .slice none 0 0] 79 (0, 0)) ∧ W.heap.size = b0 + 3) := Lib.hid (by
    rw [hb0, hW]
    exact three_boxesP w _ _ _ _ _ _)
  have HW := Lib.hid hW; have HBz := Lib.hid hb0; clear hW hb0
  go_enter Try.func51, Try.ntmps51
  go_upto_region 1 with (fail)
  rw [← HW.out, ← HBz.out]
  have e2b : b0 + 1 + 1 = b0 + 2 := rfl
  try rw [e2b]
  clear e2b
  refine (wpIn_wide (n := 2)).1 ?_
  refine wpIn_region_calm [9, 10, 11] (fun w' : World => w'.heap[b0 + 1]? = some (.cells #[.slice aT nT cT, .slice aM nM cM, .slice aL nL cL] 79 (0, 0))) (by kernel_rfl) ?_
  have HCx : Hid ((fun w' : World => w'.heap[b0 + 1]? = some (.cells #[.slice aT nT cT, .slice aM nM cM, .slice aL nL cL] 79 (0, 0))) W.drew) := Lib.hid HP.out.2.2.1
  have HQ : Hid (Below w.heap.size w W.drew ∧ W.drew.heap[b0]? = some (.cells #[.int .i64 st, .int .i64 at_, .int .u16 (tv : Nat)] 95 (0, 0)) ∧ W.drew.heap[b0 + 2]? = some (.cells #[.slice none 0 0, .slice none 0 0, .slice none 0 0] 79 (0, 0)) ∧ W.drew.heap.size = b0 + 3) := Lib.hid ⟨HP.out.1.drew, HP.out.2.1, HP.out.2.2.2.1, HP.out.2.2.2.2⟩
  generalize W.drew = v0 at *
  have HZ0 := Lib.hid HQ.out.2.2.2
  refine' anyC_take (i := 0) (v := _) [1, 2, 5, 8, 9, 10, 11] (by kernel_rfl) rfl (by kernel_rfl) (fun _ _ _ h => h) (by rfl) ?h0 HCx.out ?k0
  case h0 =>
    intro w' c0
    have d0 := cell_of_row w' (b0 + 1) 0 _ _ (0, 0) c0
    have d1 := cell_of_row w' (b0 + 1) 1 _ _ (0, 0) c0
    have d2 := cell_of_row w' (b0 + 1) 2 _ _ (0, 0) c0
    simp at d0 d1 d2
    clear c0
    go_simp
    try with_reducible rfl
  simp only [List.getElem_toArray, List.getElem_cons_zero, List.getElem_cons_succ, Act.put, List.setIfInBounds_toArray, List.set_cons_zero, List.set_cons_succ]
  refine' anyC_take (i := 1) (v := _) [2, 5, 8, 9, 10, 11] (by kernel_rfl) rfl (by kernel_rfl) (fun _ _ _ h => h) (by rfl) ?h1 HCx.out ?k1
  case h1 =>
    intro w' c0
    have d0 := cell_of_row w' (b0 + 1) 0 _ _ (0, 0) c0
    have d1 := cell_of_row w' (b0 + 1) 1 _ _ (0, 0) c0
    have d2 := cell_of_row w' (b0 + 1) 2 _ _ (0, 0) c0
    simp at d0 d1 d2
    clear c0
    go_simp
    try with_reducible rfl
  simp only [List.getElem_toArray, List.getElem_cons_zero, List.getElem_cons_succ, Act.put, List.setIfInBounds_toArray, List.set_cons_zero, List.set_cons_succ]
  refine' anyC_take (i := 3) (v := _) [4, 5, 8, 9, 10, 11] (by kernel_rfl) rfl (by kernel_rfl) (fun _ _ _ h => h) (by rfl) ?h3 HCx.out ?k3
  case h3 =>
    intro w' c0
    have d0 := cell_of_row w' (b0 + 1) 0 _ _ (0, 0) c0
    have d1 := cell_of_row w' (b0 + 1) 1 _ _ (0, 0) c0
    have d2 := cell_of_row w' (b0 + 1) 2 _ _ (0, 0) c0
    simp at d0 d1 d2
    clear c0
    go_simp
    try with_reducible rfl
  simp only [List.getElem_toArray, List.getElem_cons_zero, List.getElem_cons_succ, Act.put, List.setIfInBounds_toArray, List.set_cons_zero, List.set_cons_succ]
  refine' anyC_take (i := 4) (v := _) [5, 8, 9, 10, 11] (by kernel_rfl) rfl (by kernel_rfl) (fun _ _ _ h => h) (by rfl) ?h4 HCx.out ?k4
  case h4 =>
    intro w' c0
    have d0 := cell_of_row w' (b0 + 1) 0 _ _ (0, 0) c0
    have d1 := cell_of_row w' (b0 + 1) 1 _ _ (0, 0) c0
    have d2 := cell_of_row w' (b0 + 1) 2 _ _ (0, 0) c0
    simp at d0 d1 d2
    clear c0
    go_simp
    try with_reducible rfl
  simp only [List.getElem_toArray, List.getElem_cons_zero, List.getElem_cons_succ, Act.put, List.setIfInBounds_toArray, List.set_cons_zero, List.set_cons_succ]
  refine' anyC_take (i := 6) (v := _) [7, 8, 9, 10, 11] (by kernel_rfl) rfl (by kernel_rfl) (fun _ _ _ h => h) (by rfl) ?h6 HCx.out ?k6
  case h6 =>
    intro w' c0
    have d0 := cell_of_row w' (b0 + 1) 0 _ _ (0, 0) c0
    have d1 := cell_of_row w' (b0 + 1) 1 _ _ (0, 0) c0
    have d2 := cell_of_row w' (b0 + 1) 2 _ _ (0, 0) c0
    simp at d0 d1 d2
    clear c0
    go_simp
    try with_reducible rfl
  simp only [List.getElem_toArray, List.getElem_cons_zero, List.getElem_cons_succ, Act.put, List.setIfInBounds_toArray, List.set_cons_zero, List.set_cons_succ]
  refine' anyC_take (i := 7) (v := _) [8, 9, 10, 11] (by kernel_rfl) rfl (by kernel_rfl) (fun _ _ _ h => h) (by rfl) ?h7 HCx.out ?k7
  case h7 =>
    intro w' c0
    have d0 := cell_of_row w' (b0 + 1) 0 _ _ (0, 0) c0
    have d1 := cell_of_row w' (b0 + 1) 1 _ _ (0, 0) c0
    have d2 := cell_of_row w' (b0 + 1) 2 _ _ (0, 0) c0
    simp at d0 d1 d2
    clear c0
    go_simp
    try with_reducible rfl
  simp only [List.getElem_toArray, List.getElem_cons_zero, List.getElem_cons_succ, Act.put, List.setIfInBounds_toArray, List.set_cons_zero, List.set_cons_succ]
  refine anyC_cp (i := 2) Try.elemI16N (by kernel_rfl) rfl (by kernel_rfl) (by rfl) (.tmp 9) rfl (by rw [ivs_length, natsI_length, HnT.out]) (HT.out.ints.below HQ.out.1 (Nat.le_refl _)).src (own_none HT.out) (ivs_one _ _) (by omega) (by unfold maxLen; omega) rfl (fun w' hb => (hb.block (b0 + 1) (Array.getElem?_eq_some_iff.1 HCx.out).1).trans HCx.out) ?_
  intro gT dT v1 oT hb
  simp only [List.getElem_toArray, List.getElem_cons_zero, List.getElem_cons_succ, Act.put, List.setIfInBounds_toArray, List.set_cons_zero, List.set_cons_succ]
  replace HCx := Lib.hid ((hb.block (b0 + 1) (Array.getElem?_eq_some_iff.1 HCx.out).1).trans HCx.out)
  have hsz : v0.heap.size ≤ v1.heap.size := hb.size
  have HQ1 : Hid (Below w.heap.size w v1 ∧ v1.heap[b0]? = some (.cells #[.int .i64 st, .int .i64 at_, .int .u16 (tv : Nat)] 95 (0, 0)) ∧ v1.heap[b0 + 2]? = some (.cells #[.slice none 0 0, .slice none 0 0, .slice none 0 0] 79 (0, 0)) ∧ b0 + 3 ≤ v1.heap.size) := Lib.hid ⟨HQ.out.1.trans (hb.mono HQ.out.1.size), (hb.block _ (Array.getElem?_eq_some_iff.1 HQ.out.2.1).1).trans HQ.out.2.1, (hb.block _ (Array.getElem?_eq_some_iff.1 HQ.out.2.2.1).1).trans HQ.out.2.2.1, by have := HQ.out.2.2.2; omega⟩
  have HOT := Lib.hid oT
  have HKT := Lib.hid oT.blt
  have HS1 := Lib.hid hsz
  clear hb hsz oT HQ
  have HQ := HQ1
  refine anyC_cp (i := 5) Try.elemI16N (by kernel_rfl) rfl (by kernel_rfl) (by rfl) (.tmp 12) rfl (by rw [ivs_length, natsI_length, HnM.out]) (HM.out.ints.below HQ.out.1 (Nat.le_refl _)).src (own_none HM.out) (ivs_one _ _) (by omega) (by unfold maxLen; omega) rfl (fun w' hb => (hb.block (b0 + 1) (Array.getElem?_eq_some_iff.1 HCx.out).1).trans HCx.out) ?_
  intro gM dM v2 oM hb
  simp only [List.getElem_toArray, List.getElem_cons_zero, List.getElem_cons_succ, Act.put, List.setIfInBounds_toArray, List.set_cons_zero, List.set_cons_succ]
  replace HCx := Lib.hid ((hb.block (b0 + 1) (Array.getElem?_eq_some_iff.1 HCx.out).1).trans HCx.out)
  have hsz : v1.heap.size ≤ v2.heap.size := hb.size
  have HQ2 : Hid (Below w.heap.size w v2 ∧ v2.heap[b0]? = some (.cells #[.int .i64 st, .int .i64 at_, .int .u16 (tv : Nat)] 95 (0, 0)) ∧ v2.heap[b0 + 2]? = some (.cells #[.slice none 0 0, .slice none 0 0, .slice none 0 0] 79 (0, 0)) ∧ b0 + 3 ≤ v2.heap.size) := Lib.hid ⟨HQ.out.1.trans (hb.mono HQ.out.1.size), (hb.block _ (Array.getElem?_eq_some_iff.1 HQ.out.2.1).1).trans HQ.out.2.1, (hb.block _ (Array.getElem?_eq_some_iff.1 HQ.out.2.2.1).1).trans HQ.out.2.2.1, by have := HQ.out.2.2.2; omega⟩
  have HOM := Lib.hid oM
  have HKM := Lib.hid oM.blt
  have HS2 := Lib.hid hsz
  replace HOT := Lib.hid (HOT.out.below hb (Nat.le_refl _))
  clear hb hsz oM HQ
  have HQ := HQ2
  refine anyC_cp (i := 8) Try.elemI8N (by kernel_rfl) rfl (by kernel_rfl) (by rfl) (.tmp 15) rfl (by rw [ivs_length, HnL.out]) (HL.out.ints.below HQ.out.1 (Nat.le_refl _)).src (own_none HL.out) (ivs_one _ _) (by omega) (by unfold maxLen; omega) rfl (fun w' hb => (hb.block (b0 + 1) (Array.getElem?_eq_some_iff.1 HCx.out).1).trans HCx.out) ?_
  intro gL dL v3 oL hb
  simp only [List.getElem_toArray, List.getElem_cons_zero, List.getElem_cons_succ, Act.put, List.setIfInBounds_toArray, List.set_cons_zero, List.set_cons_succ]
  replace HCx := Lib.hid ((hb.block (b0 + 1) (Array.getElem?_eq_some_iff.1 HCx.out).1).trans HCx.out)
  have hsz : v2.heap.size ≤ v3.heap.size := hb.size
  have HQ3 : Hid (Below w.heap.size w v3 ∧ v3.heap[b0]? = some (.cells #[.int .i64 st, .int .i64 at_, .int .u16 (tv : Nat)] 95 (0, 0)) ∧ v3.heap[b0 + 2]? = some (.cells #[.slice none 0 0, .slice none 0 0, .slice none 0 0] 79 (0, 0)) ∧ b0 + 3 ≤ v3.heap.size) := Lib.hid ⟨HQ.out.1.trans (hb.mono HQ.out.1.size), (hb.block _ (Array.getElem?_eq_some_iff.1 HQ.out.2.1).1).trans HQ.out.2.1, (hb.block _ (Array.getElem?_eq_some_iff.1 HQ.out.2.2.1).1).trans HQ.out.2.2.1, by have := HQ.out.2.2.2; omega⟩
  have HOL := Lib.hid oL
  have HKL := Lib.hid oL.blt
  have HS3 := Lib.hid hsz
  replace HOT := Lib.hid (HOT.out.below hb (Nat.le_refl _))
  replace HOM := Lib.hid (HOM.out.below hb (Nat.le_refl _))
  clear hb hsz oL HQ
  have HQ := HQ3
  have HDis : Hid (Dis3 gT gM gL ∧ Own (b0 + 3) 91 v3 gT nT dT (ivs .u16 (natsI T)) ∧ Own (b0 + 3) 91 v3 gM nM dM (ivs .u16 (natsI M)) ∧ Own (b0 + 3) 5 v3 gL nL dL (ivs .u8 L)) := Lib.hid (by
    have h0 := HZ0.out
    have h1 := HS1.out
    have h2 := HS2.out
    refine ⟨⟨fun q e => ⟨fun e2 => ?_, fun e2 => ?_⟩, fun q e e2 => ?_⟩, HOT.out.mono (by omega), HOM.out.mono (by omega), HOL.out.mono (by omega)⟩
    · have a1 := HKT.out q e; have a2 := HKM.out q e2; omega
    · have a1 := HKT.out q e; have a2 := HKL.out q e2; omega
    · have a1 := HKM.out q e; have a2 := HKL.out q e2; omega)
  have HSzs : Hid (b0 + 3 ≤ v3.heap.size) := Lib.hid HQ.out.2.2.2
  refine anyC_tail 9 (by rfl) (by kernel_rfl) (by kernel_rfl) ?_
  simp only [List.drop_succ_cons, List.drop_zero]
  clear HOT HOM HOL HKT HKM HKL HS1 HS2 HS3 HQ1 HQ2 HQ3 HZ0 HCx
  gi_wp2
  go_step
  go_cut [5, 6, 7] from 17 to 106 (CutJ (b0 + 3) v3 (cutL st at_ tv T M L))
  case first =>
    have p0 := cell_of_row v3 b0 0 _ _ (0, 0) HQ.out.2.1
    have p1 := cell_of_row v3 b0 1 _ _ (0, 0) HQ.out.2.1
    have p2 := cell_of_row v3 b0 2 _ _ (0, 0) HQ.out.2.1
    simp at p0 p1 p2
    have hcs : st = 0 ∨ st = 1 ∨ st = 2 ∨ st = 3 ∨ st = 4 ∨ st = 5 ∨ st = 6 ∨ st = 7 ∨ st = 8 ∨ (¬ st = 0 ∧ ¬ st = 1 ∧ ¬ st = 2 ∧ ¬ st = 3 ∧ ¬ st = 4 ∧ ¬ st = 5 ∧ ¬ st = 6 ∧ ¬ st = 7 ∧ ¬ st = 8) := by omega
    rcases hcs with rfl | rfl | rfl | rfl | rfl | rfl | rfl | rfl | rfl | hno
    · have HE : Hid (cutL 0 at_ tv T M L = (T.set (placeN at_ nT) tv, M, L)) := Lib.hid (by simp [cutL, HnT.out])
      have HT0 : Hid (nT = 0 → T.set (placeN at_ nT) tv = T) := Lib.hid (fun h => by rw [List.eq_nil_of_length_eq_zero (HnT.out.trans h)]; rfl)
      by_cases h0 : 0 < nT
      · have h0i : (0 : Int) < (nT : Int) := by omega
        obtain ⟨g, hg, -⟩ := Own.at HDis.out.2.1 h0
        subst hg
        have hk := placeN_lt (i := at_) h0
        have hxl : placeN at_ nT < (ivs .u16 (natsI T)).length := by rw [Own.len HDis.out.2.1]; exact hk
        have c0 := Own.cell HDis.out.2.1 (placeN at_ nT) hxl
        have f0 := Own.unfrozen HDis.out.2.1 (placeN at_ nT)
        have HJ : Hid (CutJ (b0 + 3) v3 (T.set (placeN at_ nT) tv, M, L) (.slice (some ⟨g, 0, none⟩) nT dT) (.slice gM nM dM) (.slice gL nL dL) (v3.setCell ⟨g, placeN at_ nT, none⟩ (.int .u16 (tv : Nat)))) := Lib.hid ⟨_, _, gM, dM, gL, dL, by rw [List.length_set, HnT.out], by rw [HnM.out], by rw [HnL.out], by rw [List.length_set, HnT.out, natsI_set, ← ivs_set]; exact Own.store HDis.out.2.1 _ _, by rw [HnM.out]; exact Own.grownO HDis.out.2.2.1 (grown_store v3 g _ _) (fun k e => by cases e; exact (HDis.out.1.1 g rfl).1), by rw [HnL.out]; exact Own.grownO HDis.out.2.2.2 (grown_store v3 g _ _) (fun k e => by cases e; exact (HDis.out.1.1 g rfl).2), HDis.out.1, (Below.refl _ _).setCell (p := ⟨g, placeN at_ nT, none⟩) (HDis.out.2.1.blt g rfl).1 _⟩
        have hkl : (placeN at_ nT : Int) < (nT : Int) := Int.ofNat_lt.2 hk
        have hk0 : (0 : Int) ≤ (placeN at_ nT : Int) := Int.natCast_nonneg _
        have HPl : Hid (∀ w : World, Calls Try.prog 102 #[.int .i64 at_, .int .i64 (nT : Nat)] w fun e w' => e = .returned (.int .i64 ((placeN at_ nT : Nat) : Int)) ∧ w = w') := Lib.hid (fun w => place_walk at_ nT w h0 (by omega) HAt.out)
        obtain ⟨old, hold⟩ : ∃ old, old = (ivs .u16 (natsI T))[placeN at_ nT] := ⟨_, rfl⟩
        rw [← hold] at c0
        clear hold hxl hk h0
        generalize placeN at_ nT = k at *
        have HJ2 := Lib.hid HJ
        clear HJ
        go_wp2
        go_region_law (go_simp; go_at_call 102; refine (HPl.out _).mono ?_; rintro e w' ⟨rfl, rfl⟩)
        all_goals
          go_wp2
          go_meet
          rw [HE.out]
          exact HJ2.out.dr
      · obtain rfl : nT = 0 := by omega
        have h0i : ¬ (0 : Int) < ((0 : Nat) : Int) := by omega
        rw [HT0.out rfl] at HE
        go_wp2
        go_meet
        rw [HE.out]
        exact ⟨gT, dT, gM, dM, gL, dL, by rw [HnT.out], by rw [HnM.out], by rw [HnL.out], by rw [HnT.out]; exact HDis.out.2.1, by rw [HnM.out]; exact HDis.out.2.2.1, by rw [HnL.out]; exact HDis.out.2.2.2, HDis.out.1, Below.refl _ _⟩
    · have HE : Hid (cutL 1 at_ tv T M L = (T, M.set (placeN at_ nM) tv, L)) := Lib.hid (by simp [cutL, HnM.out])
      have HT0 : Hid (nM = 0 → M.set (placeN at_ nM) tv = M) := Lib.hid (fun h => by rw [List.eq_nil_of_length_eq_zero (HnM.out.trans h)]; rfl)
      by_cases h0 : 0 < nM
      · have h0i : (0 : Int) < (nM : Int) := by omega
        obtain ⟨g, hg, -⟩ := Own.at HDis.out.2.2.1 h0
        subst hg
        have hk := placeN_lt (i := at_) h0
        have hxl : placeN at_ nM < (ivs .u16 (natsI M)).length := by rw [Own.len HDis.out.2.2.1]; exact hk
        have c0 := Own.cell HDis.out.2.2.1 (placeN at_ nM) hxl
        have f0 := Own.unfrozen HDis.out.2.2.1 (placeN at_ nM)
        have HJ : Hid (CutJ (b0 + 3) v3 (T, M.set (placeN at_ nM) tv, L) (.slice gT nT dT) (.slice (some ⟨g, 0, none⟩) nM dM) (.slice gL nL dL) (v3.setCell ⟨g, placeN at_ nM, none⟩ (.int .u16 (tv : Nat)))) := Lib.hid ⟨gT, dT, _, _, gL, dL, by rw [HnT.out], by rw [List.length_set, HnM.out], by rw [HnL.out], by rw [HnT.out]; exact Own.grownO HDis.out.2.1 (grown_store v3 g _ _) (fun k e => by cases e; exact (fun e => (HDis.out.1.1 _ e).1 rfl)), by rw [List.length_set, HnM.out, natsI_set, ← ivs_set]; exact Own.store HDis.out.2.2.1 _ _, by rw [HnL.out]; exact Own.grownO HDis.out.2.2.2 (grown_store v3 g _ _) (fun k e => by cases e; exact (HDis.out.1.2 g rfl)), HDis.out.1, (Below.refl _ _).setCell (p := ⟨g, placeN at_ nM, none⟩) (HDis.out.2.2.1.blt g rfl).1 _⟩
        have hkl : (placeN at_ nM : Int) < (nM : Int) := Int.ofNat_lt.2 hk
        have hk0 : (0 : Int) ≤ (placeN at_ nM : Int) := Int.natCast_nonneg _
        have HPl : Hid (∀ w : World, Calls Try.prog 102 #[.int .i64 at_, .int .i64 (nM : Nat)] w fun e w' => e = .returned (.int .i64 ((placeN at_ nM : Nat) : Int)) ∧ w = w') := Lib.hid (fun w => place_walk at_ nM w h0 (by omega) HAt.out)
        obtain ⟨old, hold⟩ : ∃ old, old = (ivs .u16 (natsI M))[placeN at_ nM] := ⟨_, rfl⟩
        rw [← hold] at c0
        clear hold hxl hk h0
        generalize placeN at_ nM = k at *
        have HJ2 := Lib.hid HJ
        clear HJ
        go_wp2
        go_region_law (go_simp; go_at_call 102; refine (HPl.out _).mono ?_; rintro e w' ⟨rfl, rfl⟩)
        all_goals
          go_wp2
          go_meet
          rw [HE.out]
          exact HJ2.out.dr
      · obtain rfl : nM = 0 := by omega
        have h0i : ¬ (0 : Int) < ((0 : Nat) : Int) := by omega
        rw [HT0.out rfl] at HE
        go_wp2
        go_meet
        rw [HE.out]
        exact ⟨gT, dT, gM, dM, gL, dL, by rw [HnT.out], by rw [HnM.out], by rw [HnL.out], by rw [HnT.out]; exact HDis.out.2.1, by rw [HnM.out]; exact HDis.out.2.2.1, by rw [HnL.out]; exact HDis.out.2.2.2, HDis.out.1, Below.refl _ _⟩
    · have HE : Hid (cutL 2 at_ tv T M L = (T, M, L.set (placeN at_ nL) ((tv : Int) % 256))) := Lib.hid (by simp [cutL, HnL.out])
      have HT0 : Hid (nL = 0 → L.set (placeN at_ nL) ((tv : Int) % 256) = L) := Lib.hid (fun h => by rw [List.eq_nil_of_length_eq_zero (HnL.out.trans h)]; rfl)
      by_cases h0 : 0 < nL
      · have h0i : (0 : Int) < (nL : Int) := by omega
        obtain ⟨g, hg, -⟩ := Own.at HDis.out.2.2.2 h0
        subst hg
        have hk := placeN_lt (i := at_) h0
        have hxl : placeN at_ nL < (ivs .u8 (L)).length := by rw [Own.len HDis.out.2.2.2]; exact hk
        have c0 := Own.cell HDis.out.2.2.2 (placeN at_ nL) hxl
        have f0 := Own.unfrozen HDis.out.2.2.2 (placeN at_ nL)
        have HJ : Hid (CutJ (b0 + 3) v3 (T, M, L.set (placeN at_ nL) ((tv : Int) % 256)) (.slice gT nT dT) (.slice gM nM dM) (.slice (some ⟨g, 0, none⟩) nL dL) (v3.setCell ⟨g, placeN at_ nL, none⟩ (.int .u8 ((tv : Int) % 256)))) := Lib.hid ⟨gT, dT, gM, dM, _, _, by rw [HnT.out], by rw [HnM.out], by rw [List.length_set, HnL.out], by rw [HnT.out]; exact Own.grownO HDis.out.2.1 (grown_store v3 g _ _) (fun k e => by cases e; exact (fun e => (HDis.out.1.1 _ e).2 rfl)), by rw [HnM.out]; exact Own.grownO HDis.out.2.2.1 (grown_store v3 g _ _) (fun k e => by cases e; exact (fun e => HDis.out.1.2 _ e rfl)), by rw [List.length_set, HnL.out, ← ivs_set]; exact Own.store HDis.out.2.2.2 _ _, HDis.out.1, (Below.refl _ _).setCell (p := ⟨g, placeN at_ nL, none⟩) (HDis.out.2.2.2.blt g rfl).1 _⟩
        have hkl : (placeN at_ nL : Int) < (nL : Int) := Int.ofNat_lt.2 hk
        have hk0 : (0 : Int) ≤ (placeN at_ nL : Int) := Int.natCast_nonneg _
        have HPl : Hid (∀ w : World, Calls Try.prog 102 #[.int .i64 at_, .int .i64 (nL : Nat)] w fun e w' => e = .returned (.int .i64 ((placeN at_ nL : Nat) : Int)) ∧ w = w') := Lib.hid (fun w => place_walk at_ nL w h0 (by omega) HAt.out)
        obtain ⟨old, hold⟩ : ∃ old, old = (ivs .u8 (L))[placeN at_ nL] := ⟨_, rfl⟩
        rw [← hold] at c0
        clear hold hxl hk h0
        generalize placeN at_ nL = k at *
        have HJ2 := Lib.hid HJ
        clear HJ
        go_wp2
        go_region_law (go_simp; go_at_call 102; refine (HPl.out _).mono ?_; rintro e w' ⟨rfl, rfl⟩)
        all_goals
          go_wp2
          go_meet
          rw [HE.out]
          exact HJ2.out.dr
      · obtain rfl : nL = 0 := by omega
        have h0i : ¬ (0 : Int) < ((0 : Nat) : Int) := by omega
        rw [HT0.out rfl] at HE
        go_wp2
        go_meet
        rw [HE.out]
        exact ⟨gT, dT, gM, dM, gL, dL, by rw [HnT.out], by rw [HnM.out], by rw [HnL.out], by rw [HnT.out]; exact HDis.out.2.1, by rw [HnM.out]; exact HDis.out.2.2.1, by rw [HnL.out]; exact HDis.out.2.2.2, HDis.out.1, Below.refl _ _⟩
    · have hk : placeN at_ (nT + 1) ≤ nT := Nat.le_of_lt_succ (placeN_lt (Nat.succ_pos _))
      have hlen : (T.take (placeN at_ (nT + 1))).length = placeN at_ (nT + 1) := by rw [List.length_take, HnT.out]; exact Nat.min_eq_left hk
      have HE : Hid (cutL 3 at_ tv T M L = (T.take (placeN at_ (nT + 1)), M, L)) := Lib.hid (by simp [cutL, HnT.out])
      have HJ : Hid (CutJ (b0 + 3) v3 (T.take (placeN at_ (nT + 1)), M, L) (.slice gT (placeN at_ (nT + 1)) dT) (.slice gM nM dM) (.slice gL nL dL) v3) := Lib.hid ⟨_, _, gM, dM, gL, dL, by rw [hlen], by rw [HnM.out], by rw [HnL.out], by rw [hlen]; show Own _ _ _ _ _ _ (ivs .u16 (natsI (T.take (placeN at_ (nT + 1))))); rw [natsI_take, ← ivs_take]; exact Own.take HDis.out.2.1 _ hk, by rw [HnM.out]; exact HDis.out.2.2.1, by rw [HnL.out]; exact HDis.out.2.2.2, HDis.out.1, Below.refl _ _⟩
      have hcap := (Own.cap HDis.out.2.1).1
      have hk0 : (0 : Int) ≤ (placeN at_ (nT + 1) : Int) := Int.natCast_nonneg _
      have hkc : (placeN at_ (nT + 1) : Int) ≤ (dT : Int) := Int.ofNat_le.2 (Nat.le_trans hk hcap)
      have HPl : Hid (∀ w : World, Calls Try.prog 102 #[.int .i64 at_, .int .i64 ((nT : Int) + 1)] w fun e w' => e = .returned (.int .i64 ((placeN at_ (nT + 1) : Nat) : Int)) ∧ w = w') := Lib.hid (fun w => by
        have h := place_walk at_ (nT + 1) w (Nat.succ_pos _) (by omega) HAt.out
        have e : ((nT + 1 : Nat) : Int) = (nT : Int) + 1 := by omega
        rw [e] at h
        exact h)
      clear hlen hk hcap
      obtain ⟨k, hkd⟩ : ∃ k, k = placeN at_ (nT + 1) := ⟨_, rfl⟩
      rw [← hkd] at hk0 hkc HPl HJ HE
      clear hkd
      go_wp2_with fail
      refine (HPl.out _).mono ?_
      rintro e w' ⟨rfl, rfl⟩
      clear HPl
      go_wp2
      go_meet
      rw [HE.out]
      exact HJ.out
    · have hk : placeN at_ (nM + 1) ≤ nM := Nat.le_of_lt_succ (placeN_lt (Nat.succ_pos _))
      have hlen : (M.take (placeN at_ (nM + 1))).length = placeN at_ (nM + 1) := by rw [List.length_take, HnM.out]; exact Nat.min_eq_left hk
      have HE : Hid (cutL 4 at_ tv T M L = (T, M.take (placeN at_ (nM + 1)), L)) := Lib.hid (by simp [cutL, HnM.out])
      have HJ : Hid (CutJ (b0 + 3) v3 (T, M.take (placeN at_ (nM + 1)), L) (.slice gT nT dT) (.slice gM (placeN at_ (nM + 1)) dM) (.slice gL nL dL) v3) := Lib.hid ⟨gT, dT, _, _, gL, dL, by rw [HnT.out], by rw [hlen], by rw [HnL.out], by rw [HnT.out]; exact HDis.out.2.1, by rw [hlen]; show Own _ _ _ _ _ _ (ivs .u16 (natsI (M.take (placeN at_ (nM + 1))))); rw [natsI_take, ← ivs_take]; exact Own.take HDis.out.2.2.1 _ hk, by rw [HnL.out]; exact HDis.out.2.2.2, HDis.out.1, Below.refl _ _⟩
      have hcap := (Own.cap HDis.out.2.2.1).1
      have hk0 : (0 : Int) ≤ (placeN at_ (nM + 1) : Int) := Int.natCast_nonneg _
      have hkc : (placeN at_ (nM + 1) : Int) ≤ (dM : Int) := Int.ofNat_le.2 (Nat.le_trans hk hcap)
      have HPl : Hid (∀ w : World, Calls Try.prog 102 #[.int .i64 at_, .int .i64 ((nM : Int) + 1)] w fun e w' => e = .returned (.int .i64 ((placeN at_ (nM + 1) : Nat) : Int)) ∧ w = w') := Lib.hid (fun w => by
        have h := place_walk at_ (nM + 1) w (Nat.succ_pos _) (by omega) HAt.out
        have e : ((nM + 1 : Nat) : Int) = (nM : Int) + 1 := by omega
        rw [e] at h
        exact h)
      clear hlen hk hcap
      obtain ⟨k, hkd⟩ : ∃ k, k = placeN at_ (nM + 1) := ⟨_, rfl⟩
      rw [← hkd] at hk0 hkc HPl HJ HE
      clear hkd
      go_wp2_with fail
      refine (HPl.out _).mono ?_
      rintro e w' ⟨rfl, rfl⟩
      clear HPl
      go_wp2
      go_meet
      rw [HE.out]
      exact HJ.out
    · have hk : placeN at_ (nL + 1) ≤ nL := Nat.le_of_lt_succ (placeN_lt (Nat.succ_pos _))
      have hlen : (L.take (placeN at_ (nL + 1))).length = placeN at_ (nL + 1) := by rw [List.length_take, HnL.out]; exact Nat.min_eq_left hk
      have HE : Hid (cutL 5 at_ tv T M L = (T, M, L.take (placeN at_ (nL + 1)))) := Lib.hid (by simp [cutL, HnL.out])
      have HJ : Hid (CutJ (b0 + 3) v3 (T, M, L.take (placeN at_ (nL + 1))) (.slice gT nT dT) (.slice gM nM dM) (.slice gL (placeN at_ (nL + 1)) dL) v3) := Lib.hid ⟨gT, dT, gM, dM, _, _, by rw [HnT.out], by rw [HnM.out], by rw [hlen], by rw [HnT.out]; exact HDis.out.2.1, by rw [HnM.out]; exact HDis.out.2.2.1, by rw [hlen]; show Own _ _ _ _ _ _ (ivs .u8 ((L.take (placeN at_ (nL + 1))))); rw [← ivs_take]; exact Own.take HDis.out.2.2.2 _ hk, HDis.out.1, Below.refl _ _⟩
      have hcap := (Own.cap HDis.out.2.2.2).1
      have hk0 : (0 : Int) ≤ (placeN at_ (nL + 1) : Int) := Int.natCast_nonneg _
      have hkc : (placeN at_ (nL + 1) : Int) ≤ (dL : Int) := Int.ofNat_le.2 (Nat.le_trans hk hcap)
      have HPl : Hid (∀ w : World, Calls Try.prog 102 #[.int .i64 at_, .int .i64 ((nL : Int) + 1)] w fun e w' => e = .returned (.int .i64 ((placeN at_ (nL + 1) : Nat) : Int)) ∧ w = w') := Lib.hid (fun w => by
        have h := place_walk at_ (nL + 1) w (Nat.succ_pos _) (by omega) HAt.out
        have e : ((nL + 1 : Nat) : Int) = (nL : Int) + 1 := by omega
        rw [e] at h
        exact h)
      clear hlen hk hcap
      obtain ⟨k, hkd⟩ : ∃ k, k = placeN at_ (nL + 1) := ⟨_, rfl⟩
      rw [← hkd] at hk0 hkc HPl HJ HE
      clear hkd
      go_wp2_with fail
      refine (HPl.out _).mono ?_
      rintro e w' ⟨rfl, rfl⟩
      clear HPl
      go_wp2
      go_meet
      rw [HE.out]
      exact HJ.out
    · have hlen : (M ++ List.replicate 64 0).length = nM + 64 := by rw [List.length_append, List.length_replicate, HnM.out]
      have HE : Hid (cutL 6 at_ tv T M L = (T, M ++ List.replicate 64 0, L)) := Lib.hid (by simp [cutL])
      obtain ⟨a', c', w', hr, ho, hg, hn⟩ := run_app_zeros (ty := 76) Try.elemI16 Try.underlying3 rfl rfl v3 (b0 + 3) _ _ _ _ HDis.out.2.2.1 64 (by decide) (by unfold maxLen; omega) (by omega) HSzs.out .i64
      have HJ : Hid (CutJ (b0 + 3) v3 (T, M ++ List.replicate 64 0, L) (.slice gT nT dT) (.slice a' (nM + 64) c') (.slice gL nL dL) w') := Lib.hid ⟨gT, dT, _, _, gL, dL, by rw [HnT.out], by rw [hlen], by rw [HnL.out], by rw [HnT.out]; exact Own.grownO HDis.out.2.1 hg (fun k e => by have e1 := (ownBlock_eq _ _ _).symm.trans e; exact (fun e2 => (HDis.out.1.1 _ e2).1 e1)), by rw [hlen, natsI_append, natsI_zeros, ivs_append, ← ivs_replicate]; exact ho, by rw [HnL.out]; exact Own.grownO HDis.out.2.2.2 hg (fun k e => by have e1 := (ownBlock_eq _ _ _).symm.trans e; exact (HDis.out.1.2 _ e1)), HDis.out.1.newM (new_blk hn) (fun k e => (HDis.out.2.1.blt k e).2) (fun k e => (HDis.out.2.2.2.blt k e).2), (Below.refl (b0 + 3) v3).grown hg HSzs.out (fun k e => (HDis.out.2.2.1.blt k ((ownBlock_eq _ _ _).symm.trans e)).1)⟩
      clear hlen ho hg hn
      go_wp2_with (at_builtin; refine Lib.wpList_append_run _ rfl _ _ _ _ rfl _ _ rfl rfl _ _ hr ?_)
      clear hr
      go_wp2
      go_meet
      rw [HE.out]
      exact HJ.out
    · have hlen : (L ++ List.replicate 64 0).length = nL + 64 := by rw [List.length_append, List.length_replicate, HnL.out]
      have HE : Hid (cutL 7 at_ tv T M L = (T, M, L ++ List.replicate 64 0)) := Lib.hid (by simp [cutL])
      obtain ⟨a', c', w', hr, ho, hg, hn⟩ := run_app_zeros (ty := 77) Try.elemI8z Try.underlying3 rfl rfl v3 (b0 + 3) _ _ _ _ HDis.out.2.2.2 64 (by decide) (by unfold maxLen; omega) (by omega) HSzs.out .i64
      have HJ : Hid (CutJ (b0 + 3) v3 (T, M, L ++ List.replicate 64 0) (.slice gT nT dT) (.slice gM nM dM) (.slice a' (nL + 64) c') w') := Lib.hid ⟨gT, dT, gM, dM, _, _, by rw [HnT.out], by rw [HnM.out], by rw [hlen], by rw [HnT.out]; exact Own.grownO HDis.out.2.1 hg (fun k e => by have e1 := (ownBlock_eq _ _ _).symm.trans e; exact (fun e2 => (HDis.out.1.1 _ e2).2 e1)), by rw [HnM.out]; exact Own.grownO HDis.out.2.2.1 hg (fun k e => by have e1 := (ownBlock_eq _ _ _).symm.trans e; exact (fun e2 => HDis.out.1.2 _ e2 e1)), by rw [hlen, ivs_append, ← ivs_replicate]; exact ho, HDis.out.1.newL (new_blk hn) (fun k e => (HDis.out.2.1.blt k e).2) (fun k e => (HDis.out.2.2.1.blt k e).2), (Below.refl (b0 + 3) v3).grown hg HSzs.out (fun k e => (HDis.out.2.2.2.blt k ((ownBlock_eq _ _ _).symm.trans e)).1)⟩
      clear hlen ho hg hn
      go_wp2_with (at_builtin; refine Lib.wpList_append_run _ rfl _ _ _ _ rfl _ _ rfl rfl _ _ hr ?_)
      clear hr
      go_wp2
      go_meet
      rw [HE.out]
      exact HJ.out
    · have hlen : (T ++ [tv]).length = nT + 1 := by rw [List.length_append, HnT.out]; rfl
      have HE : Hid (cutL 8 at_ tv T M L = (T ++ [tv], M, L)) := Lib.hid (by simp [cutL])
      have hb1 : (nT + 1) * 2 ≤ 140737488355328 := by omega
      have hb2 : nT + 1 ≤ maxLen := by unfold maxLen; omega
      have HV1 := Lib.hid (one_valsP v3 (.int .u16 (tv : Nat)) 91)
      have HOa := Lib.hid (World.ownsRow.alloc HDis.out.2.1 (.cells #[.int .u16 (tv : Nat)] 91))
      have HSa : Hid (b0 + 3 ≤ (v3.alloc (.cells #[.int .u16 (tv : Nat)] 91)).heap.size) := Lib.hid (by have := HSzs.out; simp; omega)
      go_wp2_with (at_builtin; refine wpList_appS Try.elemI16 rfl (.tmp 102) (.tmp 105) rfl HOa.out HSa.out (ys := [.int .u16 (tv : Nat)]) rfl HV1.out (by simp) (by intro u hu; simp at hu; subst hu; rfl) hb1 hb2 rfl rfl ?_)
      intro a9 c9 w9 ho9 hg9 hn9
      have HJ : Hid (CutJ (b0 + 3) v3 (T ++ [tv], M, L) (.slice a9 (nT + 1) c9) (.slice gM nM dM) (.slice gL nL dL) w9) := Lib.hid ⟨_, _, gM, dM, gL, dL, by rw [hlen], by rw [HnM.out], by rw [HnL.out], by rw [hlen, natsI_append, ivs_append]; exact ho9, by rw [HnM.out]; exact Own.grownO (World.ownsRow.alloc HDis.out.2.2.1 _) hg9 (fun k e => by have e1 := (ownBlock_eq _ _ _).symm.trans e; exact (HDis.out.1.1 _ e1).1), by rw [HnL.out]; exact Own.grownO (World.ownsRow.alloc HDis.out.2.2.2 _) hg9 (fun k e => by have e1 := (ownBlock_eq _ _ _).symm.trans e; exact (HDis.out.1.1 _ e1).2), HDis.out.1.newT (z := v3.heap.size) (by rcases new_blk hn9 with h | ⟨g, h1, h2⟩; exact .inl h; exact .inr ⟨g, h1, by simp at h2; omega⟩) (fun k e => (HDis.out.2.2.1.blt k e).2) (fun k e => (HDis.out.2.2.2.blt k e).2), ((Below.refl (b0 + 3) v3).alloc HSzs.out _).grown hg9 (by have := HSzs.out; simp; omega) (fun k e => (HDis.out.2.1.blt k ((ownBlock_eq _ _ _).symm.trans e)).1)⟩
      clear hlen ho9 hg9 hn9
      go_wp2
      go_meet
      rw [HE.out]
      exact HJ.out
    · obtain ⟨h0, h1, h2, h3, h4, h5, h6, h7, h8⟩ := hno
      have HE : Hid (cutL st at_ tv T M L = (T, M, L)) := Lib.hid (by simp [cutL, h0, h1, h2, h3, h4, h5, h6, h7, h8])
      have n0 : (st == 0) = false := beq_false_of_ne h0
      have n1 : (st == 1) = false := beq_false_of_ne h1
      have n2 : (st == 2) = false := beq_false_of_ne h2
      have n3 : (st == 3) = false := beq_false_of_ne h3
      have n4 : (st == 4) = false := beq_false_of_ne h4
      have n5 : (st == 5) = false := beq_false_of_ne h5
      have n6 : (st == 6) = false := beq_false_of_ne h6
      have n7 : (st == 7) = false := beq_false_of_ne h7
      have n8 : (st == 8) = false := beq_false_of_ne h8
      clear h0 h1 h2 h3 h4 h5 h6 h7 h8
      go_wp2
      go_meet
      rw [HE.out]
      exact ⟨gT, dT, gM, dM, gL, dL, by rw [HnT.out], by rw [HnM.out], by rw [HnL.out], by rw [HnT.out]; exact HDis.out.2.1, by rw [HnM.out]; exact HDis.out.2.2.1, by rw [HnL.out]; exact HDis.out.2.2.2, HDis.out.1, Below.refl _ _⟩
  case rest =>
    obtain ⟨gT2, dT2, gM2, dM2, gL2, dL2, rfl, rfl, rfl, oT, oM, oL, hd, hb⟩ := hcut
    obtain ⟨⟨RT, RM, RL⟩, hR⟩ : ∃ R, R = cutL st at_ tv T M L := ⟨_, rfl⟩
    rw [← hR] at oT oM oL ⊢
    have HR := Lib.hid hR
    clear hR
    simp only at oT oM oL ⊢
    have HX := Lib.hid ((hb.block (b0 + 2) (by omega)).trans HQ.out.2.2.1)
    have HBe := Lib.hid (HQ.out.1.trans (hb.mono (by have := HBz.out; omega)))
    have HOr := Lib.hid (And.intro oT (And.intro oM (And.intro oL hd)))
    clear oT oM oL hd hb
    obtain ⟨mT, hmT⟩ : ∃ m, RT.length = m := ⟨_, rfl⟩
    obtain ⟨mM, hmM⟩ : ∃ m, RM.length = m := ⟨_, rfl⟩
    obtain ⟨mL, hmL⟩ : ∃ m, RL.length = m := ⟨_, rfl⟩
    have HmT := Lib.hid hmT; have HmM := Lib.hid hmM; have HmL := Lib.hid hmL
    rw [hmT, hmM, hmL] at HOr ⊢
    clear hmT hmM hmL
    have r0 := cell_of_row wc (b0 + 2) 0 _ _ (0, 0) HX.out
    have r1 := cell_of_row wc (b0 + 2) 1 _ _ (0, 0) HX.out
    have r2 := cell_of_row wc (b0 + 2) 2 _ _ (0, 0) HX.out
    have f0 := frozen_of_row wc (b0 + 2) 0 _ _ HX.out
    have f1 := frozen_of_row wc (b0 + 2) 1 _ _ HX.out
    have f2 := frozen_of_row wc (b0 + 2) 2 _ _ HX.out
    simp at r0 r1 r2
    have y1 := heap_setCell_same wc (b0 + 2) 0 _ _ (.slice gT2 mT dT2) HX.out
    have y2 := heap_setCell_same _ (b0 + 2) 1 _ _ (.slice gM2 mM dM2) y1
    have y3 := heap_setCell_same _ (b0 + 2) 2 _ _ (.slice gL2 mL dL2) y2
    have hg : wc.grownBy (((wc.setCell ⟨b0 + 2, 0, none⟩ (.slice gT2 mT dT2)).setCell ⟨b0 + 2, 1, none⟩ (.slice gM2 mM dM2)).setCell ⟨b0 + 2, 2, none⟩ (.slice gL2 mL dL2)) (some (b0 + 2)) := grown_trans (grown_trans (grown_store wc (b0 + 2) 0 _) (grown_store _ (b0 + 2) 1 _)) (grown_store _ (b0 + 2) 2 _)
    have HY := Lib.hid y3; have HG := Lib.hid hg
    clear y1 y2 y3 hg
    go_wp2
    refine bodyPost_ret (results_cell_row rfl _ _ (b0 + 2) _ _ _ _ rfl HY.out Try.underlying79 rfl rfl) rfl ?_
    have kp : ∀ {E : TypeId} {q : Option Addr} {n d : Nat} {xs : List Value}, Own (b0 + 3) E wc q n d xs → Own (b0 + 3) E (((wc.setCell ⟨b0 + 2, 0, none⟩ (.slice gT2 mT dT2)).setCell ⟨b0 + 2, 1, none⟩ (.slice gM2 mM dM2)).setCell ⟨b0 + 2, 2, none⟩ (.slice gL2 mL dL2)) q n d xs := fun h => h.grown HG.out (.inr (fun e => by have := (World.ownsRow.lt h (b0 + 2) e).1; omega))
    have hzb : w.heap.size ≤ b0 + 3 := by have := HBz.out; omega
    rw [← HR.out]
    refine ⟨_, rfl, ⟨gT2, dT2, gM2, dM2, gL2, dL2, ?_, ?_, ?_, ?_, HOr.out.2.2.2⟩, HBe.out.grown HG.out HBe.out.size (fun k e => by cases e; have := HBz.out; omega)⟩
    · rw [HmT.out, HmM.out, HmL.out]
      rfl
    · rw [HmT.out]; exact (kp HOr.out.1).mono hzb
    · rw [HmM.out]; exact (kp HOr.out.2.1).mono hzb
    · rw [HmL.out]; exact (kp HOr.out.2.2.1).mono hzb
end Go.Proofs.Ytabbabkmojaoaaa

/-
  TrieReads: what the statement keeps: the parts on their way; memory that lies far off.
-/
namespace Go.Proofs.Ytabbabkmojaoaaa
open Go.RowKit
attribute [local go_sem] Oper.semAt_some

/-- a step that copies a list -/
theorem step_cp {F : Fence} {nF : Nat} {P : Program} {md : Region.Mode} {ops : Array Oper} {Q : Exit → Act → World → Prop} {C : World → Prop} {M : List Nat} {i : Nat} {o : Oper} {f : Nat} {l : Array Bool} {act : Act} {t e : TypeId} {z : Value} {bytes : Nat} (el : ElemN P t e z 1 bytes) {w : World} (hi : ops[i]? = some o) (hc : okOp o = true)
    (hab : ∀ f, o.about P w act.eval = some f → F.fn f)
    (hwt : Region.wanted o (yielded ops act.tmps) = true) (x : Operand)
    (ho : o.op = .call { callee := .builtin .append, args := #[.const (.slice none 0 0), x], argTypes := #[t, t] })
    {a2 : Option Addr} {m c : Nat} {ys : List Value} (hys : ys.length = m) (hsrc : ∀ j v, ys[j]? = some v → ∃ ad, a2 = some ad ∧ w.cell? (ad.add j) = some v) (hnone : a2 = none → c = 0) (hone : ∀ u ∈ ys, u.oneCell' = true) (hn : m * bytes ≤ 140737488355328) (hm : m ≤ maxLen)
    (hx : act.eval x = .slice a2 m c)
    (hC : ∀ w', Below w.heap.size w w' → C w')
    (h : ∀ a' cap' w', Own w.heap.size e w' a' m cap' ys → Below w.heap.size w w' → anyC F nF P md ops Q M C f (l.setIfInBounds i true) (act.put o.dst (.slice a' m cap')) w') :
    wpOpIn F nF P ops Q i (fun a' w' => (i ∉ M → C w') ∧ anyC F nF P md ops Q M C f (l.setIfInBounds i true) a' w') act w := by
  obtain ⟨a', c', w', hr', ho', hg, -⟩ := exec_appSN el (act := act) (.const (.slice none 0 0)) x ho (World.ownsRow_nil w w.heap.size e 1) (Nat.le_refl _) (ys := ys) (by simpa using hys) hsrc hnone hone (by simpa using hn) (by simpa using hm) rfl hx
  rw [Nat.zero_add] at hr' ho'
  rw [List.nil_append] at ho'
  have hb : Below w.heap.size w w' := (Below.refl _ w).grown hg (Nat.le_refl _) (fun k e => by cases e)
  exact stepV hi hc hab hwt hr' (fun _ => hC w' hb) (h a' c' w' ho' hb)
/-- a lane of nothing: a block that stays -/
def keepJ (b : Nat) (o : Obj) (l : Array Bool) (t : Array Value) (T : Nat → Prop) (w : World) : Prop := w.heap[b]? = some o ∧ T b
theorem keepJ_loc {b : Nat} {o : Obj} {l l' : Array Bool} {t t' : Array Value} {T : Nat → Prop} {w w' : World} (h : keepJ b o l t T w) (hk : ∀ k, T k → w'.heap[k]? = w.heap[k]?) : keepJ b o l' t' T w' := ⟨(hk b h.2).trans h.1, h.2⟩
/-- a lane of nothing: blocks that stay -/
def keepS (S : Nat → Prop) (w0 : World) (l : Array Bool) (t : Array Value) (T : Nat → Prop) (w : World) : Prop := ∀ k, S k → w.heap[k]? = w0.heap[k]? ∧ T k
theorem keepS_loc {S : Nat → Prop} {w0 : World} {l l' : Array Bool} {t t' : Array Value} {T : Nat → Prop} {w w' : World} (h : keepS S w0 l t T w) (hk : ∀ k, T k → w'.heap[k]? = w.heap[k]?) : keepS S w0 l' t' T w' := fun k hs => ⟨(hk k (h k hs).2).trans (h k hs).1, (h k hs).2⟩
/-- only the blocks of two rows differ -/
structure Off2 (a b : Option Addr) (w w' : World) : Prop where
  blk : ∀ k, blkO a ≠ some k → blkO b ≠ some k → w'.heap[k]? = w.heap[k]?
  sz : w'.heap.size = w.heap.size
  os : w'.os = w.os
  tape : w'.tape = w.tape
  output : w'.output = w.output
theorem Off2.refl (a b : Option Addr) (w : World) : Off2 a b w w := ⟨fun _ _ _ => rfl, rfl, rfl, rfl, rfl⟩
theorem Off2.set {a b : Option Addr} {w w' : World} (h : Off2 a b w w') (g j : Nat) (v : Value) (hg : blkO a = some g ∨ blkO b = some g) : Off2 a b w (w'.setCell ⟨g, j, none⟩ v) := by
  have hs := grown_store w' g j v
  refine ⟨fun k h1 h2 => ?_, by simpa using h.sz, hs.os.trans h.os, hs.tape.trans h.tape, hs.output.trans h.output⟩
  have hk : k ≠ g := fun e => by subst e; rcases hg with h3 | h3; exact h1 h3; exact h2 h3
  rw [heap_setCell_other w' ⟨g, j, none⟩ k _ hk]
  exact h.blk k h1 h2
theorem Off2.below {a b : Option Addr} {w w' : World} {B : Nat} (h : Off2 a b w w') (ha : ∀ k, blkO a = some k → B ≤ k) (hb : ∀ k, blkO b = some k → B ≤ k) : Below B w w' :=
  ⟨h.os, h.tape, h.output, by rw [h.sz]; exact Nat.le_refl _, fun k hk => h.blk k (fun e => by have := ha k e; omega) (fun e => by have := hb k e; omega)⟩
/-- small parts -/
structure PSm (K : Nat) (T M : List Nat) (L : List Int) : Prop where
  t : T.length ≤ K
  m : M.length ≤ K
  l : L.length ≤ K
  rt : ∀ x ∈ T, x < 65536
  rm : ∀ x ∈ M, x < 65536
  rl : ∀ x ∈ L, 0 ≤ x ∧ x ≤ 255
theorem PSm.mono {K K' : Nat} {T M : List Nat} {L : List Int} (h : PSm K T M L) (hk : K ≤ K') : PSm K' T M L := ⟨Nat.le_trans h.t hk, Nat.le_trans h.m hk, Nat.le_trans h.l hk, h.rt, h.rm, h.rl⟩
theorem mem_set_of {β : Type} {l : List β} {i : Nat} {x y : β} (h : y ∈ l.set i x) : y ∈ l ∨ y = x := List.mem_or_eq_of_mem_set h
theorem PSm.cut {K : Nat} {T M : List Nat} {L : List Int} (h : PSm K T M L) (st pl : Int) (vv : Nat) (hv : vv ≤ 65535) : PSm (K + 64) (cutL st pl vv T M L).1 (cutL st pl vv T M L).2.1 (cutL st pl vv T M L).2.2 := by
  obtain ⟨h1, h2, h3, h4, h5, h6⟩ := h
  have e1 : K ≤ K + 64 := by omega
  have hn : ∀ x, x ∈ List.replicate 64 (0 : Nat) → x < 65536 := fun x hx => by rw [(List.mem_replicate.1 hx).2]; omega
  have hz : ∀ x, x ∈ List.replicate 64 (0 : Int) → 0 ≤ x ∧ x ≤ 255 := fun x hx => by rw [(List.mem_replicate.1 hx).2]; omega
  unfold cutL
  split
  · exact ⟨by simp; omega, by simp; omega, by simp; omega, fun x hx => by rcases mem_set_of hx with h | h; exact h4 x h; omega, h5, h6⟩
  split
  · exact ⟨by simp; omega, by simp; omega, by simp; omega, h4, fun x hx => by rcases mem_set_of hx with h | h; exact h5 x h; omega, h6⟩
  split
  · exact ⟨by simp; omega, by simp; omega, by simp; omega, h4, h5, fun x hx => by rcases mem_set_of hx with h | h; exact h6 x h; omega⟩
  split
  · exact ⟨by simp; omega, by simp; omega, by simp; omega, fun x hx => h4 x (List.mem_of_mem_take hx), h5, h6⟩
  split
  · exact ⟨by simp; omega, by simp; omega, by simp; omega, h4, fun x hx => h5 x (List.mem_of_mem_take hx), h6⟩
  split
  · exact ⟨by simp; omega, by simp; omega, by simp; omega, h4, h5, fun x hx => h6 x (List.mem_of_mem_take hx)⟩
  split
  · exact ⟨by simp; omega, by simp; omega, by simp; omega, h4, fun x hx => by rcases List.mem_append.1 hx with h | h; exact h5 x h; exact hn x h, h6⟩
  split
  · exact ⟨by simp; omega, by simp; omega, by simp; omega, h4, h5, fun x hx => by rcases List.mem_append.1 hx with h | h; exact h6 x h; exact hz x h⟩
  split
  · exact ⟨by simp; omega, by simp; omega, by simp; omega, fun x hx => by rcases List.mem_append.1 hx with h | h; exact h4 x h; rw [List.mem_singleton.1 h]; omega, h5, h6⟩
  · exact ⟨by simp; omega, by simp; omega, by simp; omega, h4, h5, h6⟩
/-- the variable p: its box, its three rows -/
def PSt (w : World) (bp : Nat) (T M : List Nat) (L : List Int) (X : World) : Prop := ∃ aT cT aM cM aL cL, X.heap[bp]? = some (.cells #[.slice aT T.length cT, .slice aM M.length cM, .slice aL L.length cL] 79 (0, 0)) ∧
  Own w.heap.size 91 X aT T.length cT (ivs .u16 (natsI T)) ∧ Own w.heap.size 91 X aM M.length cM (ivs .u16 (natsI M)) ∧ Own w.heap.size 5 X aL L.length cL (ivs .u8 L) ∧ Dis3 aT aM aL ∧ (blkO aT ≠ some bp ∧ blkO aM ≠ some bp ∧ blkO aL ≠ some bp) ∧ Below w.heap.size w X ∧ w.heap.size ≤ bp
theorem PSt.below {w X X' : World} {bp : Nat} {T M : List Nat} {L : List Int} (h : PSt w bp T M L X) (hb : Below X.heap.size X X') : PSt w bp T M L X' := by
  obtain ⟨_, _, _, _, _, _, h0, h1, h2, h3, h4, h5, h6, h7⟩ := h
  exact ⟨_, _, _, _, _, _, (hb.block bp (Array.getElem?_eq_some_iff.1 h0).1).trans h0, h1.below hb (Nat.le_refl _), h2.below hb (Nat.le_refl _), h3.below hb (Nat.le_refl _), h4, h5, h6.trans (hb.mono h6.size), h7⟩
theorem PSt.o {w X : World} {bp : Nat} {T M : List Nat} {L : List Int} (h : PSt w bp T M L X) : ∃ aT cT aM cM aL cL, X.heap[bp]? = some (.cells #[.slice aT T.length cT, .slice aM M.length cM, .slice aL L.length cL] 79 (0, 0)) ∧ PartsO w.heap.size X (.agg #[.slice aT T.length cT, .slice aM M.length cM, .slice aL L.length cL]) T M L := by
  obtain ⟨aT, cT, aM, cM, aL, cL, h0, h1, h2, h3, h4, h5, h6, h7⟩ := h
  exact ⟨aT, cT, aM, cM, aL, cL, h0, aT, cT, aM, cM, aL, cL, rfl, h1, h2, h3, h4⟩
/-- new parts are put into the variable -/
theorem PSt.put0 {w X : World} {bp : Nat} {T M : List Nat} {L : List Int} {u0 u1 u2 : Value} {aT aM aL : Option Addr} {cT cM cL : Nat} (hb : X.heap[bp]? = some (.cells #[u0, u1, u2] 79 (0, 0)))
    (h1 : Own w.heap.size 91 X aT T.length cT (ivs .u16 (natsI T))) (h2 : Own w.heap.size 91 X aM M.length cM (ivs .u16 (natsI M))) (h3 : Own w.heap.size 5 X aL L.length cL (ivs .u8 L)) (h4 : Dis3 aT aM aL) (hne : blkO aT ≠ some bp ∧ blkO aM ≠ some bp ∧ blkO aL ≠ some bp) (hw : w.heap.size ≤ bp) (hB : Below w.heap.size w X) :
    PSt w bp T M L (((X.setCell ⟨bp, 0, none⟩ (.slice aT T.length cT)).setCell ⟨bp, 1, none⟩ (.slice aM M.length cM)).setCell ⟨bp, 2, none⟩ (.slice aL L.length cL)) := by
  have y1 := heap_setCell_same X bp 0 _ _ (.slice aT T.length cT) hb
  have y2 := heap_setCell_same _ bp 1 _ _ (.slice aM M.length cM) y1
  have y3 := heap_setCell_same _ bp 2 _ _ (.slice aL L.length cL) y2
  have hg : X.grownBy (((X.setCell ⟨bp, 0, none⟩ (.slice aT T.length cT)).setCell ⟨bp, 1, none⟩ (.slice aM M.length cM)).setCell ⟨bp, 2, none⟩ (.slice aL L.length cL)) (some bp) := grown_trans (grown_trans (grown_store X bp 0 _) (grown_store _ bp 1 _)) (grown_store _ bp 2 _)
  exact ⟨aT, cT, aM, cM, aL, cL, y3, Own.grownO h1 hg (fun k e => by cases e; exact hne.1), Own.grownO h2 hg (fun k e => by cases e; exact hne.2.1), Own.grownO h3 hg (fun k e => by cases e; exact hne.2.2), h4, hne, hB.grown hg hB.size (fun k e => by cases e; exact hw), hw⟩
theorem PSt.put {w X : World} {bp z : Nat} {T M : List Nat} {L : List Int} {u0 u1 u2 x0 x1 x2 : Value} (hb : X.heap[bp]? = some (.cells #[u0, u1, u2] 79 (0, 0))) (hp : PartsO z X (.agg #[x0, x1, x2]) T M L) (hz : bp < z) (hw : w.heap.size ≤ bp) (hB : Below w.heap.size w X) :
    PSt w bp T M L (((X.setCell ⟨bp, 0, none⟩ x0).setCell ⟨bp, 1, none⟩ x1).setCell ⟨bp, 2, none⟩ x2) := by
  obtain ⟨aT, cT, aM, cM, aL, cL, e, h1, h2, h3, h4⟩ := hp
  simp only [Value.agg.injEq, Array.mk.injEq, List.cons.injEq, and_true] at e
  obtain ⟨rfl, rfl, rfl⟩ := e
  have hzw : w.heap.size ≤ z := by omega
  have ne : ∀ {E : TypeId} {a : Option Addr} {n c : Nat} {xs : List Value}, Own z E X a n c xs → blkO a ≠ some bp := fun h e => by have := (h.blt bp e).1; omega
  exact PSt.put0 hb (h1.mono hzw) (h2.mono hzw) (h3.mono hzw) h4 ⟨ne h1, ne h2, ne h3⟩ hw hB
/-- the variable p, with parts of at most K numbers -/
def PEx (w : World) (bp K : Nat) (X : World) : Prop := ∃ T M L, PSt w bp T M L X ∧ PSm K T M L
def PLo (w : World) (bp K pn : Nat) (iv : Value) (X : World) : Prop := ∃ k : Nat, k ≤ pn ∧ k ≤ 8 ∧ iv = .int .i64 (k : Nat) ∧ PEx w bp (K + 64 * k) X
theorem IsRow.none {k : IntKind} {w : World} {a : Option Addr} {len cap : Nat} {zs : List Int} (h : IsRow k w a len cap zs) : a = Option.none → cap = 0 := by
  rcases h with ⟨-, -, h, -⟩ | ⟨x, h, -⟩
  · exact fun _ => h
  · exact fun e => by rw [h] at e; cases e
/-- numbers as natural ones -/
def natL (zs : List Int) : List Nat := zs.map Int.toNat
theorem natL_back {zs : List Int} (h : ∀ x ∈ zs, 0 ≤ x) : natsI (natL zs) = zs := by
  unfold natsI natL
  rw [List.map_map]
  conv => rhs; rw [← List.map_id zs]
  apply List.map_congr_left
  intro x hx
  have := h x hx
  show ((x.toNat : Nat) : Int) = x
  omega
/-- a trie stays where what changes lies below it -/
theorem TrieFar.keep {ty : TypeId} {w w' : World} {g : Nat} {T : TrieD Int} {B : Nat} (h : TrieFar ty w g T B) (ht : TrieAt val8 ty 64 w g T) (hk : ∀ k, B ≤ k → k < w.heap.size → w'.heap[k]? = w.heap[k]?) : TrieAt val8 ty 64 w' g T := by
  obtain ⟨h0, am, cm, al, cl, h1, h2, h3⟩ := h
  obtain ⟨am', cm', al', cl', k1, k2, k3⟩ := ht
  have e := h1.symm.trans k1
  simp only [Option.some.injEq, Obj.cells.injEq, true_and, and_true] at e
  have e := congrArg Array.toList e
  simp only [trieC] at e
  have e2 := List.append_inj_right e (by simp)
  simp only [List.cons.injEq, Value.slice.injEq, and_true] at e2
  obtain ⟨⟨rfl, -, rfl⟩, rfl, -, rfl⟩ := e2
  refine ⟨am, cm, al, cl, (hk g h0 (Array.getElem?_eq_some_iff.1 h1).1).trans h1, fun i hi => ?_, fun i hi => ?_⟩
  · obtain ⟨b, o, e3, hr⟩ := k2 i hi
    refine ⟨b, o, e3, fun j v hv => ?_⟩
    have hc := hr j v hv
    have hB := h2 _ e3
    rw [World.cell?_of_block (w := w) (a := ⟨b, o + i * 64 + j, none⟩) (hk b hB (World.block_lt_of_cell? w _ hc))]
    exact hc
  · obtain ⟨b, o, e3, hr⟩ := k3 i hi
    refine ⟨b, o, e3, fun j v hv => ?_⟩
    have hc := hr j v hv
    have hB := h3 _ e3
    rw [World.cell?_of_block (w := w) (a := ⟨b, o + i * 64 + j, none⟩) (hk b hB (World.block_lt_of_cell? w _ hc))]
    exact hc
theorem Ints.keep {k : IntKind} {w w' : World} {a : Option Addr} {zs : List Int} (h : Ints k w a zs) (hk : ∀ x, a = Option.some x → x.block < w.heap.size → w'.heap[x.block]? = w.heap[x.block]?) : Ints k w' a zs := by
  intro i hi
  obtain ⟨b, o, e, hc⟩ := h i hi
  refine ⟨b, o, e, ?_⟩
  have hlt : b < w.heap.size := World.block_lt_of_cell? w _ hc
  rw [World.cell?_of_block (w := w) (a := ⟨b, o + i, none⟩) (hk ⟨b, o, none⟩ e hlt)]
  exact hc
theorem FnFar.keep {w w' : World} {fv : Value} {L : List (Int × Int)} {B : Nat} (h : FnAt w fv L) (hf : FnFar B fv) (hk : ∀ k, B ≤ k → k < w.heap.size → w'.heap[k]? = w.heap[k]?) : FnAt w' fv L := by
  obtain ⟨aT, cT, aV, cV, rfl, h1, h2, h3, h4⟩ := h
  obtain ⟨_, _, _, _, _, _, e, f1, f2⟩ := hf
  simp only [Value.agg.injEq, Array.mk.injEq, List.cons.injEq, Value.slice.injEq, and_true] at e
  obtain ⟨⟨rfl, -, -⟩, rfl, -, -⟩ := e
  exact ⟨_, _, _, _, rfl, h1.keep (fun x e hx => hk _ (f1 x e) hx), h2.keep (fun x e hx => hk _ (f2 x e) hx), h3, h4⟩
theorem Far3.keep {w w' : World} {sv : Value} {S : MkS Int} {B : Nat} (h : StagesAt w sv S) (hf : Far3 B sv) (hk : ∀ k, B ≤ k → k < w.heap.size → w'.heap[k]? = w.heap[k]?) : StagesAt w' sv S := by
  obtain ⟨aT, cT, aM, cM, aL, cL, rfl, h1, h2, h3⟩ := h
  obtain ⟨_, _, _, _, _, _, _, _, _, e, f1, f2, f3⟩ := hf
  simp only [Value.agg.injEq, Array.mk.injEq, List.cons.injEq, Value.slice.injEq, and_true] at e
  obtain ⟨⟨rfl, -, -⟩, ⟨rfl, -, -⟩, rfl, -, -⟩ := e
  exact ⟨_, _, _, _, _, _, rfl, h1.keep (fun x e hx => hk _ (f1 x e) hx), h2.keep (fun x e hx => hk _ (f2 x e) hx), h3.keep (fun x e hx => hk _ (f3 x e) hx)⟩
/-- the library's Build, all ways in one -/
theorem bld_one {w : World} {rest : Int} {l : List SpanD} {e : Ending} {w' : World} (h : BldQ w rest l e w') : Below w.heap.size w w' ∧ ∃ pt pi pe, e = .returned (.tuple #[.pointer pt, .int .i64 pi, .int .i64 pe]) ∧
    ((pe = 0 ∧ ∃ g S, pt = some ⟨g, 0, none⟩ ∧ Made8 (fS rest l) S ∧ TrieAt val8 114 64 w' g (trieS S)) ∨ pe ≠ 0) := by
  obtain ⟨hb, h⟩ := h
  refine ⟨hb, ?_⟩
  rcases h with ⟨i, -, -, -, he⟩ | ⟨-, k, -, -, -, he⟩ | ⟨-, -, g, S, he, -, hM, hT⟩
  · exact ⟨_, _, _, he, .inr (by decide)⟩
  · exact ⟨_, _, _, he, .inr (by decide)⟩
  · exact ⟨_, _, _, he, .inl ⟨rfl, g, S, rfl, hM, hT⟩⟩
theorem flatV_natsI (L : List (List Nat)) : flatV num16 L = ivs .u16 (natsI L.flatten) := by
  induction L with
  | nil => rfl
  | cons l L ih =>
    have : flatV num16 (l :: L) = l.map num16 ++ flatV num16 L := rfl
    rw [this, ih, List.flatten_cons, natsI_append, ivs_append]
    congr 1
    simp [ivs, natsI, num16, Function.comp_def]
theorem flatV_val8 (L : List (List Int)) : flatV val8 L = ivs .u8 L.flatten := by
  induction L with
  | nil => rfl
  | cons l L ih =>
    have : flatV val8 (l :: L) = l.map val8 ++ flatV val8 L := rfl
    rw [this, ih, List.flatten_cons, ivs_append]
    rfl
theorem partF_rng {zT zM : List Nat} {zL : List Int} (h : ∀ x ∈ zL, 0 ≤ x ∧ x ≤ 255) (r : Nat) : 0 ≤ partF zT zM zL r ∧ partF zT zM zL r ≤ 255 := by
  unfold partF
  rw [List.getD_eq_getElem?_getD]
  generalize 64 * (zM.getD (64 * zT.getD (r / 4096) 0 + r / 64 % 64) 0) + r % 64 = i
  by_cases hi : i < zL.length
  · rw [List.getElem?_eq_getElem hi]; exact h _ (List.getElem_mem hi)
  · rw [List.getElem?_eq_none (by omega)]; simp
theorem Ints.nums {w : World} {a : Option Addr} {zs : List Nat} (h : Ints .u16 w a (natsI zs)) : NumsAt w a zs := fun i hi => by
  obtain ⟨b, o, e, hc⟩ := h i (by rw [natsI_length]; exact hi)
  exact ⟨b, o, e, by rw [hc]; simp [natsI, num16]⟩
theorem Ints.rowAt {w : World} {a : Option Addr} {zs : List Int} (h : Ints .u8 w a zs) : RowAt w a zs := fun i hi => by
  obtain ⟨b, o, e, hc⟩ := h i hi
  exact ⟨b, o, e, hc⟩
theorem PEx.below {w X X' : World} {bp K : Nat} (h : PEx w bp K X) (hb : Below X.heap.size X X') : PEx w bp K X' := by
  obtain ⟨T, M, L, h1, h2⟩ := h
  exact ⟨T, M, L, h1.below hb, h2⟩
theorem PEx.bel {w X : World} {bp K : Nat} (h : PEx w bp K X) : Below w.heap.size w X ∧ w.heap.size ≤ bp ∧ bp < X.heap.size := by
  obtain ⟨T, M, L, ⟨_, _, _, _, _, _, h0, -, -, -, -, -, h6, h7⟩, -⟩ := h
  exact ⟨h6, h7, (Array.getElem?_eq_some_iff.1 h0).1⟩
theorem fS_rng0 {rest : Int} {l : List SpanD} (hr : 0 ≤ rest ∧ rest ≤ 255) (hv : ∀ s ∈ l, 0 ≤ s.v ∧ s.v ≤ 255) (r : Nat) : 0 ≤ fS rest l r ∧ fS rest l r ≤ 255 := by
  unfold fS
  by_cases h0 : ownF l (r : Nat) = 0
  · rw [if_pos h0]; exact hr
  · rw [if_neg h0]
    obtain ⟨i, hi, -, h2⟩ := ownF_some h0
    rw [h2, show ((i : Int) + 1 - 1).toNat = i by omega]
    have : l.getD i default = l[i] := by simp [hi]
    rw [this]
    exact hv _ (List.getElem_mem hi)
theorem made_small {f : Nat → Int} {S : MkS Int} (hM : Made8 f S) (hf : ∀ r, 0 ≤ f r ∧ f r ≤ 255) : PSm 1114112 S.top S.mids.flatten S.lows.flatten := by
  have h1 := flat_len _ hM.made.ok.mid
  have h2 := flat_len _ hM.made.ok.low
  have h3 := hM.ml
  have h4 := hM.ll
  have h5 := hM.made.ok.top
  refine ⟨by omega, by omega, by omega, fun x hx => ?_, fun x hx => ?_, fun x hx => ?_⟩
  · have := hM.trie.topN x hx
    have : x < S.mids.length := this
    omega
  · obtain ⟨m, hm, hx⟩ := List.mem_flatten.1 hx
    have := hM.trie.midN m hm x hx
    have : x < S.lows.length := this
    omega
  · obtain ⟨b, hb, hx⟩ := List.mem_flatten.1 hx
    obtain ⟨j, -, rfl⟩ := (hM.made.low_mem b).1 hb
    simp only [blkF, List.mem_map, List.mem_range] at hx
    obtain ⟨i, -, rfl⟩ := hx
    exact hf _
theorem parts_o {f : Nat → Int} {S : MkS Int} (hM : Made8 f S) {z : Nat} {w : World} {at_ am al : Option Addr} {ct cm cl : Nat} (h1 : Own z 91 w at_ 272 ct (S.top.map num16)) (h2 : Own z 91 w am (64 * S.mids.length) cm (flatV num16 S.mids)) (h3 : Own z 5 w al (64 * S.lows.length) cl (flatV val8 S.lows)) (hd : Dis3 at_ am al) :
    PartsO z w (.agg #[.slice at_ 272 ct, .slice am (64 * S.mids.length) cm, .slice al (64 * S.lows.length) cl]) S.top S.mids.flatten S.lows.flatten := by
  have e1 : S.top.map num16 = ivs .u16 (natsI S.top) := by simp [ivs, natsI, num16, Function.comp_def]
  refine ⟨at_, ct, am, cm, al, cl, ?_, ?_, ?_, ?_, hd⟩
  · rw [hM.made.ok.top, flat_len _ hM.made.ok.mid, flat_len _ hM.made.ok.low]
  · rw [hM.made.ok.top, ← e1]; exact h1
  · rw [flat_len _ hM.made.ok.mid, ← flatV_natsI]; exact h2
  · rw [flat_len _ hM.made.ok.low, ← flatV_val8]; exact h3
end Go.Proofs.Ytabbabkmojaoaaa
