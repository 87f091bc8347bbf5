/-
  What Across tells, held against the document's answer.
-/
import Derived.Test.YtnnfhldfdiaddaaX10
import Derived.Test.YtnnfhldfdiaddaaX5
set_option linter.unusedVariables false
namespace Go.Proofs.Ytnnfhldfdiaddaa
open Go.RowKit Go.Shelf
attribute [local go_sem] Oper.semAt_some

theorem cell_mark {w : World} {b o : Nat} {v : Value} (h : w.cell? ⟨b, o, none⟩ = some v) (D : Nat) (ob : Obj) (hne : b ≠ D) : (w.putObj D ob).cell? ⟨b, o, none⟩ = some v := by
  rw [World.cell?_of_block (w := w) (a := ⟨b, o, none⟩) (World.putObj_heap_other hne)]; exact h
theorem below_mark2 {B : Nat} {w W : World} (h : Below B w W) (D : Nat) (ob : Obj) (hD : B ≤ D) : Below B w (W.putObj D ob) :=
  h.trans ⟨rfl, rfl, rfl, by simp, fun k hk => World.putObj_heap_other (by omega)⟩
structure AxSt (W0 : World) (n1 bn bc br : Nat) (ws o : List Int) (rv : Bool) (T : Nat → Prop) (k : Nat) (W : World) : Prop where
  but : But n1 (fun k => k = bn ∨ k = bc ∨ k = br) W0 W
  n_ : W.heap[bn]? = some (.cells #[.int .i64 k] 3 (0, 0))
  c_ : W.heap[bc]? = some (.cells #[.int .i64 (colAt ws o (min k o.length))] 3 (0, 0))
  r_ : W.heap[br]? = some (.cells #[.bool rv] 4 (0, 0))
  tn : ¬ T bn
  tc : ¬ T bc
  tr : ¬ T br
  tN : ∀ k, T k → n1 ≤ k
structure Low (W0 : World) (n1 bn bc br : Nat) : Prop where
  n : bn < n1
  c : bc < n1
  r : br < n1
  h : n1 ≤ W0.heap.size
  nc : bn ≠ bc
  nr : bn ≠ br
  cr : bc ≠ br
theorem AxSt.off {W0 W W' : World} {n1 bn bc br : Nat} {ws o : List Int} {rv : Bool} {T T' : Nat → Prop} {k : Nat} (hL : Low W0 n1 bn bc br) (h : AxSt W0 n1 bn bc br ws o rv T k W) (ho : Off T W W') (hwd : Wider T T' W W') : AxSt W0 n1 bn bc br ws o rv T' k W' := by
  have hn : n1 ≤ W.heap.size := Nat.le_trans hL.h h.but.size
  have hb : ∀ b, b < n1 → ¬ T b → ¬ T' b := fun b hb hT hT' => by
    rcases hwd b hT' with h2 | h2
    · exact hT h2
    · omega
  refine ⟨h.but.off ho h.tN hn, ho.cellsBlock h.n_ h.tn, ho.cellsBlock h.c_ h.tc, ho.cellsBlock h.r_ h.tr, hb _ hL.n h.tn, hb _ hL.c h.tc, hb _ hL.r h.tr, fun k hk => ?_⟩
  rcases hwd k hk with h2 | h2
  · exact h.tN k h2
  · omega
def AxI (W0 : World) (n1 bn bc br : Nat) (ws o : List Int) (few : Int) (T : Nat → Prop) (pre : List Nat) (W : World) : Prop :=
  AxSt W0 n1 bn bc br ws o false T pre.length W ∧ pre = List.range pre.length ∧ (few < 0 ∨ (pre.length : Int) ≤ few)
def AxX (W0 : World) (n1 bn bc br : Nat) (ws o : List Int) (c : Code) (T : Nat → Prop) (pre : List Nat) (W : World) : Prop :=
  c = .ret ∧ (AxSt W0 n1 bn bc br ws o true T pre.length W ∨ ((∃ k, AxSt W0 n1 bn bc br ws o false T k W) ∧ pre ≠ List.range pre.length))
theorem AxI.abide {W0 : World} {n1 bn bc br : Nat} {ws o : List Int} {few : Int} (hL : Low W0 n1 bn bc br) : Abide (AxI W0 n1 bn bc br ws o few) := by
  rintro T T' pre W W' ⟨h, h2⟩ ho hwd
  exact ⟨h.off hL ho hwd, h2⟩
theorem AxX.abide {W0 : World} {n1 bn bc br : Nat} {ws o : List Int} (hL : Low W0 n1 bn bc br) : ∀ c, Abide (AxX W0 n1 bn bc br ws o c) := by
  rintro c T T' pre W W' ⟨hc, h | ⟨⟨k, h⟩, h2⟩⟩ ho hwd
  · exact ⟨hc, .inl (h.off hL ho hwd)⟩
  · exact ⟨hc, .inr ⟨⟨k, h.off hL ho hwd⟩, h2⟩⟩
theorem not_range {pre : List Nat} {x : Nat} (h : pre = List.range pre.length) (hx : x ≠ pre.length) : pre ++ [x] ≠ List.range (pre ++ [x]).length := by
  intro e
  rw [List.length_append, List.length_singleton, List.range_succ] at e
  have := List.append_inj_right' e rfl
  simp at this
  exact hx this

theorem set_block {W : World} {b : Nat} {v u : Value} {E : TypeId} (h : W.heap[b]? = some (.cells #[v] E (0, 0))) : (W.setCell ⟨b, 0, none⟩ u).heap[b]? = some (.cells #[u] E (0, 0)) := by
  have := heap_setCell_same W b 0 _ _ u h
  simpa using this
theorem set_other {W : World} {b k : Nat} {u : Value} {o : Obj} (h : W.heap[k]? = some o) (hne : k ≠ b) : (W.setCell ⟨b, 0, none⟩ u).heap[k]? = some o := by
  rw [heap_setCell_other W ⟨b, 0, none⟩ k _ (by simpa using hne)]; exact h
theorem kept_set (T R : Nat → Prop) (W : World) (b : Nat) (u : Value) (hT : ¬ T b) (hR : ¬ R b) : Kept T R W (W.setCell ⟨b, 0, none⟩ u) :=
  ⟨by simp, fun k hk h => heap_setCell_other W ⟨b, 0, none⟩ k _ (by rintro e; simp at e; subst e; exact h.elim hT hR)⟩
theorem AxSt.setR {W0 W : World} {n1 bn bc br : Nat} {ws o : List Int} {rv : Bool} {T : Nat → Prop} {k : Nat} (hL : Low W0 n1 bn bc br) (h : AxSt W0 n1 bn bc br ws o rv T k W) (u : Bool) : AxSt W0 n1 bn bc br ws o u T k (W.setCell ⟨br, 0, none⟩ (.bool u)) :=
  ⟨h.but.setCell br 0 _ (.inl (.inr (.inr rfl))), set_other h.n_ hL.nr, set_other h.c_ hL.cr, set_block h.r_, h.tn, h.tc, h.tr, h.tN⟩
theorem AxSt.stepEnd {W0 W : World} {n1 bn bc br : Nat} {ws o : List Int} {rv : Bool} {T : Nat → Prop} {k : Nat} (hL : Low W0 n1 bn bc br) (h : AxSt W0 n1 bn bc br ws o rv T k W) (hk : k = o.length) : AxSt W0 n1 bn bc br ws o rv T (k + 1) (W.setCell ⟨bn, 0, none⟩ (.int .i64 ((k : Int) + 1))) :=
  ⟨h.but.setCell bn 0 _ (.inl (.inl rfl)), by have := set_block (u := .int .i64 ((k : Int) + 1)) h.n_; simpa using this, by have := set_other (u := .int .i64 ((k : Int) + 1)) h.c_ hL.nc.symm; rwa [show min (k + 1) o.length = min k o.length by omega], set_other h.r_ hL.nr.symm, h.tn, h.tc, h.tr, h.tN⟩
theorem AxSt.step {W0 W : World} {n1 bn bc br : Nat} {ws o : List Int} {rv : Bool} {T : Nat → Prop} {k : Nat} (hL : Low W0 n1 bn bc br) (h : AxSt W0 n1 bn bc br ws o rv T k W) (hk : k < o.length) : AxSt W0 n1 bn bc br ws o rv T (k + 1) ((W.drew.setCell ⟨bc, 0, none⟩ (.int .i64 (colAt ws o (k + 1)))).setCell ⟨bn, 0, none⟩ (.int .i64 ((k : Int) + 1))) := by
  have hd : But n1 (fun k => k = bn ∨ k = bc ∨ k = br) W0 W.drew := ⟨h.but.os, h.but.tape, h.but.output, h.but.size, h.but.block⟩
  refine ⟨(hd.setCell bc 0 _ (.inl (.inr (.inl rfl)))).setCell bn 0 _ (.inl (.inl rfl)), ?_, ?_, ?_, h.tn, h.tc, h.tr, h.tN⟩
  · have := set_block (u := .int .i64 ((k : Int) + 1)) (set_other (W := W.drew) (u := .int .i64 (colAt ws o (k + 1))) h.n_ hL.nc)
    simpa using this
  · rw [show min (k + 1) o.length = k + 1 by omega]
    exact set_other (set_block (W := W.drew) h.c_) hL.nc.symm
  · exact set_other (set_other (W := W.drew) h.r_ hL.cr.symm) hL.nr.symm

set_option maxRecDepth 100000 in
set_option maxHeartbeats 8000000 in
theorem across25_walk (g gr : Nat) (base : Int) (lv ws : List Int) (few : Int) (w : World) (hl : IsLine w g base lv ws) (hr : IsRef w gr base lv ws) (hf : -9223372036854775808 ≤ few ∧ few ≤ 9223372036854775807) :
    Calls Try.prog 47 #[.pointer (some ⟨g, 0, none⟩), .pointer (some ⟨gr, 0, none⟩), .int .i64 few] w fun e w' => e = .returned (.bool true) ∧ Below w.heap.size w w' := by
  have HLi := Lib.hid hl
  have HRe := Lib.hid hr
  have hgl := hl.lt
  have hgr := hr.lt
  obtain ⟨n, m, aL, cL, aO, cO, aA, cA, bC, oC, cC, hn, hm, hM, hmn, hn2, iL, iO, iA, iC⟩ := hl.open
  obtain ⟨n', m', aL', cL', aW', cW', aO', cO', aA', cA', hn', hw', hm', hM', hmn', hn3', iL', iW', iO', iA'⟩ := hr.open
  obtain rfl : m = m' := by rw [← hm.out, ← hm'.out]
  obtain rfl : n = n' := by rw [← hn.out, ← hn'.out]
  have hbC : bC < w.heap.size := World.block_lt_of_cell? w _ (iC.out.get 0 (by rw [colsL_length]; omega))
  clear hl hr
  obtain ⟨w3, hw3⟩ : ∃ w3, w3 = (((w.alloc (.cells #[.pointer (some ⟨gr, 0, none⟩)] 53)).alloc (.cells #[.int .i64 few] 3)).alloc (.cells #[.bool false] 4)) := ⟨_, rfl⟩
  have H0 : Hid (w3.heap[w.heap.size]? = some (.cells #[.pointer (some ⟨gr, 0, none⟩)] 53 (0, 0)) ∧ w3.heap[w.heap.size + 1]? = some (.cells #[.int .i64 few] 3 (0, 0)) ∧ w3.heap[w.heap.size + 2]? = some (.cells #[.bool false] 4 (0, 0)) ∧ Below w.heap.size w w3 ∧ w3.heap.size = w.heap.size + 3) := by
    subst hw3
    refine Lib.hid ⟨?_, ?_, ?_, (((Below.refl _ _).alloc (Nat.le_refl _) _).alloc (by simp) _).alloc (by simp; omega) _, by simp⟩
    · rw [Below.heap_alloc _ _ _ (by simp; omega), Below.heap_alloc _ _ _ (by simp)]
      exact heap_alloc_new w _
    · rw [Below.heap_alloc _ _ _ (by simp)]
      have := heap_alloc_new (w.alloc (.cells #[.pointer (some ⟨gr, 0, none⟩)] 53)) (.cells #[.int .i64 few] 3)
      simpa using this
    · have := heap_alloc_new ((w.alloc (.cells #[.pointer (some ⟨gr, 0, none⟩)] 53)).alloc (.cells #[.int .i64 few] 3)) (.cells #[.bool false] 4)
      simpa using this
  refine calls_of_wpM Try.func47 rfl ?_
  simp only [Try.ntmps47, List.size_toArray, List.length_cons, List.length_nil, Nat.reduceAdd, Nat.reduceSub, Array.replicate_succ, Array.replicate_zero, List.push_toArray, List.append_toArray, List.nil_append, List.cons_append]
  go_upto_region 1 with (fail)
  rw [← hw3]
  have HW3 := Lib.hid hw3; clear hw3
  have qF := fun (w : World) (cs : Array Value) => run_eql_func_nil (P := Try.prog) w 60 (.func 48) #[] cs _ _ _ Try.underlying60
  go_wp2_with fail
  refine (Across_walk (.pointer (some ⟨g, 0, none⟩)) rfl w3).mono ?_
  rintro e w4 ⟨rfl, k1, hz4, hb4⟩
  have hz3 := H0.out.2.2.2.2
  rw [hz3] at k1 hz4 ⊢
  have HB4 := Lib.hid (below_seq H0.out.2.2.2.1 hb4)
  have HF4 := Lib.hid (show w4.heap[w.heap.size]? = some (.cells #[.pointer (some ⟨gr, 0, none⟩)] 53 (0, 0)) ∧ w4.heap[w.heap.size + 1]? = some (.cells #[.int .i64 few] 3 (0, 0)) ∧ w4.heap[w.heap.size + 2]? = some (.cells #[.bool false] 4 (0, 0)) from
    ⟨(hb4.block _ (by omega)).trans H0.out.1, (hb4.block _ (by omega)).trans H0.out.2.1, (hb4.block _ (by omega)).trans H0.out.2.2.1⟩)
  clear hb4
  have HK1 := Lib.hid k1
  have HZ4 := Lib.hid hz4; clear hz4 hz3
  obtain ⟨W0, hW0⟩ : ∃ W0, W0 = (w4.alloc (.cells #[.int .i64 0] 3)).alloc (.cells #[.int .i64 0] 3) := ⟨_, rfl⟩
  have HN0 : Hid (W0.heap[w4.heap.size]? = some (.cells #[.int .i64 0] 3 (0, 0)) ∧ W0.heap[w4.heap.size + 1]? = some (.cells #[.int .i64 0] 3 (0, 0)) ∧ Below w4.heap.size w4 W0 ∧ W0.heap.size = w4.heap.size + 2) := by
    subst hW0
    refine Lib.hid ⟨?_, ?_, ((Below.refl _ _).alloc (Nat.le_refl _) _).alloc (by simp) _, by simp⟩
    · rw [Below.heap_alloc _ _ _ (by simp)]
      exact heap_alloc_new w4 _
    · have := heap_alloc_new (w4.alloc (.cells #[.int .i64 0] 3)) (.cells #[.int .i64 0] 3)
      simpa using this
  go_wp2
  rw [← hW0]
  have HW0 := Lib.hid hW0; clear hW0
  have hz0 := HN0.out.2.2.2
  have hz4 := HZ4.out
  obtain ⟨bf, hbf⟩ : ∃ bf, bf = w.heap.size + 1 := ⟨_, rfl⟩
  obtain ⟨br, hbr⟩ : ∃ br, br = w.heap.size + 2 := ⟨_, rfl⟩
  obtain ⟨B1, hB1⟩ : ∃ B1, B1 = w.heap.size + 3 := ⟨_, rfl⟩
  obtain ⟨bn, hbn⟩ : ∃ bn, bn = w4.heap.size := ⟨_, rfl⟩
  obtain ⟨bc, hbc⟩ : ∃ bc, bc = w4.heap.size + 1 := ⟨_, rfl⟩
  have HB0 := Lib.hid (HB4.out.trans (HN0.out.2.2.1.mono (by omega)))
  have hcB1 : W0.cell? ⟨B1, 0, none⟩ = some (.pointer (some ⟨g, 0, none⟩)) := by
    rw [hB1, HN0.out.2.2.1.cell (p := ⟨w.heap.size + 3, 0, none⟩) (by show w.heap.size + 3 < w4.heap.size; omega)]; exact k1
  have HF0 : Hid (W0.heap[w.heap.size]? = some (.cells #[.pointer (some ⟨gr, 0, none⟩)] 53 (0, 0)) ∧ W0.heap[bf]? = some (.cells #[.int .i64 few] 3 (0, 0)) ∧ W0.heap[br]? = some (.cells #[.bool false] 4 (0, 0)) ∧ W0.heap[bn]? = some (.cells #[.int .i64 0] 3 (0, 0)) ∧ W0.heap[bc]? = some (.cells #[.int .i64 0] 3 (0, 0))) := by
    rw [hbf, hbr, hbn, hbc]
    exact Lib.hid ⟨(HN0.out.2.2.1.block _ (by omega)).trans HF4.out.1, (HN0.out.2.2.1.block _ (by omega)).trans HF4.out.2.1, (HN0.out.2.2.1.block _ (by omega)).trans HF4.out.2.2, HN0.out.1, HN0.out.2.1⟩
  rw [show w.heap.size + 1 + 1 = br by omega, ← hbf, ← hbc, ← hbn, ← hB1]
  have a1 : w.heap.size < bf := by omega
  have a2 : bf < br := by omega
  have a3 : br < B1 := by omega
  have a4 : B1 < bn := by omega
  have a5 : bn < bc := by omega
  have a6 : bc < W0.heap.size := by omega
  have hLow : Low W0 W0.heap.size bn bc br := ⟨by omega, a6, by omega, Nat.le_refl _, by omega, by omega, by omega⟩
  clear hz0 hz4 hbf hbr hB1 hbn hbc k1 HK1 HZ4 HN0 HF4 H0 HW3 HW0 HB4
  have HL0 := Lib.hid (HLi.out.below HB0.out (Nat.le_refl _))
  have HR0 := Lib.hid (HRe.out.below HB0.out (Nat.le_refl _))
  have k4 : W0.cell? ⟨g, 4, none⟩ = some (.slice (some ⟨bC, oC, none⟩) (m + 1) cC) := by rw [HB0.out.cell (p := ⟨g, 4, none⟩) hgl]; exact hM.k4
  have HSq := Lib.hid (across_seq g base lv ws B1 m bC oC cC W0 HL0.out hm.out (by omega) hcB1 k4 (iC.out.below HB0.out (Nat.le_refl _)))
  have HRng := Lib.hid (fun k => colAt_mono HLi.out.ok.range (ord lv) k)
  have e2 : W0.cell? ⟨gr, 2, none⟩ = some (.slice aW' n cW') := by rw [HB0.out.cell (p := ⟨gr, 2, none⟩) hgr]; exact hM'.k2
  have e3 : W0.cell? ⟨gr, 3, none⟩ = some (.slice aO' m cO') := by rw [HB0.out.cell (p := ⟨gr, 3, none⟩) hgr]; exact hM'.k3
  have hIW := Lib.hid (iW'.out.below HB0.out (Nat.le_refl _))
  have hIO := Lib.hid (iO'.out.below HB0.out (Nat.le_refl _))
  refine wp_rangeX (gf := 48) (lb := #[.pointer (some ⟨B1, 0, none⟩)]) rfl (enters_of Try.func48 (by kernel_rfl) rfl)
    HSq.out (Below.refl _ _) (fun k hk => by rw [hk]; omega) (fun _ => rfl)
    (AxI W0 W0.heap.size bn bc br ws (ord lv) few) (AxX W0 W0.heap.size bn bc br ws (ord lv)) (AxI.abide hLow) (AxX.abide hLow)
    ⟨⟨But.refl _ _ _, HF0.out.2.2.2.1, by simpa [colAt_zero] using HF0.out.2.2.2.2, HF0.out.2.2.1, id, id, id, fun _ h => h.elim⟩, rfl, by show few < 0 ∨ (0 : Int) ≤ few; omega⟩
    (fun tmps _ x a' _ => a' = { tmps := (((tmps.setIfInBounds 17 (.int .i64 x)).setIfInBounds 18 (.int .i64 (colAt ws (ord lv) x))).setIfInBounds 10 (.int .i64 x)).setIfInBounds 11 (.int .i64 (colAt ws (ord lv) x)), defers := [] }) (fun _ _ _ _ _ h _ => h) ?asg ?bdy ?dn ?stp
  case asg =>
    rintro l T pre x W K hi hK
    have HK := Lib.hid hK; clear hK
    simp only [encA]
    gi_wp2
    exact HK.out _ _ (Kept.refl _ _ _) hi rfl
  case bdy =>
    rintro l T pre x a' W hTl hl - ⟨hst, hpre, hfw⟩ rfl hlen
    have HST := Lib.hid hst; clear hst
    have HPre := Lib.hid hpre; clear hpre
    have n1W : W0.heap.size ≤ W.heap.size := HST.out.but.size
    have q0 := cell_of_row W bn 0 _ _ (0, 0) HST.out.n_
    have qc := cell_of_row W bc 0 _ _ (0, 0) HST.out.c_
    have qr := cell_of_row W br 0 _ _ (0, 0) HST.out.r_
    have fn := frozen_of_row W bn 0 _ _ HST.out.n_
    have fc := frozen_of_row W bc 0 _ _ HST.out.c_
    have fr := frozen_of_row W br 0 _ _ HST.out.r_
    simp at q0 qc qr
    by_cases hx : x = pre.length
    · have hlp : (pre ++ [x]).length = pre.length + 1 := by simp
      have HLp := Lib.hid hlp; clear hlp
      have HRg : Hid (pre ++ [x] = List.range (pre ++ [x]).length) := by
        refine Lib.hid ?_
        rw [HLp.out, List.range_succ, ← HPre.out, hx]
      rw [← hx] at HST HPre hlen hfw HLp q0 qc
      clear hx
      have hxm : x ≤ m := by omega
      rw [show min x (ord lv).length = x by have := hm.out; omega] at qc
      have HBW := Lib.hid (HB0.out.trans (HST.out.but.below w.heap.size (by omega) (fun k hk => by rcases hk with rfl | rfl | rfl <;> omega)))
      have c0 := cell_of_row W w.heap.size 0 _ _ (0, 0) (HST.out.but.keep HF0.out.1 (by omega) (by omega))
      have cf := cell_of_row W bf 0 _ _ (0, 0) (HST.out.but.keep HF0.out.2.1 (by omega) (by omega))
      simp at c0 cf
      have e2' : W.cell? ⟨gr, 2, none⟩ = some (.slice aW' n cW') := HST.out.but.cell e2 (by omega) (by omega)
      have e3' : W.cell? ⟨gr, 3, none⟩ = some (.slice aO' m cO') := HST.out.but.cell e3 (by omega) (by omega)
      have hxm0 : decide (m < x) = false := decide_eq_false (by omega)
      have hcs : (few < 0) ∨ (0 ≤ few ∧ few < (x : Int) + 1) ∨ (0 ≤ few ∧ ¬ few < (x : Int) + 1) := by omega
      have hbnc : bn ≠ bc := hLow.nc
      have hbnr : bn ≠ br := hLow.nr
      have hbcr : bc ≠ br := hLow.cr
      have hbfn : bf ≠ bn := by omega
      have hbfc : bf ≠ bc := by omega
      have HTn := Lib.hid HST.out.tn
      have HTc := Lib.hid HST.out.tc
      have HTr := Lib.hid HST.out.tr
      by_cases hlt : x < m
      · have hkm : x < (ord lv).length := by rw [hm.out]; exact hlt
        obtain ⟨z, hz, hzl⟩ := shownIdx_nonneg lv (ord lv) (ord_perm lv) x hkm
        have hzw : z < ws.length := by rw [hw'.out, ← hn.out]; exact hzl
        obtain ⟨bO, oO, ha⟩ := iO'.out.some (by omega)
        subst ha
        obtain ⟨bW, oW, ha⟩ := iW'.out.some (by omega)
        subst ha
        have cO1 := (iO'.out.below HBW.out (Nat.le_refl _)).get x hkm
        rw [hz] at cO1
        have cW1 := (iW'.out.below HBW.out (Nat.le_refl _)).get z hzw
        have hs := colAt_succ ws (ord lv) x hkm
        rw [hz, Int.toNat_natCast, show ws.getD z 0 = ws[z] by simp [hzw]] at hs
        have hr1 := HLi.out.ok.range _ (List.getElem_mem hzw)
        have hr2 := HRng.out x
        have hki : (x : Int) < (m : Int) := by omega
        have hzi : (z : Int) < (n : Int) := by have := hw'.out; omega
        have HS9 := Lib.hid (HST.out.step hLow hkm)
        rw [hs] at HS9
        generalize ws[z] = y at *
        generalize colAt ws (ord lv) x = c at *
        have hsum : IntKind.i64.wrap (c + y) = c + y := IntWalk.i64_in _ (by omega)
        have HK9 : Hid (∀ R : Nat → Prop, ¬ R bc → ¬ R bn → Kept T R W ((W.drew.setCell ⟨bc, 0, none⟩ (.int .i64 (c + y))).setCell ⟨bn, 0, none⟩ (.int .i64 ((x : Int) + 1)))) := by
          refine Lib.hid (fun R h1 h2 => ?_)
          have h0 : Kept T R W W.drew := ⟨Nat.le_refl _, fun _ _ _ => rfl⟩
          exact (h0.trans (kept_set T R _ bc _ HTc.out h1)).trans (kept_set T R _ bn _ HTn.out h2)
        clear hz hkm hzl hzw hs hlen HRng hw'
        rcases hcs with h1 | ⟨h1, h2⟩ | ⟨h1, h2⟩
        · have h1' : ¬ 0 ≤ few := by omega
          clear hfw
          gi_wp2
          refine wpIn_region_tail 15 (by kernel_rfl) (by kernel_rfl) (by kernel_rfl) ?_
          simp only [List.take_succ_cons, List.take_zero, List.drop_succ_cons, List.drop_zero]
          change wpStill _ _ (World.drew _) (fun a' => wpListIn _ _ _ _ _ _ a' (World.drew _)) _ _
          repeat still_step
          refine wpStill_nil ?_
          gi_wp2
          exact ⟨HK9.out _ (by omega) (by omega), by rw [HLp.out]; exact HS9.out, HRg.out, .inl h1⟩
        · clear hfw
          gi_wp2
          refine wpIn_region_tail 15 (by kernel_rfl) (by kernel_rfl) (by kernel_rfl) ?_
          simp only [List.take_succ_cons, List.take_zero, List.drop_succ_cons, List.drop_zero]
          change wpStill _ _ (World.drew _) (fun a' => wpListIn _ _ _ _ _ _ a' (World.drew _)) _ _
          repeat still_step
          refine wpStill_nil ?_
          gi_wp2
          exact ⟨(HK9.out _ id id).trans (kept_set T _ _ br _ HTr.out id), rfl, .inl (by rw [HLp.out]; exact HS9.out.setR hLow true)⟩
        · clear hfw
          gi_wp2
          refine wpIn_region_tail 15 (by kernel_rfl) (by kernel_rfl) (by kernel_rfl) ?_
          simp only [List.take_succ_cons, List.take_zero, List.drop_succ_cons, List.drop_zero]
          change wpStill _ _ (World.drew _) (fun a' => wpListIn _ _ _ _ _ _ a' (World.drew _)) _ _
          repeat still_step
          refine wpStill_nil ?_
          gi_wp2
          exact ⟨HK9.out _ (by omega) (by omega), by rw [HLp.out]; exact HS9.out, HRg.out, .inr (by rw [HLp.out]; push_cast; omega)⟩
      · obtain rfl : x = m := by omega
        have HS9 := Lib.hid (HST.out.stepEnd hLow hm.out.symm)
        generalize colAt ws (ord lv) x = c at *
        have HK9 : Hid (∀ R : Nat → Prop, ¬ R bn → Kept T R W (W.setCell ⟨bn, 0, none⟩ (.int .i64 ((x : Int) + 1)))) := Lib.hid (fun R h2 => kept_set T R _ bn _ HTn.out h2)
        clear hlen
        rcases hcs with h1 | ⟨h1, h2⟩ | ⟨h1, h2⟩
        · have h1' : ¬ 0 ≤ few := by omega
          clear hfw
          gi_wp2
          exact ⟨HK9.out _ (by omega), by rw [HLp.out]; exact HS9.out, HRg.out, .inl h1⟩
        · clear hfw
          gi_wp2
          exact ⟨(HK9.out _ id).trans (kept_set T _ _ br _ HTr.out id), rfl, .inl (by rw [HLp.out]; exact HS9.out.setR hLow true)⟩
        · clear hfw
          gi_wp2
          exact ⟨HK9.out _ (by omega), by rw [HLp.out]; exact HS9.out, HRg.out, .inr (by rw [HLp.out]; push_cast; omega)⟩
    · have HNr := Lib.hid (not_range HPre.out hx)
      have hxb : ((x : Int) != (pre.length : Int)) = true := by simp; omega
      clear hx
      gi_wp2
      exact ⟨kept_set T _ W br _ HST.out.tr id, rfl, .inr ⟨⟨_, HST.out.setR hLow false⟩, HNr.out⟩⟩
  case dn =>
    rintro D T xs W hD hTD hxs ⟨hst, hpre, hfw⟩ hDk
    subst hxs
    have HST := Lib.hid hst; clear hst hpre hfw
    have HDk := Lib.hid hDk; clear hDk
    have HTD := Lib.hid hTD; clear hTD
    have n1W : W0.heap.size ≤ W.heap.size := HST.out.but.size
    have q0 := cell_of_row W bn 0 _ _ (0, 0) HST.out.n_
    have qr := cell_of_row W br 0 _ _ (0, 0) HST.out.r_
    have fr := frozen_of_row W br 0 _ _ HST.out.r_
    have c0 := cell_of_row W w.heap.size 0 _ _ (0, 0) (HST.out.but.keep HF0.out.1 (by omega) (by omega))
    simp at q0 qr c0
    have e3' : W.cell? ⟨gr, 3, none⟩ = some (.slice aO' m cO') := HST.out.but.cell e3 (by omega) (by omega)
    have hsum : IntKind.i64.wrap ((m : Int) + 1) = (m : Int) + 1 := IntWalk.i64_in _ (by omega)
    have q2 : (W.setCell ⟨br, 0, none⟩ (.bool true)).drew.cell? ⟨br, 0, none⟩ = some (.bool true) := World.cell?_setCell_same' W ⟨br, 0, none⟩ (.bool true) (by rw [qr]; rfl)
    go_wp2
    refine wp_region_still_tail 8 (by kernel_rfl) (by kernel_rfl) ?_
    simp only [List.take_succ_cons, List.take_zero, List.drop_succ_cons, List.drop_zero]
    change wpStill _ _ (World.drew _) (fun a' => wpList _ _ _ _ a' (World.drew _)) _ _
    repeat still_step
    refine wpStill_nil ?_
    go_wp2
    refine leaves_mark (show (W.setCell ⟨br, 0, none⟩ (.bool true)).heap[D]? = _ by rw [heap_setCell_other _ ⟨br, 0, none⟩ D _ (by simp; omega)]; exact HDk.out) (leaves_nil (v := .bool true) ?_ ?_)
    · have q := cell_mark q2 D (.deferred none) (by omega)
      simp [results, Try.results47, go_sem, q]
    · refine ⟨rfl, ?_⟩
      exact below_mark2 ((HB0.out.trans (HST.out.but.below w.heap.size (by omega) (fun k hk => by rcases hk with rfl | rfl | rfl <;> omega))).setCell (by show w.heap.size ≤ br; omega) _).drew D _ (by omega)
  case stp =>
    rintro D c T pre W hD hTD ⟨k, hk, rfl⟩ ⟨rfl, hst | ⟨-, hne⟩⟩ hDk
    · have HST := Lib.hid hst; clear hst
      have HDk := Lib.hid hDk; clear hDk
      have HTD := Lib.hid hTD; clear hTD
      have q1 := cell_of_row W br 0 _ _ (0, 0) HST.out.r_
      simp only [List.getElem?_toArray, List.getElem?_cons_zero] at q1
      go_wp2
      refine leaves_mark HDk.out (leaves_nil (v := .bool true) ?_ ?_)
      · have q := cell_mark q1 D (.deferred none) (by omega)
        simp [results, Try.results47, go_sem, q]
      · refine ⟨rfl, ?_⟩
        exact below_mark2 (HB0.out.trans (HST.out.but.below w.heap.size (by omega) (fun k hk => by rcases hk with rfl | rfl | rfl <;> omega))) D _ (by omega)
    · exact absurd (by simp) hne
end Go.Proofs.Ytnnfhldfdiaddaa
