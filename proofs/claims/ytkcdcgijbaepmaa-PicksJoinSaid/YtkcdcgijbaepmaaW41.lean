/-
  PicksJoin's walk over the places: where it stands, one place of it, one round of three.
-/
import Derived.Deep.Cut
import Derived.RangeFuncBound
import Derived.Test.YtkcdcgijbaepmaaRG
import Derived.Test.YtkcdcgijbaepmaaK1
import Derived.Test.YtkcdcgijbaepmaaJ5
set_option linter.unusedVariables false
set_option linter.unusedSimpArgs false
namespace Go.Proofs.Ytkcdcgijbaepmaa

/-- pre is told; the next place is z, of the piece numbered i -/
def posI (L : List PD) (i : Nat) (z : Int) (pre : List Int) : Prop := ∃ q : Nat, pre = toldL L i q ∧ ((∃ h : i < L.length, z = L[i].f + (q : Int) ∧ z < L[i].t) ∨ (L.length ≤ i ∧ q = 0))
def firstP (L : List PD) (i : Nat) (z : Int) : Int := if h : i < L.length then L[i].f else z
theorem posI.fresh {L : List PD} (hL : NF L) {i : Nat} (z : Int) {pre : List Int} (h : pre = toldL L i 0) : posI L i (firstP L i z) pre := by
  refine ⟨0, h, ?_⟩
  by_cases hi : i < L.length
  · refine .inl ⟨hi, ?_⟩
    have := hL.pos L[i] (List.getElem_mem hi)
    unfold firstP
    rw [dif_pos hi]
    exact ⟨by simp, this⟩
  · exact .inr ⟨by omega, rfl⟩
theorem posI.zero {L : List PD} (hL : NF L) : posI L 0 (firstP L 0 0) [] := posI.fresh hL 0 (toldL_zero L).symm
theorem posI.next {L : List PD} (hL : NF L) {i : Nat} {z x : Int} {pre : List Int} (h : posI L i z pre) (hx : ∃ k, k < (placesL L).length ∧ pre ++ [x] = (placesL L).take (k + 1)) :
    ∃ hi : i < L.length, x = z ∧ z < L[i].t ∧ (z + 1 = L[i].t → posI L (i + 1) (firstP L (i + 1) (z + 1)) (pre ++ [x])) ∧ (z + 1 ≠ L[i].t → posI L i (z + 1) (pre ++ [x])) := by
  obtain ⟨q, rfl, hq⟩ := h
  obtain ⟨k, hk, e⟩ := hx
  have hl := congrArg List.length e
  rw [List.length_append, List.length_take, List.length_singleton] at hl
  rcases hq with ⟨hi, hz, hzt⟩ | ⟨hi, rfl⟩
  · have h1 := toldL_next L i q hi (by omega)
    have h2 := toldL_prefix L i (q + 1) hi (by omega)
    have h3 : toldL L i (q + 1) = toldL L i q ++ [x] := by
      rw [e, h2, h1, List.length_append, List.length_singleton]
      congr 1
      omega
    have hxe : x = L[i].f + (q : Int) := by
      rw [h1] at h3
      simpa using (List.append_cancel_left h3).symm
    refine ⟨hi, by omega, hzt, fun ht => ?_, fun ht => ?_⟩
    · refine posI.fresh hL (z + 1) ?_
      rw [← h3]
      exact toldL_over L i (q + 1) hi (by omega)
    · exact ⟨q + 1, h3.symm, .inl ⟨hi, by omega, by omega⟩⟩
  · rw [toldL_all L i hi] at hl
    omega
theorem posI.done {L : List PD} {i : Nat} {z : Int} (h : posI L i z (placesL L)) : L.length ≤ i := by
  obtain ⟨q, e, hq⟩ := h
  rcases hq with ⟨hi, hz, hzt⟩ | ⟨hi, -⟩
  · have := placesL_length_take L i q hi (by omega)
    rw [← e] at this
    omega
  · exact hi

open Go.RowKit Go.Shelf
attribute [local go_sem] Oper.semAt_some

/-- the body of the first loop -/
def loopOf : Code → Option Code
  | .loop c => some c
  | .seq a b => match loopOf a with
    | some c => some c
    | none => loopOf b
  | .cond _ a b => match loopOf a with
    | some c => some c
    | none => loopOf b
  | .block _ a => loopOf a
  | _ => none
/-- the first range over a function: what lays the value down, and the body -/
def rangeOf : Code → Option (Code × Code)
  | .rangeFunc _ _ a b => some (a, b)
  | .loop c => rangeOf c
  | .seq a b => match rangeOf a with
    | some c => some c
    | none => rangeOf b
  | .cond _ a b => match rangeOf a with
    | some c => some c
    | none => rangeOf b
  | .block _ a => rangeOf a
  | _ => none

/-- the three cells: how many places, which piece, the next place -/
structure JnSt (W0 : World) (n1 bN bI bA : Nat) (T : Nat → Prop) (n i : Nat) (z : Int) (W : World) : Prop where
  but : But n1 (fun k => k = bN ∨ k = bI ∨ k = bA) W0 W
  cN : W.heap[bN]? = some (.cells #[.int .i64 (n : Nat)] 3 (0, 0))
  cI : W.heap[bI]? = some (.cells #[.int .i64 (i : Nat)] 3 (0, 0))
  cA : W.heap[bA]? = some (.cells #[.int .i64 z] 3 (0, 0))
  tn : ∀ k, T k → n1 ≤ k
theorem JnSt.off {W0 W W' : World} {n1 bN bI bA : Nat} {T T' : Nat → Prop} {n i : Nat} {z : Int} (h : JnSt W0 n1 bN bI bA T n i z W) (hN : bN < n1) (hI : bI < n1) (hA : bA < n1) (h1 : n1 ≤ W0.heap.size) (ho : Off T W W') (hwd : Wider T T' W W') : JnSt W0 n1 bN bI bA T' n i z W' := by
  have hn : n1 ≤ W.heap.size := Nat.le_trans h1 h.but.size
  refine ⟨h.but.off ho h.tn hn, ho.cellsBlock h.cN (fun t => by have := h.tn _ t; omega), ho.cellsBlock h.cI (fun t => by have := h.tn _ t; omega), ho.cellsBlock h.cA (fun t => by have := h.tn _ t; omega), fun k hk => ?_⟩
  rcases hwd k hk with h2 | h2
  · exact h.tn k h2
  · omega
theorem JnSt.setN {W0 W : World} {n1 bN bI bA : Nat} {T : Nat → Prop} {n i : Nat} {z : Int} (h : JnSt W0 n1 bN bI bA T n i z W) (hNI : bN < bI) (hIA : bI < bA) (m : Nat) : JnSt W0 n1 bN bI bA T m i z (W.setCell ⟨bN, 0, none⟩ (.int .i64 (m : Nat))) := by
  refine ⟨h.but.setCell bN 0 _ (.inl (.inl rfl)), ?_, ?_, ?_, h.tn⟩
  · have := heap_setCell_same W bN 0 _ _ (.int .i64 (m : Nat)) h.cN
    simpa using this
  · rw [heap_setCell_other W ⟨bN, 0, none⟩ bI _ (by simp; omega)]; exact h.cI
  · rw [heap_setCell_other W ⟨bN, 0, none⟩ bA _ (by simp; omega)]; exact h.cA
theorem JnSt.setI {W0 W : World} {n1 bN bI bA : Nat} {T : Nat → Prop} {n i : Nat} {z : Int} (h : JnSt W0 n1 bN bI bA T n i z W) (hNI : bN < bI) (hIA : bI < bA) (m : Nat) : JnSt W0 n1 bN bI bA T n m z (W.setCell ⟨bI, 0, none⟩ (.int .i64 (m : Nat))) := by
  refine ⟨h.but.setCell bI 0 _ (.inl (.inr (.inl rfl))), ?_, ?_, ?_, h.tn⟩
  · rw [heap_setCell_other W ⟨bI, 0, none⟩ bN _ (by simp; omega)]; exact h.cN
  · have := heap_setCell_same W bI 0 _ _ (.int .i64 (m : Nat)) h.cI
    simpa using this
  · rw [heap_setCell_other W ⟨bI, 0, none⟩ bA _ (by simp; omega)]; exact h.cA
theorem JnSt.setA {W0 W : World} {n1 bN bI bA : Nat} {T : Nat → Prop} {n i : Nat} {z : Int} (h : JnSt W0 n1 bN bI bA T n i z W) (hNI : bN < bI) (hIA : bI < bA) (y : Int) : JnSt W0 n1 bN bI bA T n i y (W.setCell ⟨bA, 0, none⟩ (.int .i64 y)) := by
  refine ⟨h.but.setCell bA 0 _ (.inl (.inr (.inr rfl))), ?_, ?_, ?_, h.tn⟩
  · rw [heap_setCell_other W ⟨bA, 0, none⟩ bN _ (by simp; omega)]; exact h.cN
  · rw [heap_setCell_other W ⟨bA, 0, none⟩ bI _ (by simp; omega)]; exact h.cI
  · have := heap_setCell_same W bA 0 _ _ (.int .i64 y) h.cA
    simpa using this
theorem JnSt.drew {W0 W : World} {n1 bN bI bA : Nat} {T : Nat → Prop} {n i : Nat} {z : Int} (h : JnSt W0 n1 bN bI bA T n i z W) : JnSt W0 n1 bN bI bA T n i z W.drew := ⟨⟨h.but.os, h.but.tape, h.but.output, h.but.size, h.but.block⟩, h.cN, h.cI, h.cA, h.tn⟩
theorem JnSt.cell {W0 W : World} {n1 bN bI bA : Nat} {T : Nat → Prop} {n i : Nat} {z : Int} (h : JnSt W0 n1 bN bI bA T n i z W) (hNI : bN < bI) (hIA : bI < bA) (hA1 : bA < n1) {b o : Nat} {v : Value} (hc : W0.cell? ⟨b, o, none⟩ = some v) (hb : b < bN) : W.cell? ⟨b, o, none⟩ = some v :=
  h.but.cell hc (by omega) (by show ¬ (b = bN ∨ b = bI ∨ b = bA); omega)
theorem JnSt.qN {W0 W : World} {n1 bN bI bA : Nat} {T : Nat → Prop} {n i : Nat} {z : Int} (h : JnSt W0 n1 bN bI bA T n i z W) : W.cell? ⟨bN, 0, none⟩ = some (.int .i64 (n : Nat)) := by
  have := cell_of_row W bN 0 _ _ (0, 0) h.cN
  simpa using this
theorem JnSt.qI {W0 W : World} {n1 bN bI bA : Nat} {T : Nat → Prop} {n i : Nat} {z : Int} (h : JnSt W0 n1 bN bI bA T n i z W) : W.cell? ⟨bI, 0, none⟩ = some (.int .i64 (i : Nat)) := by
  have := cell_of_row W bI 0 _ _ (0, 0) h.cI
  simpa using this
theorem JnSt.qA {W0 W : World} {n1 bN bI bA : Nat} {T : Nat → Prop} {n i : Nat} {z : Int} (h : JnSt W0 n1 bN bI bA T n i z W) : W.cell? ⟨bA, 0, none⟩ = some (.int .i64 z) := by
  have := cell_of_row W bA 0 _ _ (0, 0) h.cA
  simpa using this
theorem JnSt.fN {W0 W : World} {n1 bN bI bA : Nat} {T : Nat → Prop} {n i : Nat} {z : Int} (h : JnSt W0 n1 bN bI bA T n i z W) : W.frozen? ⟨bN, 0, none⟩ = false := frozen_of_row W bN 0 _ _ h.cN
theorem JnSt.fI {W0 W : World} {n1 bN bI bA : Nat} {T : Nat → Prop} {n i : Nat} {z : Int} (h : JnSt W0 n1 bN bI bA T n i z W) : W.frozen? ⟨bI, 0, none⟩ = false := frozen_of_row W bI 0 _ _ h.cI
theorem JnSt.fA {W0 W : World} {n1 bN bI bA : Nat} {T : Nat → Prop} {n i : Nat} {z : Int} (h : JnSt W0 n1 bN bI bA T n i z W) : W.frozen? ⟨bA, 0, none⟩ = false := frozen_of_row W bA 0 _ _ h.cA
def JnI (W0 : World) (n1 bN bI bA : Nat) (L : List PD) (T : Nat → Prop) (pre : List Int) (W : World) : Prop := ∃ i z, JnSt W0 n1 bN bI bA T pre.length i z W ∧ posI L i z pre ∧ pre.length < 1000
def JnX (W0 : World) (n1 bN bI bA : Nat) (r : Nat) (most : Int) (c : Code) (T : Nat → Prop) (pre : List Int) (W : World) : Prop := ∃ i z, JnSt W0 n1 bN bI bA T pre.length i z W ∧ c = .exit 2 ∧ (pre.length = 1000 ∨ (r = 1 ∧ (pre.length : Int) = most))
theorem JnI.abide {W0 : World} {n1 bN bI bA : Nat} {L : List PD} (hN : bN < n1) (hI : bI < n1) (hA : bA < n1) (h1 : n1 ≤ W0.heap.size) : Abide (JnI W0 n1 bN bI bA L) := by
  rintro T T' pre W W' ⟨i, z, h, h2⟩ ho hwd
  exact ⟨i, z, h.off hN hI hA h1 ho hwd, h2⟩
theorem JnX.abide {W0 : World} {n1 bN bI bA : Nat} {r : Nat} {most : Int} (hN : bN < n1) (hI : bI < n1) (hA : bA < n1) (h1 : n1 ≤ W0.heap.size) : ∀ c, Abide (JnX W0 n1 bN bI bA r most c) := by
  rintro c T T' pre W W' ⟨i, z, h, h2⟩ ho hwd
  exact ⟨i, z, h.off hN hI hA h1 ho hwd, h2⟩
theorem Kept.setCell {T R : Nat → Prop} {W W' : World} (h : Kept T R W W') (b : Nat) (v : Value) (ht : ¬ T b) (hr : ¬ R b) : Kept T R W (W'.setCell ⟨b, 0, none⟩ v) := by
  refine h.trans ⟨by simp, fun k hk hc => ?_⟩
  have hne : k ≠ b := by
    rcases hc with h | h
    · exact fun e => ht (e ▸ h)
    · exact fun e => hr (e ▸ h)
  rw [heap_setCell_other W' ⟨b, 0, none⟩ k _ (by simp; omega)]

set_option maxRecDepth 100000 in
set_option maxHeartbeats 1600000 in
theorem joinB_walk {cA cB : Code} (hcd : Try.f5.body.bind rangeOf = some (cA, cB))
    (W0 W : World) (T : Nat → Prop) (n1 bN bI bA bW bR bM l : Nat) (aw : Option Addr) (nw cw r : Nat) (most : Int) (L : List PD) (pre : List Int) (x : Int)
    (hL : L.length = nw) (hlt : nw ≤ 600) (hNF : NF L) (hwf : ∀ p ∈ L, -9223372036854775808 ≤ p.f ∧ p.t ≤ 9223372036854775807) (hc : PiecesAt W0 aw L) (hcb : ∀ b o, aw = some ⟨b, o, none⟩ → 0 < nw → b < bN)
    (hW : W0.cell? ⟨bW, 0, none⟩ = some (.slice aw nw cw)) (hbW : bW < bN) (hR : W0.cell? ⟨bR, 0, none⟩ = some (.int .i64 (r : Nat))) (hbR : bR < bN) (hM : W0.cell? ⟨bM, 0, none⟩ = some (.int .i64 most)) (hbM : bM < bN)
    (hNI : bN < bI) (hIA : bI < bA) (hA1 : bA < n1) (hr : r < 3)
    (hi : JnI W0 n1 bN bI bA L T pre W) (hx : ∃ k, k < (placesL L).length ∧ pre ++ [x] = (placesL L).take (k + 1))
    (v0 v1 v2 v3 v4 v7 v8 v9 v10 v11 v12 v14 v15 v21 v22 v23 v24 v25 v26 v27 v28 v29 v30 v31 v32 v33 v34 v35 v36 v37 v38 v39 v40 v41 v42 v43 v44 v45 v46 v47 v48 v49 v50 v51 v52 v53 v54 v55 v56 v57 v58 v59 v60 v61 v62 v63 v64 v65 v66 v67 v68 v69 v70 v71 v72 v73 v74 v75 v76 v77 v78 v79 v80 v81 v82 v83 v84 v85 v86 v87 v88 v89 v90 v91 v92 v93 v94 v95 v96 v97 v98 v99 v100 v102 v103 v104 v105 v106 v107 v108 v109 v110 v111 v112 v113 v114 v115 v116 v117 v118 v119 v120 v121 v122 v123 v124 v125 v126 v127 v128 v129 v130 v131 v132 v133 v134 v135 v136 v137 v138 v139 v140 v141 v142 v143 v144 v145 v146 v147 v148 v149 v150 v151 v152 v153 v154 v155 v156 v157 v158 v159 v160 v161 v162 : Value) :
    cB.wpIn (Fence.wide.inRound l) 1 Try.prog (postX T (fun k => k < bN) (JnI W0 n1 bN bI bA L) (JnX W0 n1 bN bI bA r most) (pre ++ [x]) W)
      { tmps := #[v0, v1, v2, v3, v4, .pointer (some ⟨bM, 0, none⟩), .pointer (some ⟨bM + 1, 0, none⟩), v7, v8, v9, v10, v11, v12, .pointer (some ⟨bW, 0, none⟩), v14, v15, .pointer (some ⟨bR, 0, none⟩), .pointer (some ⟨bN, 0, none⟩), .pointer (some ⟨bI, 0, none⟩), .pointer (some ⟨bA, 0, none⟩), .int .i64 x, v21, v22, v23, v24, v25, v26, v27, v28, v29, v30, v31, v32, v33, v34, v35, v36, v37, v38, v39, v40, v41, v42, v43, v44, v45, v46, v47, v48, v49, v50, v51, v52, v53, v54, v55, v56, v57, v58, v59, v60, v61, v62, v63, v64, v65, v66, v67, v68, v69, v70, v71, v72, v73, v74, v75, v76, v77, v78, v79, v80, v81, v82, v83, v84, v85, v86, v87, v88, v89, v90, v91, v92, v93, v94, v95, v96, v97, v98, v99, v100, .int .i64 x, v102, v103, v104, v105, v106, v107, v108, v109, v110, v111, v112, v113, v114, v115, v116, v117, v118, v119, v120, v121, v122, v123, v124, v125, v126, v127, v128, v129, v130, v131, v132, v133, v134, v135, v136, v137, v138, v139, v140, v141, v142, v143, v144, v145, v146, v147, v148, v149, v150, v151, v152, v153, v154, v155, v156, v157, v158, v159, v160, v161, v162], defers := [] } W := by
  have h2 : Try.f5.body.bind rangeOf = some (_, _) := rfl
  rw [h2] at hcd
  have hcd2 : _ = cB := congrArg Prod.snd (Option.some.inj hcd)
  subst hcd2
  clear h2 hcd
  obtain ⟨i, z, hst, hpos, hlen⟩ := hi
  have hzf : ∀ hi : i < L.length, -9223372036854775808 ≤ z := fun hi => by
    obtain ⟨q, -, hq⟩ := hpos
    rcases hq with ⟨h1, h2, h3⟩ | ⟨h1, -⟩
    · have := (hwf L[i] (List.getElem_mem h1)).1; omega
    · omega
  obtain ⟨hiL, hxz, hzt, hnx1, hnx2⟩ := hpos.next hNF hx
  replace hzf := hzf hiL
  have htt := (hwf L[i] (List.getElem_mem hiL)).2
  subst hxz
  have HX1 := Lib.hid hnx1; clear hnx1
  have HX2 := Lib.hid hnx2; clear hnx2
  have HST := Lib.hid hst; clear hst
  obtain ⟨b, o, ha⟩ := hc.some (by omega)
  subst ha
  have hbN := hcb b o rfl (by omega)
  have HC := Lib.hid hc; clear hc
  have HW := Lib.hid hW; clear hW
  have HRr := Lib.hid hR; clear hR
  have HMm := Lib.hid hM; clear hM
  have HWF := Lib.hid hwf; clear hwf hcb hpos hx
  have HCe := Lib.hid (HC.out.get i hiL).2
  generalize htl : L[i].t = tt at *
  have HTl := Lib.hid htl; clear htl
  have hi1 : (i : Int) < (nw : Int) := by omega
  have hi2 : ¬ (nw : Int) ≤ (i : Int) := by omega
  have qW := HST.out.cell hNI hIA hA1 HW.out hbW
  have qI := HST.out.qI
  have qA := HST.out.qA
  have fA := HST.out.fA
  gi_wp2
  obtain ⟨W1, hW1⟩ : ∃ W1, W1 = W.setCell ⟨bA, 0, none⟩ (.int .i64 (x + 1)) := ⟨_, rfl⟩
  have HS1 : Hid (JnSt W0 n1 bN bI bA T pre.length i (x + 1) W1) := Lib.hid (hW1 ▸ HST.out.setA hNI hIA (x + 1))
  have HK1 : Hid (Kept T (fun k => k < bN) W W1) := by rw [hW1]; exact Lib.hid ((Kept.refl _ _ _).setCell bA _ (fun h => by have := HST.out.tn _ h; omega) (by show ¬ bA < bN; omega))
  rw [← hW1]
  clear hW1 qW qI qA fA
  have ce := HS1.out.cell hNI hIA hA1 HCe.out hbN
  have qW := HS1.out.cell hNI hIA hA1 HW.out hbW
  have qI := HS1.out.qI
  have qA := HS1.out.qA
  have fI := HS1.out.fI
  have fN := HS1.out.fN
  refine wpIn_region_tail 6 (by kernel_rfl) (by kernel_rfl) (by kernel_rfl) ?_
  simp only [List.take_succ_cons, List.take_zero, List.drop_succ_cons, List.drop_zero]
  change wpStill _ _ (World.drew _) (fun a' => wpListIn _ _ _ _ _ _ a' (World.drew _)) _ _
  repeat still_step
  refine wpStill_nil ?_
  obtain ⟨W2, hW2⟩ : ∃ W2, W2 = W1.drew := ⟨_, rfl⟩
  have HS2 : Hid (JnSt W0 n1 bN bI bA T pre.length i (x + 1) W2) := Lib.hid (hW2 ▸ HS1.out.drew)
  have HK2 : Hid (Kept T (fun k => k < bN) W W2) := Lib.hid (hW2 ▸ ⟨HK1.out.size, HK1.out.block⟩)
  rw [← hW2]
  clear hW2 ce qW qI qA fI fN HS1 HK1
  have hd : x + 1 ≠ tt ∨ x + 1 = tt := by omega
  rcases hd with hne | he
  · have hne' : (x + 1 == tt) = false := beq_false_of_ne hne
    obtain ⟨Wt, hWt⟩ : ∃ Wt, W2 = Wt := ⟨_, rfl⟩
    have HSt := HS2
    have HKt := HK2
    rw [hWt] at HSt HKt ⊢
    clear hWt
    have HPo := Lib.hid (HX2.out hne)
    clear hne
    have HSn : Hid (JnSt W0 n1 bN bI bA T (pre.length + 1) i (x + 1) (Wt.setCell ⟨bN, 0, none⟩ (.int .i64 ((pre.length : Int) + 1)))) := Lib.hid (by have := HSt.out.setN hNI hIA (pre.length + 1); push_cast at this; exact this)
    have HKn : Hid (Kept T (fun k => k < bN) W (Wt.setCell ⟨bN, 0, none⟩ (.int .i64 ((pre.length : Int) + 1)))) := Lib.hid (HKt.out.setCell bN _ (fun h => by have := HSt.out.tn _ h; omega) (by show ¬ bN < bN; omega))
    have pN := HSt.out.qN
    have gN := HSt.out.fN
    have rN := HSn.out.qN
    rw [show ((pre.length + 1 : Nat) : Int) = (pre.length : Int) + 1 by omega] at rN
    have rR := HSn.out.cell hNI hIA hA1 HRr.out hbR
    have rM := HSn.out.cell hNI hIA hA1 HMm.out hbM
    have HPr := Lib.hid (show posI L i (x + 1) (pre ++ [x]) ∧ (pre ++ [x]).length = pre.length + 1 from ⟨HPo.out, by simp⟩)
    generalize hWn : Wt.setCell ⟨bN, 0, none⟩ (.int .i64 ((pre.length : Int) + 1)) = Wn at *
    have hcs : ((pre.length : Int) + 1 = 1000) ∨ (¬ (pre.length : Int) + 1 = 1000 ∧ ¬ (r : Int) = 1) ∨ (¬ (pre.length : Int) + 1 = 1000 ∧ (r : Int) = 1 ∧ (pre.length : Int) + 1 = most) ∨ (¬ (pre.length : Int) + 1 = 1000 ∧ (r : Int) = 1 ∧ ¬ (pre.length : Int) + 1 = most) := by omega
    rcases hcs with h1 | ⟨h1, h2⟩ | ⟨h1, h2, h3⟩ | ⟨h1, h2, h3⟩
    · have HE := Lib.hid (show pre.length + 1 = 1000 by omega)
      rw [h1] at hWn rN
      gi_wp2
      exact ⟨⟨HKn.out.size, fun k hk h => HKn.out.block k hk (h.imp id (fun f => f.elim))⟩, i, (x + 1), by rw [HPr.out.2]; exact HSn.out, rfl, .inl (by rw [HPr.out.2]; exact HE.out)⟩
    · have HE := Lib.hid (show pre.length + 1 < 1000 by omega)
      have hb1 : ((pre.length : Int) + 1 == 1000) = false := beq_false_of_ne h1
      have hb2 : ((r : Int) == 1) = false := beq_false_of_ne h2
      clear h1 h2
      gi_wp2
      exact ⟨HKn.out, i, (x + 1), by rw [HPr.out.2]; exact HSn.out, HPr.out.1, by rw [HPr.out.2]; exact HE.out⟩
    · have HE := Lib.hid (show r = 1 ∧ (pre.length : Int) + 1 = most by omega)
      subst h3
      have hb1 : ((pre.length : Int) + 1 == 1000) = false := beq_false_of_ne h1
      clear h1
      gi_wp2
      exact ⟨⟨HKn.out.size, fun k hk h => HKn.out.block k hk (h.imp id (fun f => f.elim))⟩, i, (x + 1), by rw [HPr.out.2]; exact HSn.out, rfl, .inr ⟨HE.out.1, by rw [HPr.out.2]; have := HE.out.2; omega⟩⟩
    · have HE := Lib.hid (show pre.length + 1 < 1000 by omega)
      have hb1 : ((pre.length : Int) + 1 == 1000) = false := beq_false_of_ne h1
      have hb2 : ((pre.length : Int) + 1 == most) = false := beq_false_of_ne h3
      clear h1 h3
      gi_wp2
      exact ⟨HKn.out, i, (x + 1), by rw [HPr.out.2]; exact HSn.out, HPr.out.1, by rw [HPr.out.2]; exact HE.out⟩
  · have he' : (x + 1 == tt) = true := beq_iff_eq.2 he
    have HP1 := Lib.hid (HX1.out he)
    clear he
    have HS3 : Hid (JnSt W0 n1 bN bI bA T pre.length (i + 1) (x + 1) (W2.setCell ⟨bI, 0, none⟩ (.int .i64 ((i : Int) + 1)))) := Lib.hid (by have := HS2.out.setI hNI hIA (i + 1); push_cast at this; exact this)
    have HK3 : Hid (Kept T (fun k => k < bN) W (W2.setCell ⟨bI, 0, none⟩ (.int .i64 ((i : Int) + 1)))) := Lib.hid (HK2.out.setCell bI _ (fun h => by have := HS2.out.tn _ h; omega) (by show ¬ bI < bN; omega))
    have jI := HS2.out.qI
    have jF := HS2.out.fI
    have kI := HS3.out.qI
    rw [show ((i + 1 : Nat) : Int) = (i : Int) + 1 by omega] at kI
    have kW := HS3.out.cell hNI hIA hA1 HW.out hbW
    by_cases hin : i + 1 < nw
    · have hin1 : (i : Int) + 1 < (nw : Int) := by omega
      have hin2 : i + 1 < L.length := by omega
      have HPo : Hid (posI L (i + 1) L[i + 1].f (pre ++ [x])) := Lib.hid (by have := HP1.out; unfold firstP at this; rw [dif_pos hin2] at this; exact this)
      have HCf := Lib.hid (HC.out.get (i + 1) hin2).1
      generalize hfz : L[i + 1].f = fz at *
      clear hin hin2 hfz HP1
      generalize hW3 : W2.setCell ⟨bI, 0, none⟩ (.int .i64 ((i : Int) + 1)) = W3 at *
      have ce := HS3.out.cell hNI hIA hA1 HCf.out hbN
      have jA := HS3.out.fA
      have jQ := HS3.out.qA
      have HSt : Hid (JnSt W0 n1 bN bI bA T pre.length (i + 1) fz (W3.setCell ⟨bA, 0, none⟩ (.int .i64 fz))) := Lib.hid (HS3.out.setA hNI hIA fz)
      have HKt : Hid (Kept T (fun k => k < bN) W (W3.setCell ⟨bA, 0, none⟩ (.int .i64 fz))) := Lib.hid (HK3.out.setCell bA _ (fun h => by have := HS3.out.tn _ h; omega) (by show ¬ bA < bN; omega))
      generalize hWt : W3.setCell ⟨bA, 0, none⟩ (.int .i64 fz) = Wt at *
      have HSn : Hid (JnSt W0 n1 bN bI bA T (pre.length + 1) (i + 1) fz (Wt.setCell ⟨bN, 0, none⟩ (.int .i64 ((pre.length : Int) + 1)))) := Lib.hid (by have := HSt.out.setN hNI hIA (pre.length + 1); push_cast at this; exact this)
      have HKn : Hid (Kept T (fun k => k < bN) W (Wt.setCell ⟨bN, 0, none⟩ (.int .i64 ((pre.length : Int) + 1)))) := Lib.hid (HKt.out.setCell bN _ (fun h => by have := HSt.out.tn _ h; omega) (by show ¬ bN < bN; omega))
      have pN := HSt.out.qN
      have gN := HSt.out.fN
      have rN := HSn.out.qN
      rw [show ((pre.length + 1 : Nat) : Int) = (pre.length : Int) + 1 by omega] at rN
      have rR := HSn.out.cell hNI hIA hA1 HRr.out hbR
      have rM := HSn.out.cell hNI hIA hA1 HMm.out hbM
      have HPr := Lib.hid (show posI L (i + 1) fz (pre ++ [x]) ∧ (pre ++ [x]).length = pre.length + 1 from ⟨HPo.out, by simp⟩)
      generalize hWn : Wt.setCell ⟨bN, 0, none⟩ (.int .i64 ((pre.length : Int) + 1)) = Wn at *
      have hcs : ((pre.length : Int) + 1 = 1000) ∨ (¬ (pre.length : Int) + 1 = 1000 ∧ ¬ (r : Int) = 1) ∨ (¬ (pre.length : Int) + 1 = 1000 ∧ (r : Int) = 1 ∧ (pre.length : Int) + 1 = most) ∨ (¬ (pre.length : Int) + 1 = 1000 ∧ (r : Int) = 1 ∧ ¬ (pre.length : Int) + 1 = most) := by omega
      rcases hcs with h1 | ⟨h1, h2⟩ | ⟨h1, h2, h3⟩ | ⟨h1, h2, h3⟩
      · have HE := Lib.hid (show pre.length + 1 = 1000 by omega)
        rw [h1] at hWn rN
        gi_wp2
        exact ⟨⟨HKn.out.size, fun k hk h => HKn.out.block k hk (h.imp id (fun f => f.elim))⟩, (i + 1), fz, by rw [HPr.out.2]; exact HSn.out, rfl, .inl (by rw [HPr.out.2]; exact HE.out)⟩
      · have HE := Lib.hid (show pre.length + 1 < 1000 by omega)
        have hb1 : ((pre.length : Int) + 1 == 1000) = false := beq_false_of_ne h1
        have hb2 : ((r : Int) == 1) = false := beq_false_of_ne h2
        clear h1 h2
        gi_wp2
        exact ⟨HKn.out, (i + 1), fz, by rw [HPr.out.2]; exact HSn.out, HPr.out.1, by rw [HPr.out.2]; exact HE.out⟩
      · have HE := Lib.hid (show r = 1 ∧ (pre.length : Int) + 1 = most by omega)
        subst h3
        have hb1 : ((pre.length : Int) + 1 == 1000) = false := beq_false_of_ne h1
        clear h1
        gi_wp2
        exact ⟨⟨HKn.out.size, fun k hk h => HKn.out.block k hk (h.imp id (fun f => f.elim))⟩, (i + 1), fz, by rw [HPr.out.2]; exact HSn.out, rfl, .inr ⟨HE.out.1, by rw [HPr.out.2]; have := HE.out.2; omega⟩⟩
      · have HE := Lib.hid (show pre.length + 1 < 1000 by omega)
        have hb1 : ((pre.length : Int) + 1 == 1000) = false := beq_false_of_ne h1
        have hb2 : ((pre.length : Int) + 1 == most) = false := beq_false_of_ne h3
        clear h1 h3
        gi_wp2
        exact ⟨HKn.out, (i + 1), fz, by rw [HPr.out.2]; exact HSn.out, HPr.out.1, by rw [HPr.out.2]; exact HE.out⟩
    · have hin1 : ((i : Int) + 1 < (nw : Int)) = False := by simp; omega
      have HPo : Hid (posI L (i + 1) (x + 1) (pre ++ [x])) := Lib.hid (by have := HP1.out; unfold firstP at this; rw [dif_neg (by omega)] at this; exact this)
      clear hin HP1
      generalize hWt : W2.setCell ⟨bI, 0, none⟩ (.int .i64 ((i : Int) + 1)) = Wt at *
      have HSt := HS3
      have HKt := HK3
      have HSn : Hid (JnSt W0 n1 bN bI bA T (pre.length + 1) (i + 1) (x + 1) (Wt.setCell ⟨bN, 0, none⟩ (.int .i64 ((pre.length : Int) + 1)))) := Lib.hid (by have := HSt.out.setN hNI hIA (pre.length + 1); push_cast at this; exact this)
      have HKn : Hid (Kept T (fun k => k < bN) W (Wt.setCell ⟨bN, 0, none⟩ (.int .i64 ((pre.length : Int) + 1)))) := Lib.hid (HKt.out.setCell bN _ (fun h => by have := HSt.out.tn _ h; omega) (by show ¬ bN < bN; omega))
      have pN := HSt.out.qN
      have gN := HSt.out.fN
      have rN := HSn.out.qN
      rw [show ((pre.length + 1 : Nat) : Int) = (pre.length : Int) + 1 by omega] at rN
      have rR := HSn.out.cell hNI hIA hA1 HRr.out hbR
      have rM := HSn.out.cell hNI hIA hA1 HMm.out hbM
      have HPr := Lib.hid (show posI L (i + 1) (x + 1) (pre ++ [x]) ∧ (pre ++ [x]).length = pre.length + 1 from ⟨HPo.out, by simp⟩)
      generalize hWn : Wt.setCell ⟨bN, 0, none⟩ (.int .i64 ((pre.length : Int) + 1)) = Wn at *
      have hcs : ((pre.length : Int) + 1 = 1000) ∨ (¬ (pre.length : Int) + 1 = 1000 ∧ ¬ (r : Int) = 1) ∨ (¬ (pre.length : Int) + 1 = 1000 ∧ (r : Int) = 1 ∧ (pre.length : Int) + 1 = most) ∨ (¬ (pre.length : Int) + 1 = 1000 ∧ (r : Int) = 1 ∧ ¬ (pre.length : Int) + 1 = most) := by omega
      rcases hcs with h1 | ⟨h1, h2⟩ | ⟨h1, h2, h3⟩ | ⟨h1, h2, h3⟩
      · have HE := Lib.hid (show pre.length + 1 = 1000 by omega)
        rw [h1] at hWn rN
        gi_wp2
        exact ⟨⟨HKn.out.size, fun k hk h => HKn.out.block k hk (h.imp id (fun f => f.elim))⟩, (i + 1), (x + 1), by rw [HPr.out.2]; exact HSn.out, rfl, .inl (by rw [HPr.out.2]; exact HE.out)⟩
      · have HE := Lib.hid (show pre.length + 1 < 1000 by omega)
        have hb1 : ((pre.length : Int) + 1 == 1000) = false := beq_false_of_ne h1
        have hb2 : ((r : Int) == 1) = false := beq_false_of_ne h2
        clear h1 h2
        gi_wp2
        exact ⟨HKn.out, (i + 1), (x + 1), by rw [HPr.out.2]; exact HSn.out, HPr.out.1, by rw [HPr.out.2]; exact HE.out⟩
      · have HE := Lib.hid (show r = 1 ∧ (pre.length : Int) + 1 = most by omega)
        subst h3
        have hb1 : ((pre.length : Int) + 1 == 1000) = false := beq_false_of_ne h1
        clear h1
        gi_wp2
        exact ⟨⟨HKn.out.size, fun k hk h => HKn.out.block k hk (h.imp id (fun f => f.elim))⟩, (i + 1), (x + 1), by rw [HPr.out.2]; exact HSn.out, rfl, .inr ⟨HE.out.1, by rw [HPr.out.2]; have := HE.out.2; omega⟩⟩
      · have HE := Lib.hid (show pre.length + 1 < 1000 by omega)
        have hb1 : ((pre.length : Int) + 1 == 1000) = false := beq_false_of_ne h1
        have hb2 : ((pre.length : Int) + 1 == most) = false := beq_false_of_ne h3
        clear h1 h3
        gi_wp2
        exact ⟨HKn.out, (i + 1), (x + 1), by rw [HPr.out.2]; exact HSn.out, HPr.out.1, by rw [HPr.out.2]; exact HE.out⟩

def JnA (tmps : Array Value) (T : Nat → Prop) (x : Int) (a' : Act) (W : World) : Prop :=
  a' = { tmps := (tmps.setIfInBounds 101 (.int .i64 x)).setIfInBounds 20 (.int .i64 x), defers := [] }

set_option maxRecDepth 100000 in
set_option maxHeartbeats 1600000 in
theorem joinR_walk {c : Code} (hcd : Try.f5.body.bind loopOf = some c) (Q : Exit → Act → World → Prop) (ds : List Deferred)
    (W : World) (bW bR bM bP : Nat) (aw : Option Addr) (nw cw r : Nat) (most : Int) (L : List PD)
    (hL : L.length = nw) (hlt : nw ≤ 600) (hNF : NF L) (hwf : ∀ p ∈ L, -9223372036854775808 ≤ p.f ∧ p.t ≤ 9223372036854775807) (hc : PiecesAt W aw L)
    (hW : W.cell? ⟨bW, 0, none⟩ = some (.slice aw nw cw)) (hR : W.cell? ⟨bR, 0, none⟩ = some (.int .i64 (r : Nat))) (hM : W.cell? ⟨bM, 0, none⟩ = some (.int .i64 most))
    (hr : r ≤ 3)
    (hS : ∀ w, Below W.heap.size W w → SeqX Try.prog 56 #[.pointer (some ⟨bP, 0, none⟩)] (fun x : Int => #[.int .i64 x]) (fun k => k < W.heap.size) (fun xs => xs = placesL L) (fun pre => ∃ k, k < (placesL L).length ∧ pre = (placesL L).take (k + 1)) (placesL L).length w)
    (v0 v1 v2 v3 v4 v7 v8 v9 v10 v11 v12 v14 v17 v18 v19 v20 v21 v22 v23 v24 v25 v26 v27 v28 v29 v30 v31 v32 v33 v34 v35 v36 v37 v38 v39 v40 v41 v42 v43 v44 v45 v46 v47 v48 v49 v50 v51 v52 v53 v54 v55 v56 v57 v58 v59 v60 v61 v62 v63 v64 v65 v66 v67 v68 v69 v70 v71 v72 v73 v74 v75 v76 v77 v78 v79 v80 v81 v82 v83 v84 v85 v86 v87 v88 v89 v90 v91 v92 v93 v94 v95 v96 v97 v98 v99 v100 v101 v102 v103 v104 v105 v106 v107 v108 v109 v110 v111 v112 v113 v114 v115 v116 v117 v118 v119 v120 v121 v122 v123 v124 v125 v126 v127 v128 v129 v130 v131 v132 v133 v134 v135 v136 v137 v138 v139 v140 v141 v142 v143 v144 v145 v146 v147 v148 v149 v150 v151 v152 v153 v154 v155 v156 v157 v158 v159 v160 v161 v162 : Value)
    (hE : r = 3 → ∀ u89 u90, Q (.exit 0) { tmps := #[v0, v1, v2, v3, v4, .pointer (some ⟨bM, 0, none⟩), .pointer (some ⟨bM + 1, 0, none⟩), v7, v8, v9, v10, v11, v12, .pointer (some ⟨bW, 0, none⟩), v14, .func (.func 56) #[] #[.pointer (some ⟨bP, 0, none⟩)], .pointer (some ⟨bR, 0, none⟩), v17, v18, v19, v20, v21, v22, v23, v24, v25, v26, v27, v28, v29, v30, v31, v32, v33, v34, v35, v36, v37, v38, v39, v40, v41, v42, v43, v44, v45, v46, v47, v48, v49, v50, v51, v52, v53, v54, v55, v56, v57, v58, v59, v60, v61, v62, v63, v64, v65, v66, v67, v68, v69, v70, v71, v72, v73, v74, v75, v76, v77, v78, v79, v80, v81, v82, v83, v84, v85, v86, v87, v88, u89, u90, v91, v92, v93, v94, v95, v96, v97, v98, v99, v100, v101, v102, v103, v104, v105, v106, v107, v108, v109, v110, v111, v112, v113, v114, v115, v116, v117, v118, v119, v120, v121, v122, v123, v124, v125, v126, v127, v128, v129, v130, v131, v132, v133, v134, v135, v136, v137, v138, v139, v140, v141, v142, v143, v144, v145, v146, v147, v148, v149, v150, v151, v152, v153, v154, v155, v156, v157, v158, v159, v160, v161, v162], defers := ds } W)
    (hN : r < 3 → ∀ (u17 u18 u19 u20 u89 u90 u91 u92 u93 u94 u95 u96 u97 u98 u99 u100 u101 u102 u103 u104 u105 u106 u107 u108 u109 u110 u111 u112 u113 u114 u115 u116 u117 u118 u119 u120 u121 u122 u123 u124 u125 u126 u127 u128 u129 u130 u131 u132 u133 u134 u135 u136 u137 u138 u139 u140 u141 u142 u143 u144 u145 u146 u147 u148 u149 u150 u151 u152 u153 u154 u155 u156 u157 u158 u159 u160 u161 : Value) (bR' D : Nat) (W' : World), Below W.heap.size W W' → W.heap.size ≤ bR' → W'.heap[bR']? = some (.cells #[.int .i64 ((r + 1 : Nat) : Int)] 3 (0, 0)) → W.heap.size ≤ D → D ≠ bR' → W'.heap[D]? = some (.deferred (some [])) →
      Q .normal { tmps := #[v0, v1, v2, v3, v4, .pointer (some ⟨bM, 0, none⟩), .pointer (some ⟨bM + 1, 0, none⟩), v7, v8, v9, v10, v11, v12, .pointer (some ⟨bW, 0, none⟩), v14, .func (.func 56) #[] #[.pointer (some ⟨bP, 0, none⟩)], .pointer (some ⟨bR', 0, none⟩), u17, u18, u19, u20, v21, v22, v23, v24, v25, v26, v27, v28, v29, v30, v31, v32, v33, v34, v35, v36, v37, v38, v39, v40, v41, v42, v43, v44, v45, v46, v47, v48, v49, v50, v51, v52, v53, v54, v55, v56, v57, v58, v59, v60, v61, v62, v63, v64, v65, v66, v67, v68, v69, v70, v71, v72, v73, v74, v75, v76, v77, v78, v79, v80, v81, v82, v83, v84, v85, v86, v87, v88, u89, u90, u91, u92, u93, u94, u95, u96, u97, u98, u99, u100, u101, u102, u103, u104, u105, u106, u107, u108, u109, u110, u111, u112, u113, u114, u115, u116, u117, u118, u119, u120, u121, u122, u123, u124, u125, u126, u127, u128, u129, u130, u131, u132, u133, u134, u135, u136, u137, u138, u139, u140, u141, u142, u143, u144, u145, u146, u147, u148, u149, u150, u151, u152, u153, u154, u155, u156, u157, u158, u159, u160, u161, v162], defers := { target := .collected D, args := #[] } :: ds } W') :
    c.wp Try.prog Q
      { tmps := #[v0, v1, v2, v3, v4, .pointer (some ⟨bM, 0, none⟩), .pointer (some ⟨bM + 1, 0, none⟩), v7, v8, v9, v10, v11, v12, .pointer (some ⟨bW, 0, none⟩), v14, .func (.func 56) #[] #[.pointer (some ⟨bP, 0, none⟩)], .pointer (some ⟨bR, 0, none⟩), v17, v18, v19, v20, v21, v22, v23, v24, v25, v26, v27, v28, v29, v30, v31, v32, v33, v34, v35, v36, v37, v38, v39, v40, v41, v42, v43, v44, v45, v46, v47, v48, v49, v50, v51, v52, v53, v54, v55, v56, v57, v58, v59, v60, v61, v62, v63, v64, v65, v66, v67, v68, v69, v70, v71, v72, v73, v74, v75, v76, v77, v78, v79, v80, v81, v82, v83, v84, v85, v86, v87, v88, v89, v90, v91, v92, v93, v94, v95, v96, v97, v98, v99, v100, v101, v102, v103, v104, v105, v106, v107, v108, v109, v110, v111, v112, v113, v114, v115, v116, v117, v118, v119, v120, v121, v122, v123, v124, v125, v126, v127, v128, v129, v130, v131, v132, v133, v134, v135, v136, v137, v138, v139, v140, v141, v142, v143, v144, v145, v146, v147, v148, v149, v150, v151, v152, v153, v154, v155, v156, v157, v158, v159, v160, v161, v162], defers := ds } W := by
  have h2 : Try.f5.body.bind loopOf = some _ := rfl
  rw [h2] at hcd
  have hcd2 : _ = c := Option.some.inj hcd
  subst hcd2
  clear h2 hcd
  have HN := Lib.hid hN; clear hN
  have HE := Lib.hid hE; clear hE
  have HS := Lib.hid hS; clear hS
  have HC := Lib.hid hc; clear hc
  have HWF := Lib.hid hwf; clear hwf
  have HWw := Lib.hid hW
  have HRr := Lib.hid hR
  have HMm := Lib.hid hM
  have hbW : bW < W.heap.size := World.block_lt_of_cell? W _ hW
  have hbR : bR < W.heap.size := World.block_lt_of_cell? W _ hR
  have hbM : bM < W.heap.size := World.block_lt_of_cell? W _ hM
  clear hW hM
  by_cases h3 : r = 3
  · subst h3
    have HE3 := Lib.hid (HE.out rfl)
    clear HE HN
    go_wp2
    exact HE3.out _ _
  · have hr3 : r < 3 := by omega
    have hr3i : (r : Int) < 3 := by omega
    replace HN := Lib.hid (HN.out hr3)
    clear HE h3 hr
    go_upto_region 16 with (fail)
    obtain ⟨w1, hw1⟩ : ∃ w1, w1 = (((W.alloc (.cells #[.int .i64 0] 3)).alloc (.cells #[.int .i64 0] 3)).alloc (.cells #[.int .i64 0] 3)) := ⟨_, rfl⟩
    rw [← hw1]
    have HB1 : Hid (Below W.heap.size W w1) := by
      rw [hw1]
      exact Lib.hid ((((Below.refl _ _).alloc (Nat.le_refl _) _).alloc (by simp) _).alloc (by simp; omega) _)
    have H0 : Hid (w1.heap[W.heap.size]? = some (.cells #[.int .i64 0] 3 (0, 0)) ∧ w1.heap[W.heap.size + 1]? = some (.cells #[.int .i64 0] 3 (0, 0)) ∧ w1.heap[W.heap.size + 1 + 1]? = some (.cells #[.int .i64 0] 3 (0, 0)) ∧ w1.heap.size = W.heap.size + 1 + 1 + 1) := by
      rw [hw1]
      refine Lib.hid ⟨?_, ?_, ?_, by simp⟩
      · rw [Below.heap_alloc _ _ _ (by simp; omega), Below.heap_alloc _ _ _ (by simp)]
        exact heap_alloc_new W _
      · rw [Below.heap_alloc _ _ _ (by simp)]
        have := heap_alloc_new (W.alloc (.cells #[.int .i64 0] 3)) (.cells #[.int .i64 0] 3)
        simpa using this
      · have := heap_alloc_new ((W.alloc (.cells #[.int .i64 0] 3)).alloc (.cells #[.int .i64 0] 3)) (.cells #[.int .i64 0] 3)
        simpa using this
    clear hw1
    generalize hbN : W.heap.size = bN at *
    generalize hbI : bN + 1 = bI at *
    generalize hbA : bI + 1 = bA at *
    have hNI : bN < bI := by omega
    have hIA : bI < bA := by omega
    have HBn := Lib.hid hbN
    clear hbN hbI hbA hR
    have HC1 := Lib.hid (HC.out.below HB1.out (by rw [← HBn.out]; exact Nat.le_refl _))
    have HW1 := Lib.hid ((HB1.out.cell (p := ⟨bW, 0, none⟩) hbW).trans HWw.out)
    have HR1 := Lib.hid ((HB1.out.cell (p := ⟨bR, 0, none⟩) hbR).trans HRr.out)
    have HM1 := Lib.hid ((HB1.out.cell (p := ⟨bM, 0, none⟩) hbM).trans HMm.out)
    have hcb : ∀ b o, aw = some ⟨b, o, none⟩ → 0 < nw → b < bN := fun b o e h0 => by
      obtain ⟨b', o', e2, h3, -⟩ := HC.out 0 (by omega)
      rw [e2] at e
      simp only [Option.some.injEq, Addr.mk.injEq, and_true] at e
      obtain ⟨rfl, -⟩ := e
      have := World.block_lt_of_cell? W _ h3
      rw [← HBn.out]
      exact this
    have HCb := Lib.hid hcb; clear hcb
    by_cases h0 : nw = 0
    · have h0i : ¬ (0 : Int) < (nw : Int) := by omega
      have HZ := Lib.hid h0; clear h0
      have qW := HW1.out
      have HB2 := HB1
      have H2 : Hid (w1.heap[bN]? = some (.cells #[.int .i64 0] 3 (0, 0)) ∧ w1.heap[bI]? = some (.cells #[.int .i64 0] 3 (0, 0)) ∧ w1.heap[bA]? = some (.cells #[.int .i64 (firstP L 0 0)] 3 (0, 0)) ∧ w1.heap.size = bA + 1) := Lib.hid ⟨H0.out.1, H0.out.2.1, by have h := H0.out.2.2.1; have e : firstP L 0 0 = 0 := (by unfold firstP; exact dif_neg (by omega)); rw [e]; exact h, H0.out.2.2.2⟩
      go_wp2
      clear qW
      generalize hn1 : w1.heap.size = n1 at *
      have HN1 := Lib.hid hn1; clear hn1
      have hA1 : bA < n1 := by have := H2.out.2.2.2; omega
      have HC2 := Lib.hid (HC.out.below HB2.out (by rw [← HBn.out]; exact Nat.le_refl _))
      have HW2 := Lib.hid ((HB2.out.cell (p := ⟨bW, 0, none⟩) hbW).trans HWw.out)
      have HR2 := Lib.hid ((HB2.out.cell (p := ⟨bR, 0, none⟩) hbR).trans HRr.out)
      have HM2 := Lib.hid ((HB2.out.cell (p := ⟨bM, 0, none⟩) hbM).trans HMm.out)
      refine wp_rangeX (gf := 56) (lb := #[.pointer (some ⟨bP, 0, none⟩)]) rfl (enters_of Try.func56 (by kernel_rfl) rfl) (HS.out w1 HB2.out) (Below.refl _ _) (fun k hk => by rw [HN1.out]; have : k < bN := hk; omega) (fun _ => rfl)
        (JnI w1 n1 bN bI bA L) (JnX w1 n1 bN bI bA r most) (JnI.abide (by omega) (by omega) hA1 (by rw [HN1.out]; exact Nat.le_refl _)) (JnX.abide (by omega) (by omega) hA1 (by rw [HN1.out]; exact Nat.le_refl _))
        ⟨0, firstP L 0 0, ⟨But.refl _ _ _, H2.out.1, H2.out.2.1, H2.out.2.2.1, fun _ h => h.elim⟩, posI.zero hNF, by simp⟩
        JnA (fun T x a' W W' h ho => h) ?asg ?bdy ?dn ?stp
      case asg =>
        rintro l T pre x W K hi hK
        have HK := Lib.hid hK; clear hK
        gi_wp2
        exact HK.out _ _ (Kept.refl _ _ _) hi rfl
      case bdy =>
        rintro l T pre x a' W3 hTl hl - hi hA hlen hsp
        unfold JnA at hA
        subst hA
        simp only [List.setIfInBounds_toArray, List.set_cons_succ, List.set_cons_zero]
        exact joinB_walk rfl w1 W3 T n1 bN bI bA bW bR bM l aw nw cw r most L pre x hL hlt hNF HWF.out HC2.out HCb.out HW2.out hbW HR2.out hbR HM2.out hbM hNI hIA hA1 hr3 hi hsp _ _ _ _ _ _ _ _ _ _ _ _ _ _ _ _ _ _ _ _ _ _ _ _ _ _ _ _ _ _ _ _ _ _ _ _ _ _ _ _ _ _ _ _ _ _ _ _ _ _ _ _ _ _ _ _ _ _ _ _ _ _ _ _ _ _ _ _ _ _ _ _ _ _ _ _ _ _ _ _ _ _ _ _ _ _ _ _ _ _ _ _ _ _ _ _ _ _ _ _ _ _ _ _ _ _ _ _ _ _ _ _ _ _ _ _ _ _ _ _ _ _ _ _ _ _ _ _ _ _ _ _ _ _ _ _ _ _ _ _ _ _ _ _ _ _ _ _ _ _ _ _ _ _
      case dn =>
        rintro D T xs W3 hD hTD rfl ⟨i, z, hst, hpos, hlen⟩ hDk
        have HST := Lib.hid hst; clear hst
        have HDk := Lib.hid hDk; clear hDk
        have hdn := hpos.done
        have hdi : ¬ (i : Int) < (nw : Int) := by omega
        clear hpos hlen hdn
        have qI := HST.out.qI
        have qW := HST.out.cell hNI hIA hA1 HW2.out hbW
        have qR := HST.out.cell hNI hIA hA1 HR2.out hbR
        go_wp2
        have hDl := (Array.getElem?_eq_some_iff.1 HDk.out).1
        have hs3 : bN ≤ W3.heap.size := by have := HST.out.but.size; have := HN1.out; omega
        exact HN.out _ _ _ _ _ _ _ _ _ _ _ _ _ _ _ _ _ _ _ _ _ _ _ _ _ _ _ _ _ _ _ _ _ _ _ _ _ _ _ _ _ _ _ _ _ _ _ _ _ _ _ _ _ _ _ _ _ _ _ _ _ _ _ _ _ _ _ _ _ _ _ _ _ _ _ _ _ _ D _ ((HB2.out.trans (HST.out.but.below bN (by omega) (fun k hk => by rcases hk with rfl | rfl | rfl <;> omega))).alloc hs3 _) hs3 (by have := heap_alloc_new W3 (.cells #[.int .i64 ((r : Int) + 1)] 3); push_cast; exact this) (by have := HN1.out; omega) (by omega) ((Below.heap_alloc _ _ _ hDl).trans HDk.out)
      case stp =>
        rintro D c T pre W3 hD hTD - ⟨i, z, hst, rfl, hcd⟩ hDk
        have HST := Lib.hid hst; clear hst
        have HDk := Lib.hid hDk; clear hDk
        have qN := HST.out.qN
        have qI := HST.out.qI
        have qW := HST.out.cell hNI hIA hA1 HW2.out hbW
        have qR := HST.out.cell hNI hIA hA1 HR2.out hbR
        have qM := HST.out.cell hNI hIA hA1 HM2.out hbM
        generalize hm : pre.length = m at *
        clear hm
        by_cases hin : i < nw
        · exact absurd hin (by rw [HZ.out]; omega)
        · have hdi : ¬ (i : Int) < (nw : Int) := by omega
          clear hcd hin qN qM
          go_wp2
          have hDl := (Array.getElem?_eq_some_iff.1 HDk.out).1
          have hs3 : bN ≤ W3.heap.size := by have := HST.out.but.size; have := HN1.out; omega
          exact HN.out _ _ _ _ _ _ _ _ _ _ _ _ _ _ _ _ _ _ _ _ _ _ _ _ _ _ _ _ _ _ _ _ _ _ _ _ _ _ _ _ _ _ _ _ _ _ _ _ _ _ _ _ _ _ _ _ _ _ _ _ _ _ _ _ _ _ _ _ _ _ _ _ _ _ _ _ _ _ D _ ((HB2.out.trans (HST.out.but.below bN (by omega) (fun k hk => by rcases hk with rfl | rfl | rfl <;> omega))).alloc hs3 _) hs3 (by have := heap_alloc_new W3 (.cells #[.int .i64 ((r : Int) + 1)] 3); push_cast; exact this) (by have := HN1.out; omega) (by omega) ((Below.heap_alloc _ _ _ hDl).trans HDk.out)
    · obtain ⟨b, o, rfl⟩ := HC.out.some (by omega)
      have h0i : (0 : Int) < (nw : Int) := by omega
      have q0 := HC1.out.get 0 (by omega)
      have c0 := q0.1
      have hzz : o + 0 * 2 = o := by omega
      rw [hzz] at c0
      have HFp := Lib.hid (show firstP L 0 0 = L[0].f by unfold firstP; rw [dif_pos (by omega)])
      generalize hfz : L[0].f = fz at *
      clear h0 q0 hfz
      have qW := HW1.out
      have qA := cell_of_row w1 bA 0 _ _ (0, 0) H0.out.2.2.1
      have fA := frozen_of_row w1 bA 0 _ _ H0.out.2.2.1
      simp at qA
      have HB2 : Hid (Below bN W (w1.setCell ⟨bA, 0, none⟩ (.int .i64 fz))) := Lib.hid (HB1.out.setCell (p := ⟨bA, 0, none⟩) (by show bN ≤ bA; omega) _)
      have H2 : Hid ((w1.setCell ⟨bA, 0, none⟩ (.int .i64 fz)).heap[bN]? = some (.cells #[.int .i64 0] 3 (0, 0)) ∧ (w1.setCell ⟨bA, 0, none⟩ (.int .i64 fz)).heap[bI]? = some (.cells #[.int .i64 0] 3 (0, 0)) ∧ (w1.setCell ⟨bA, 0, none⟩ (.int .i64 fz)).heap[bA]? = some (.cells #[.int .i64 (firstP L 0 0)] 3 (0, 0)) ∧ (w1.setCell ⟨bA, 0, none⟩ (.int .i64 fz)).heap.size = bA + 1) := by
        refine Lib.hid ⟨?_, ?_, ?_, by simpa using H0.out.2.2.2⟩
        · rw [heap_setCell_other w1 ⟨bA, 0, none⟩ bN _ (by simp; omega)]; exact H0.out.1
        · rw [heap_setCell_other w1 ⟨bA, 0, none⟩ bI _ (by simp; omega)]; exact H0.out.2.1
        · rw [HFp.out]
          have := heap_setCell_same w1 bA 0 _ _ (.int .i64 fz) H0.out.2.2.1
          simpa using this
      generalize hw2 : w1.setCell ⟨bA, 0, none⟩ (.int .i64 fz) = w2 at *
      go_wp2
      clear hw2 qW qA fA c0
      generalize hn1 : w2.heap.size = n1 at *
      have HN1 := Lib.hid hn1; clear hn1
      have hA1 : bA < n1 := by have := H2.out.2.2.2; omega
      have HC2 := Lib.hid (HC.out.below HB2.out (by rw [← HBn.out]; exact Nat.le_refl _))
      have HW2 := Lib.hid ((HB2.out.cell (p := ⟨bW, 0, none⟩) hbW).trans HWw.out)
      have HR2 := Lib.hid ((HB2.out.cell (p := ⟨bR, 0, none⟩) hbR).trans HRr.out)
      have HM2 := Lib.hid ((HB2.out.cell (p := ⟨bM, 0, none⟩) hbM).trans HMm.out)
      refine wp_rangeX (gf := 56) (lb := #[.pointer (some ⟨bP, 0, none⟩)]) rfl (enters_of Try.func56 (by kernel_rfl) rfl) (HS.out w2 HB2.out) (Below.refl _ _) (fun k hk => by rw [HN1.out]; have : k < bN := hk; omega) (fun _ => rfl)
        (JnI w2 n1 bN bI bA L) (JnX w2 n1 bN bI bA r most) (JnI.abide (by omega) (by omega) hA1 (by rw [HN1.out]; exact Nat.le_refl _)) (JnX.abide (by omega) (by omega) hA1 (by rw [HN1.out]; exact Nat.le_refl _))
        ⟨0, firstP L 0 0, ⟨But.refl _ _ _, H2.out.1, H2.out.2.1, H2.out.2.2.1, fun _ h => h.elim⟩, posI.zero hNF, by simp⟩
        JnA (fun T x a' W W' h ho => h) ?asg ?bdy ?dn ?stp
      case asg =>
        rintro l T pre x W K hi hK
        have HK := Lib.hid hK; clear hK
        gi_wp2
        exact HK.out _ _ (Kept.refl _ _ _) hi rfl
      case bdy =>
        rintro l T pre x a' W3 hTl hl - hi hA hlen hsp
        unfold JnA at hA
        subst hA
        simp only [List.setIfInBounds_toArray, List.set_cons_succ, List.set_cons_zero]
        exact joinB_walk rfl w2 W3 T n1 bN bI bA bW bR bM l (some ⟨b, o, none⟩) nw cw r most L pre x hL hlt hNF HWF.out HC2.out HCb.out HW2.out hbW HR2.out hbR HM2.out hbM hNI hIA hA1 hr3 hi hsp _ _ _ _ _ _ _ _ _ _ _ _ _ _ _ _ _ _ _ _ _ _ _ _ _ _ _ _ _ _ _ _ _ _ _ _ _ _ _ _ _ _ _ _ _ _ _ _ _ _ _ _ _ _ _ _ _ _ _ _ _ _ _ _ _ _ _ _ _ _ _ _ _ _ _ _ _ _ _ _ _ _ _ _ _ _ _ _ _ _ _ _ _ _ _ _ _ _ _ _ _ _ _ _ _ _ _ _ _ _ _ _ _ _ _ _ _ _ _ _ _ _ _ _ _ _ _ _ _ _ _ _ _ _ _ _ _ _ _ _ _ _ _ _ _ _ _ _ _ _ _ _ _ _
      case dn =>
        rintro D T xs W3 hD hTD rfl ⟨i, z, hst, hpos, hlen⟩ hDk
        have HST := Lib.hid hst; clear hst
        have HDk := Lib.hid hDk; clear hDk
        have hdn := hpos.done
        have hdi : ¬ (i : Int) < (nw : Int) := by omega
        clear hpos hlen hdn
        have qI := HST.out.qI
        have qW := HST.out.cell hNI hIA hA1 HW2.out hbW
        have qR := HST.out.cell hNI hIA hA1 HR2.out hbR
        go_wp2
        have hDl := (Array.getElem?_eq_some_iff.1 HDk.out).1
        have hs3 : bN ≤ W3.heap.size := by have := HST.out.but.size; have := HN1.out; omega
        exact HN.out _ _ _ _ _ _ _ _ _ _ _ _ _ _ _ _ _ _ _ _ _ _ _ _ _ _ _ _ _ _ _ _ _ _ _ _ _ _ _ _ _ _ _ _ _ _ _ _ _ _ _ _ _ _ _ _ _ _ _ _ _ _ _ _ _ _ _ _ _ _ _ _ _ _ _ _ _ _ D _ ((HB2.out.trans (HST.out.but.below bN (by omega) (fun k hk => by rcases hk with rfl | rfl | rfl <;> omega))).alloc hs3 _) hs3 (by have := heap_alloc_new W3 (.cells #[.int .i64 ((r : Int) + 1)] 3); push_cast; exact this) (by have := HN1.out; omega) (by omega) ((Below.heap_alloc _ _ _ hDl).trans HDk.out)
      case stp =>
        rintro D c T pre W3 hD hTD - ⟨i, z, hst, rfl, hcd⟩ hDk
        have HST := Lib.hid hst; clear hst
        have HDk := Lib.hid hDk; clear hDk
        have qN := HST.out.qN
        have qI := HST.out.qI
        have qW := HST.out.cell hNI hIA hA1 HW2.out hbW
        have qR := HST.out.cell hNI hIA hA1 HR2.out hbR
        have qM := HST.out.cell hNI hIA hA1 HM2.out hbM
        generalize hm : pre.length = m at *
        clear hm
        by_cases hin : i < nw
        · have hdi : (i : Int) < (nw : Int) := by omega
          rcases hcd with h | ⟨h1, h2⟩
          · have hm : (m : Int) = 1000 := by omega
            rw [hm] at qN
            clear h hm hin
            go_wp2
            have hDl := (Array.getElem?_eq_some_iff.1 HDk.out).1
            have hs3 : bN ≤ W3.heap.size := by have := HST.out.but.size; have := HN1.out; omega
            exact HN.out _ _ _ _ _ _ _ _ _ _ _ _ _ _ _ _ _ _ _ _ _ _ _ _ _ _ _ _ _ _ _ _ _ _ _ _ _ _ _ _ _ _ _ _ _ _ _ _ _ _ _ _ _ _ _ _ _ _ _ _ _ _ _ _ _ _ _ _ _ _ _ _ _ _ _ _ _ _ D _ ((HB2.out.trans (HST.out.but.below bN (by omega) (fun k hk => by rcases hk with rfl | rfl | rfl <;> omega))).alloc hs3 _) hs3 (by have := heap_alloc_new W3 (.cells #[.int .i64 ((r : Int) + 1)] 3); push_cast; exact this) (by have := HN1.out; omega) (by omega) ((Below.heap_alloc _ _ _ hDl).trans HDk.out)
          · rw [h2] at qN
            have hr1 : (r : Int) = 1 := by omega
            clear h1 h2 hin
            go_wp2
            all_goals
              have hDl := (Array.getElem?_eq_some_iff.1 HDk.out).1
              have hs3 : bN ≤ W3.heap.size := by have := HST.out.but.size; have := HN1.out; omega
              exact HN.out _ _ _ _ _ _ _ _ _ _ _ _ _ _ _ _ _ _ _ _ _ _ _ _ _ _ _ _ _ _ _ _ _ _ _ _ _ _ _ _ _ _ _ _ _ _ _ _ _ _ _ _ _ _ _ _ _ _ _ _ _ _ _ _ _ _ _ _ _ _ _ _ _ _ _ _ _ _ D _ ((HB2.out.trans (HST.out.but.below bN (by omega) (fun k hk => by rcases hk with rfl | rfl | rfl <;> omega))).alloc hs3 _) hs3 (by have := heap_alloc_new W3 (.cells #[.int .i64 2] 3); rw [show ((r + 1 : Nat) : Int) = 2 by omega]; exact this) (by have := HN1.out; omega) (by omega) ((Below.heap_alloc _ _ _ hDl).trans HDk.out)
        · have hdi : ¬ (i : Int) < (nw : Int) := by omega
          clear hcd hin qN qM
          go_wp2
          have hDl := (Array.getElem?_eq_some_iff.1 HDk.out).1
          have hs3 : bN ≤ W3.heap.size := by have := HST.out.but.size; have := HN1.out; omega
          exact HN.out _ _ _ _ _ _ _ _ _ _ _ _ _ _ _ _ _ _ _ _ _ _ _ _ _ _ _ _ _ _ _ _ _ _ _ _ _ _ _ _ _ _ _ _ _ _ _ _ _ _ _ _ _ _ _ _ _ _ _ _ _ _ _ _ _ _ _ _ _ _ _ _ _ _ _ _ _ _ D _ ((HB2.out.trans (HST.out.but.below bN (by omega) (fun k hk => by rcases hk with rfl | rfl | rfl <;> omega))).alloc hs3 _) hs3 (by have := heap_alloc_new W3 (.cells #[.int .i64 ((r : Int) + 1)] 3); push_cast; exact this) (by have := HN1.out; omega) (by omega) ((Below.heap_alloc _ _ _ hDl).trans HDk.out)
end Go.Proofs.Ytkcdcgijbaepmaa
