/-
  The document's functions: 'Map'.
-/
import Derived.Test.YtabbabkmojaoaaaWE
set_option linter.unusedVariables false
set_option linter.unusedSimpArgs false
namespace Go.Proofs.Ytabbabkmojaoaaa
open Go.RowKit
attribute [local go_sem] Oper.semAt_some

/-- the spans one behind the other, their values turned -/
def turnL (h : Int → Int) (L : List (Int × Int)) : List (Int × Int) := L.foldl (fun acc x => withL acc x.1 (h x.2)) []
theorem turnL_snoc (h : Int → Int) (L : List (Int × Int)) (x : Int × Int) : turnL h (L ++ [x]) = withL (turnL h L) x.1 (h x.2) := by
  unfold turnL
  rw [List.foldl_append]
  rfl
theorem turnL_run (h : Int → Int) (F : Nat → Int) : ∀ n, turnL h (runL F n) = runL (fun r => h (F r)) n
  | 0 => rfl
  | n + 1 => by
    have ih := turnL_run h F n
    rw [runL, runL]
    rcases withL_form (runL F n) (n : Nat) (F n) with ⟨y, h1, h2, h3⟩ | h3
    · rw [h3, turnL_snoc, ← ih]
      conv => rhs; rw [h1, turnL_snoc, h2, withL_twice]
    · rw [h3, turnL_snoc, ih]
def MpR (w7 : World) (bf : Nat) (h : Int → Int) (L : List (Int × Int)) (iv : Value) (W : World) : Prop := ∃ k : Nat, k ≤ L.length ∧ iv = .int .i64 (k : Nat) ∧ (∃ x y, W.heap[bf]? = some (.cells #[x, y] 63 (0, 0)) ∧ FnAt W (.agg #[x, y]) (turnL h (L.take k))) ∧ Below w7.heap.size w7 W
theorem turnL_length (h : Int → Int) (L : List (Int × Int)) : (turnL h L).length ≤ L.length := by
  have : ∀ (L acc : List (Int × Int)), (L.foldl (fun acc x => withL acc x.1 (h x.2)) acc).length ≤ acc.length + L.length := by
    intro L
    induction L with
    | nil => intro acc; simp
    | cons x L ih =>
      intro acc
      rw [List.foldl_cons, List.length_cons]
      have := ih (withL acc x.1 (h x.2))
      have := withL_length acc x.1 (h x.2)
      omega
  simpa [turnL] using this L []
set_option maxRecDepth 100000 in
set_option maxHeartbeats 1600000 in
theorem refMap_walk (w : World) (fv : Value) (L : List (Int × Int)) (aO : Option Addr) (nO cO : Nat) (zs : List Int) (hL : L.length ≤ 1114112) (hf : FnAt w fv L) (hO : Ints .i64 w aO zs) (hz : zs.length = nO) (hv : ∀ x ∈ L, 0 ≤ x.2 ∧ x.2 < (nO : Int)) :
    Calls Try.prog 41 #[fv, .slice aO nO cO] w fun e w' => ∃ fv', e = .returned fv' ∧ FnAt w' fv' (turnL (fun v => zs.getD v.toNat 0) L) ∧ Below w.heap.size w w' := by
  obtain ⟨aT, cT, aV, cV, rfl, hT, hV, -, -⟩ := hf
  obtain ⟨n, hn⟩ : ∃ n, n = L.length := ⟨_, rfl⟩
  rw [← hn] at hL ⊢
  have HT := Lib.hid hT; have HV := Lib.hid hV; have HO := Lib.hid hO; have HN := Lib.hid hn; have HVv := Lib.hid hv; have HZs := Lib.hid hz
  clear hT hV hO hn hv hz
  go_enter Try.func41, Try.ntmps41
  go_upto_region 2 with (fail)
  have E1 := heap_alloc_new w (.cells #[.slice aT n cT, .slice aV n cV] 63)
  have E2 := (Below.refl _ w).alloc (Nat.le_refl _) (.cells #[.slice aT n cT, .slice aV n cV] 63)
  have E3 := World.size_alloc w (.cells #[.slice aT n cT, .slice aV n cV] 63)
  generalize w.alloc (.cells #[.slice aT n cT, .slice aV n cV] 63) = w1 at *
  have G1 := heap_alloc_new w1 (.cells #[.slice none 0 0, .slice none 0 0] 63)
  have G2 := (Below.refl _ w1).alloc (Nat.le_refl _) (.cells #[.slice none 0 0, .slice none 0 0] 63)
  have G3 := World.size_alloc w1 (.cells #[.slice none 0 0, .slice none 0 0] 63)
  generalize w1.alloc (.cells #[.slice none 0 0, .slice none 0 0] 63) = w3 at *
  have H1 := heap_alloc_new w3 (.cells #[.slice none 0 0, .slice none 0 0] 63)
  have H2 := (Below.refl _ w3).alloc (Nat.le_refl _) (.cells #[.slice none 0 0, .slice none 0 0] 63)
  generalize w3.alloc (.cells #[.slice none 0 0, .slice none 0 0] 63) = w4 at *
  obtain ⟨b0, hb0⟩ : ∃ b0, b0 = w.heap.size := ⟨_, rfl⟩
  rw [← hb0] at E1 E3 ⊢
  rw [E3] at G1 G3
  rw [G3] at H1
  have HB := Lib.hid (E2.trans (G2.mono E2.size))
  have X0 := Lib.hid ((G2.block b0 (by omega)).trans E1)
  have X1 := Lib.hid G1; have X2 := Lib.hid H1; have HH := Lib.hid H2; have HZ := Lib.hid (And.intro hb0 G3)
  clear E1 E2 E3 G1 G2 G3 H1 H2 hb0
  go_wp2
  go_loopw [6] (MpR w3 (b0 + 1 + 1) (fun v => zs.getD v.toNat 0) L) (fun i _ => n - (intOf i).toNat)
  case atStart => exact ⟨0, Nat.zero_le _, rfl, ⟨_, _, X2.out, FnAt.nil _⟩, HH.out⟩
  case round =>
    obtain ⟨k, hk, rfl, ⟨x, y, hxy, hfn⟩, hbel⟩ := hrel
    have HXy := Lib.hid hxy; have HFn := Lib.hid hfn; have HBl := Lib.hid hbel
    clear hxy hfn hbel
    have hB3 := HB.out.trans (HBl.out.mono HB.out.size)
    have x0 := (HBl.out.block b0 (by have := HZ.out.2; omega)).trans X0.out
    have q0 := cell_of_row wr b0 0 _ _ (0, 0) x0
    have q1 := cell_of_row wr b0 1 _ _ (0, 0) x0
    have p0 := cell_of_row wr (b0 + 1 + 1) 0 _ _ (0, 0) HXy.out
    have p1 := cell_of_row wr (b0 + 1 + 1) 1 _ _ (0, 0) HXy.out
    simp at q0 q1 p0 p1
    have HT3 := Lib.hid (HT.out.below hB3 (Nat.le_refl _)); have HV3 := Lib.hid (HV.out.below hB3 (Nat.le_refl _)); have HO3 := Lib.hid (HO.out.below hB3 (Nat.le_refl _))
    have HB3 := Lib.hid hB3; clear hB3 x0
    by_cases hkn : k < n
    · have hki : (k : Int) < (n : Int) := by omega
      have hkl : k < L.length := by rw [← HN.out]; exact hkn
      obtain ⟨bT, oT, e1⟩ := HT3.out.some (by rw [List.length_map]; omega)
      obtain ⟨bV, oV, e2⟩ := HV3.out.some (by rw [List.length_map]; omega)
      have hvk := HVv.out L[k] (List.getElem_mem hkl)
      obtain ⟨vn, hvn⟩ : ∃ vn : Nat, L[k].2 = (vn : Int) := ⟨L[k].2.toNat, by omega⟩
      have hvl : vn < zs.length := by rw [HZs.out]; omega
      obtain ⟨bO, oO, e3⟩ := HO3.out.some (by omega)
      subst e1 e2 e3
      have c1 := HT3.out.get k (by rw [List.length_map]; exact hkl)
      have c2 := HV3.out.get k (by rw [List.length_map]; exact hkl)
      have c3 := HO3.out.get vn hvl
      simp only [List.getElem_map] at c1 c2
      rw [hvn] at c2
      have HTk := Lib.hid (show turnL (fun v => zs.getD v.toNat 0) (L.take (k + 1)) = withL (turnL (fun v => zs.getD v.toNat 0) (L.take k)) L[k].1 zs[vn] from by
        rw [List.take_add_one, List.getElem?_eq_getElem hkl]
        show turnL _ (L.take k ++ [L[k]]) = _
        rw [turnL_snoc, hvn]
        simp [hvl])
      have hvi : (vn : Int) < (nO : Int) := by rw [HZs.out] at hvl; omega
      generalize L[k] = z at *
      generalize zs[vn] = u at *
      clear hvk hvn hvl
      go_upto_region 5 with (fail)
      refine wp_region_still_tail 14 (by kernel_rfl) (by kernel_rfl) ?_
      simp only [List.take_succ_cons, List.take_zero, List.drop_succ_cons, List.drop_zero]
      change wpStill _ _ (World.drew _) (fun a' => wpList _ _ _ _ a' (World.drew _)) _ _
      repeat still_step
      refine wpStill_nil ?_
      have HD : Hid (Below wr.heap.size wr wr.drew) := Lib.hid (Below.refl _ wr).drew
      go_wp2_with fail
      refine (with_walk wr.drew (.agg #[x, y]) (turnL (fun v => zs.getD v.toNat 0) (L.take k)) z.1 u (by have := turnL_length (fun v => zs.getD v.toNat 0) (L.take k); have := List.length_take_le k L; omega) (HFn.out.below HD.out)).mono ?_
      rintro e w20 ⟨fv, rfl, hf, hb⟩
      rw [← HTk.out] at hf
      have HF2 := Lib.hid hf
      obtain ⟨aT9, cT9, aV9, cV9, rfl, -⟩ := hf
      obtain ⟨aT0, cT0, aV0, cV0, hxe, -⟩ := HFn.out
      have hxe2 : x = .slice aT0 (turnL (fun v => zs.getD v.toNat 0) (L.take k)).length cT0 ∧ y = .slice aV0 (turnL (fun v => zs.getD v.toNat 0) (L.take k)).length cV0 := by simpa using hxe
      have hbd := below_seq HD.out hb
      have x1 := (hbd.block (b0 + 1 + 1) (Array.getElem?_eq_some_iff.1 HXy.out).1).trans HXy.out
      have p2 := cell_of_row w20 (b0 + 1 + 1) 0 _ _ (0, 0) x1
      have p3 := cell_of_row w20 (b0 + 1 + 1) 1 _ _ (0, 0) x1
      have f2 := frozen_of_row w20 (b0 + 1 + 1) 0 _ _ x1
      have f3 := frozen_of_row w20 (b0 + 1 + 1) 1 _ _ x1
      simp at p2 p3
      have y1 := heap_setCell_same w20 (b0 + 1 + 1) 0 _ _ (.slice aT9 (turnL (fun v => zs.getD v.toNat 0) (L.take (k + 1))).length cT9) x1
      have y2 := heap_setCell_same _ (b0 + 1 + 1) 1 _ _ (.slice aV9 (turnL (fun v => zs.getD v.toNat 0) (L.take (k + 1))).length cV9) y1
      have g1 := (HF2.out.box x1 (fun k z e => by rw [hxe2.1] at e; cases e) (fun k z e => by rw [hxe2.2] at e; cases e) 0 (.slice aT9 (turnL (fun v => zs.getD v.toNat 0) (L.take (k + 1))).length cT9)).box y1 (fun k z e => by cases e) (fun k z e => by
        have : y = .int k z := e
        rw [hxe2.2] at this; cases this) 1 (.slice aV9 (turnL (fun v => zs.getD v.toNat 0) (L.take (k + 1))).length cV9)
      have HG := Lib.hid (And.intro y2 g1)
      have HB4 : Hid (Below w3.heap.size w3 ((w20.setCell ⟨b0 + 1 + 1, 0, none⟩ (.slice aT9 (turnL (fun v => zs.getD v.toNat 0) (L.take (k + 1))).length cT9)).setCell ⟨b0 + 1 + 1, 1, none⟩ (.slice aV9 (turnL (fun v => zs.getD v.toNat 0) (L.take (k + 1))).length cV9))) := Lib.hid (((HBl.out.trans (hbd.mono HBl.out.size)).setCell (p := ⟨b0 + 1 + 1, 0, none⟩) (by show _ ≤ b0 + 1 + 1; rw [HZ.out.2]; exact Nat.le_refl _) _).setCell (p := ⟨b0 + 1 + 1, 1, none⟩) (by show _ ≤ b0 + 1 + 1; rw [HZ.out.2]; exact Nat.le_refl _) _)
      clear hxe hxe2 x1 y1 y2 g1 hb hbd p0 p1
      generalize (turnL (fun v => zs.getD v.toNat 0) (L.take (k + 1))).length = nn at *
      go_wp2
      go_roundw
      case rel => exact ⟨k + 1, by omega, by go_num, ⟨_, _, HG.out⟩, HB4.out⟩
      case measure => simp [intOf]; omega
    · have hkk : k = n := by rw [← HN.out] at hk; omega
      have hki : ¬ (k : Int) < (n : Int) := by omega
      have x2 := (HBl.out.block (b0 + 1) (by have := HZ.out.2; omega)).trans X1.out
      have p2 := cell_of_row wr (b0 + 1) 0 _ _ (0, 0) x2
      have p3 := cell_of_row wr (b0 + 1) 1 _ _ (0, 0) x2
      have f2 := frozen_of_row wr (b0 + 1) 0 _ _ x2
      have f3 := frozen_of_row wr (b0 + 1) 1 _ _ x2
      simp at p2 p3
      have HFt : Hid (FnAt wr (.agg #[x, y]) (turnL (fun v => zs.getD v.toNat 0) L)) := Lib.hid (by
        have := HFn.out
        rwa [List.take_of_length_le (by rw [← HN.out]; omega)] at this)
      obtain ⟨aT0, cT0, aV0, cV0, hxe, -⟩ := HFt.out
      have hxe2 : x = .slice aT0 (turnL (fun v => zs.getD v.toNat 0) L).length cT0 ∧ y = .slice aV0 (turnL (fun v => zs.getD v.toNat 0) L).length cV0 := by simpa using hxe
      have Y2 := Lib.hid x2
      clear hxe x2 hkk
      generalize (turnL (fun v => zs.getD v.toNat 0) L).length = nn at *
      obtain ⟨rfl, rfl⟩ := hxe2
      go_wp2
      have y1 := heap_setCell_same wr (b0 + 1) 0 _ _ (.slice aT0 nn cT0) Y2.out
      have y2 := heap_setCell_same _ (b0 + 1) 1 _ _ (.slice aV0 nn cV0) y1
      have g1 := (HFt.out.box Y2.out (fun k z e => by cases e) (fun k z e => by cases e) 0 (.slice aT0 nn cT0)).box y1 (fun k z e => by cases e) (fun k z e => by cases e) 1 (.slice aV0 nn cV0)
      refine bodyPost_ret (results_cell_row rfl _ _ (b0 + 1) _ _ _ _ rfl y2 Try.underlying63 rfl rfl) rfl ?_
      refine ⟨_, rfl, g1, ?_⟩
      exact (HB3.out.setCell (p := ⟨b0 + 1, 0, none⟩) (by show _ ≤ b0 + 1; have := HZ.out.1; omega) _).setCell (p := ⟨b0 + 1, 1, none⟩) (by show _ ≤ b0 + 1; have := HZ.out.1; omega) _
end Go.Proofs.Ytabbabkmojaoaaa
