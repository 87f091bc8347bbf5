/- several texts in one: WJ -/
import Derived.Test.YtbmphakfgoompaaGreatJW
import Derived.Deep.CutRange
set_option linter.unusedVariables false
set_option linter.unusedSimpArgs false
/-
 The document's functions: 'Stages'.
-/
namespace Go.Proofs.YtbmphakfgoompaaGreat
open Go.RowKit
attribute [local go_sem] Oper.semAt_some

/-- between two middle blocks -/
def StgO (F : Nat → Int) (N c : Nat) (w3 : World) (iv nv lv tv : Value) (W : World) : Prop :=
 ∃ (t i : Nat) (n last : Int) (aT : Option Addr) (cT : Nat) (aM : Option Addr) (cM : Nat) (aL : Option Addr) (cL : Nat), t ≤ 272 ∧ iv = .int .i64 (i : Nat) ∧ nv = .int .i64 n ∧ lv = .int .i64 last ∧ tv = .int .i64 (t : Nat) ∧
  CurL (runL F N) i (64 * (64 * t)) ∧ LastI F (64 * t) n last ∧
  StgAt c (mkF F (64 * t)).lows (mkF F (64 * t)).mids ((mkF F (64 * t)).top.take t) (mkF F (64 * t)).mids (mkF F (64 * t)).lows aT cT aM cM aL cL W ∧ Below c w3 W
/-- between two low blocks -/
def StgI (F : Nat → Int) (N c t bm : Nat) (w3 : World) (iv nv lv kv : Value) (W : World) : Prop :=
 ∃ (k i : Nat) (n last : Int) (mr : List Nat) (aT : Option Addr) (cT : Nat) (aM : Option Addr) (cM : Nat) (aL : Option Addr) (cL : Nat), k ≤ 64 ∧ iv = .int .i64 (i : Nat) ∧ nv = .int .i64 n ∧ lv = .int .i64 last ∧ kv = .int .i64 (k : Nat) ∧
  CurL (runL F N) i (64 * (64 * t + k)) ∧ LastI F (64 * t + k) n last ∧
  StgAt c (mkF F (64 * t + k)).lows (mkF F (64 * t)).mids ((mkF F (64 * t)).top.take t) (mkF F (64 * t)).mids (mkF F (64 * t + k)).lows aT cT aM cM aL cL W ∧ Below c w3 W ∧
  W.heap[bm]? = some (.cells (ivs .i64 (natsI mr)).toArray 186 (0, 0)) ∧ mr.length = 64 ∧ (∀ j, j < k → mr[j]? = some (noF F (64 * t + j))) ∧ ob aT ≠ some bm ∧ ob aM ≠ some bm ∧ ob aL ≠ some bm
/-- a block that is being filled -/
def StgB (F : Nat → Int) (N r bb : Nat) (w4 : World) (iv jv : Value) (W : World) : Prop :=
 ∃ (j i : Nat) (bs : List Int), j ≤ 64 ∧ iv = .int .i64 (i : Nat) ∧ jv = .int .i64 (j : Nat) ∧ CurL (runL F N) i (r + j) ∧ bs.length = 64 ∧ (∀ q, q < j → bs[q]? = some (F (r + q))) ∧ W.heap[bb]? = some (.cells (ivs .i64 bs).toArray 186 (0, 0)) ∧ Below bb w4 W
/-- three rows from block B on -/
def Far3 (B : Nat) (sv : Value) : Prop := ∃ a0 n0 c0 a1 n1 c1 a2 n2 c2, sv = .agg #[.slice a0 n0 c0, .slice a1 n1 c1, .slice a2 n2 c2] ∧ (∀ x, a0 = some x → B ≤ x.block) ∧ (∀ x, a1 = some x → B ≤ x.block) ∧ ∀ x, a2 = some x → B ≤ x.block
set_option maxRecDepth 100000 in
set_option maxHeartbeats 4000000 in
theorem refStagesF_walk (w : World) (fv : Value) (F : Nat → Int) (N M : Nat) (hN : N = 1114112) (hM : M = 17408) (hf : FnAt w fv (runL F N)) :
  Calls Tryz.prog 71 #[fv] w fun e w' => ∃ sv, e = .returned sv ∧ StagesAt w' sv (mkF F M) ∧ Below w.heap.size w w' ∧ Far3 w.heap.size sv := by
 obtain ⟨aT, cT, aV, cV, rfl, hT, hV, -, -⟩ := hf
 have hle := runL_length F N
 obtain ⟨n, hn⟩ : ∃ n, n = (runL F N).length := ⟨_, rfl⟩
 rw [← hn] at hle ⊢
 have hnl : n ≤ 1114112 := by omega
 have HT := Lib.hid hT; have HV := Lib.hid hV; have HNn := Lib.hid hn; have HN := Lib.hid hN; have HM := Lib.hid hM
 clear hT hV hn hN hM hle
 go_enter Tryz.func71, Tryz.ntmps71
 go_upto_region 2 with (fail)
 have E1 := heap_alloc_new w (.cells #[.slice aT n cT, .slice aV n cV] 35)
 have E2 := (Below.refl _ w).alloc (Nat.le_refl _) (.cells #[.slice aT n cT, .slice aV n cV] 35)
 have E3 := World.size_alloc w (.cells #[.slice aT n cT, .slice aV n cV] 35)
 generalize w.alloc (.cells #[.slice aT n cT, .slice aV n cV] 35) = w1 at *
 have G1 := heap_alloc_new w1 (.cells #[.slice none 0 0, .slice none 0 0, .slice none 0 0] 133)
 have G2 := (Below.refl _ w1).alloc (Nat.le_refl _) (.cells #[.slice none 0 0, .slice none 0 0, .slice none 0 0] 133)
 have G3 := World.size_alloc w1 (.cells #[.slice none 0 0, .slice none 0 0, .slice none 0 0] 133)
 generalize w1.alloc (.cells #[.slice none 0 0, .slice none 0 0, .slice none 0 0] 133) = w2 at *
 have H1 := heap_alloc_new w2 (.cells #[.slice none 0 0, .slice none 0 0, .slice none 0 0] 133)
 have H2 := (Below.refl _ w2).alloc (Nat.le_refl _) (.cells #[.slice none 0 0, .slice none 0 0, .slice none 0 0] 133)
 have H3 := World.size_alloc w2 (.cells #[.slice none 0 0, .slice none 0 0, .slice none 0 0] 133)
 generalize w2.alloc (.cells #[.slice none 0 0, .slice none 0 0, .slice none 0 0] 133) = w3 at *
 obtain ⟨b0, hb0⟩ : ∃ b0, b0 = w.heap.size := ⟨_, rfl⟩
 rw [← hb0] at E1 E3 ⊢
 rw [E3] at G1 G3
 rw [G3] at H1 H3
 have I1 := heap_alloc_new w3 (.map #[] 0)
 have I2 := (Below.refl _ w3).alloc (Nat.le_refl _) (.map #[] 0)
 have I3 := World.size_alloc w3 (.map #[] 0)
 have I4 : (Instr.makeMap 184 none).run Tryz.prog w3 = .ok (.map (some w3.heap.size)) (w3.alloc (.map #[] 0)) := by kernel_rfl
 refine wp_region_list ?_
 refine wpList_val (v := .map (some w3.heap.size)) (w' := w3.alloc (.map #[] 0)) rfl (by kernel_rfl) ?_
 generalize w3.alloc (.map #[] 0) = w4 at *
 rw [H3] at I1 I3 ⊢
 go_upto_region 3 with (fail)
 have J1 := heap_alloc_new w4 (.map #[] 0)
 have J2 := (Below.refl _ w4).alloc (Nat.le_refl _) (.map #[] 0)
 refine wp_region_list ?_
 refine wpList_val (v := .map (some w4.heap.size)) (w' := w4.alloc (.map #[] 0)) rfl (by kernel_rfl) ?_
 generalize w4.alloc (.map #[] 0) = w5 at *
 rw [I3] at J1 ⊢
 obtain ⟨c, hc⟩ : ∃ c, c = b0 + 1 + 1 := ⟨_, rfl⟩
 have h2s : w2.heap.size = c := by rw [G3, hc]
 have hB5 : Below c w2 w5 := by
  have := H2.trans ((I2.trans (J2.mono (by omega))).mono (by omega))
  rwa [h2s] at this
 have HB5 := Lib.hid hB5
 have HB2 : Hid (Below w.heap.size w w2) := Lib.hid (E2.trans (G2.mono (by omega)))
 have HX2 : Hid (w2.heap[b0]? = some (.cells #[.slice aT n cT, .slice aV n cV] 35 (0, 0))) := Lib.hid ((G2.block b0 (by omega)).trans E1)
 have HR2 : Hid (w2.heap[b0 + 1]? = some (.cells #[.slice none 0 0, .slice none 0 0, .slice none 0 0] 133 (0, 0))) := Lib.hid G1
 have HS5 : Hid (StgAt c [] [] [] [] [] none 0 none 0 none 0 w5) := Lib.hid (by
  rw [← hc] at H1 I1 J1
  have k3 : w3.heap.size ≤ w4.heap.size := I2.size
  refine ⟨(J2.block c (by omega)).trans ((I2.block c (by omega)).trans H1), Own.nil _ _ _, Own.nil _ _ _, Own.nil _ _ _, (fun k e => by cases e), (fun k e => by cases e), (fun k e => by cases e), (J2.block (c + 1) (by omega)).trans I1, J1⟩)
 have HT2 := Lib.hid (HT.out.below HB2.out (Nat.le_refl _)); have HV2 := Lib.hid (HV.out.below HB2.out (Nat.le_refl _))
 have HC := Lib.hid (And.intro hc (And.intro hb0 h2s))
 rw [← hb0, ← hc, show c + 1 + 1 = c + 2 from rfl]
 clear E1 E2 E3 G1 G2 G3 H1 H2 H3 I1 I2 I3 I4 J1 J2 hB5 hc hb0 h2s
 go_wp2
 go_loopw [6, 7, 8, 9] (StgO F N c w2) (fun _ _ _ tv _ => 272 - (intOf tv).toNat)
 case atStart => exact ⟨0, 0, -1, 0, none, 0, none, 0, none, 0, Nat.zero_le _, rfl, rfl, rfl, rfl, CurL.zero _ _, .inl rfl, HS5.out, HB5.out⟩
 case round =>
  obtain ⟨t, i, nn, last, aT1, cT1, aM1, cM1, aL1, cL1, ht, rfl, rfl, rfl, rfl, hcur, hlast, hst, hbel⟩ := hrel
  have HCu := Lib.hid hcur; have HLa := Lib.hid hlast; have HSt := Lib.hid hst; have HBl := Lib.hid hbel
  clear hcur hlast hst hbel HS5 HB5
  by_cases htn : t < 272
  ·have hti : (t : Int) < 272 := by omega
   go_upto_region 10 with (fail)
   change Code.wp _ _ _ _ (wr.alloc (.cells (ivs .i64 (List.replicate 64 0)).toArray 186))
   obtain ⟨bm, hbm⟩ : ∃ bm, bm = wr.heap.size := ⟨_, rfl⟩
   have A1 := heap_alloc_new wr (.cells (ivs .i64 (List.replicate 64 0)).toArray 186)
   have A2 := (Below.refl _ wr).alloc (Nat.le_refl _) (.cells (ivs .i64 (List.replicate 64 0)).toArray 186)
   rw [← hbm] at A1 A2 ⊢
   generalize wr.alloc (.cells (ivs .i64 (List.replicate 64 0)).toArray 186) = w6 at *
   have hcm : c + 3 ≤ bm := by rw [hbm]; exact HSt.out.sz
   have HI6 : Hid (StgI F N c t bm w2 (.int .i64 (i : Nat)) (.int .i64 nn) (.int .i64 last) (.int .i64 0) w6) := Lib.hid
    ⟨0, i, nn, last, List.replicate 64 0, aT1, cT1, aM1, cM1, aL1, cL1, Nat.zero_le _, rfl, rfl, rfl, rfl, HCu.out, HLa.out, HSt.out.below (by rw [← hbm]; exact A2), HBl.out.trans (A2.mono (by omega)), by rw [A1]; simp [natsI], List.length_replicate, fun j hj => by omega,
     fun e => by have := HSt.out.bT _ e; omega, fun e => by have := HSt.out.bM _ e; omega, fun e => by have := HSt.out.bL _ e; omega⟩
   have HBm := Lib.hid (And.intro hbm hcm)
   clear A1 A2 hbm hcm HCu HLa HSt HBl
   go_wp2
   go_loopw [6, 7, 8, 11] (StgI F N c t bm w2) (fun _ _ _ kv _ => 64 - (intOf kv).toNat)
   case atStart => exact HI6.out
   case round =>
    clear HI6
    obtain ⟨k, i, nn, last, mr, aT1, cT1, aM1, cM1, aL1, cL1, hk, rfl, rfl, rfl, rfl, hcur, hlast, hst, hbel, hrow, hml, hmr, n1, n2, n3⟩ := hrel
    have HCu := Lib.hid hcur; have HLa := Lib.hid hlast; have HSt := Lib.hid hst; have HBl := Lib.hid hbel; have HRw := Lib.hid hrow; have HMr := Lib.hid hmr; have HNe := Lib.hid (And.intro n1 (And.intro n2 n3))
    clear hcur hlast hst hbel hrow hmr n1 n2 n3
    by_cases hkn : k < 64
    ·have hki : (k : Int) < 64 := by omega
     obtain ⟨r, hr⟩ : ∃ r : Nat, r = 64 * (64 * t + k) := ⟨_, rfl⟩
     have hre : (t : Int) * 4096 + (k : Int) * 64 = (r : Int) := by omega
     have hrl : r + 63 < 1114112 := by omega
     obtain ⟨w9, hw9⟩ : ∃ w9, w9 = wr := ⟨_, rfl⟩
     rw [← hw9] at HSt HBl HRw ⊢
     clear hw9
     rw [← hr] at HCu
     have HR := Lib.hid hr; clear hr
     go_wp2
     have hwB := HBl.out
     have HT9 := Lib.hid (HT2.out.below hwB (by rw [HC.out.2.2]; exact Nat.le_refl _)); have HV9 := Lib.hid (HV2.out.below hwB (by rw [HC.out.2.2]; exact Nat.le_refl _))
     have x0 := (hwB.block b0 (by have := HC.out.1; omega)).trans HX2.out
     have q0 := cell_of_row w9 b0 0 _ _ (0, 0) x0
     have q1 := cell_of_row w9 b0 1 _ _ (0, 0) x0
     simp at q0 q1
     clear x0 hwB
     go_loopw [6] (fun iv W => ∃ i' : Nat, iv = .int .i64 (i' : Nat) ∧ CurL (runL F N) i' r ∧ W = w9) (fun iv _ => n - (intOf iv).toNat)
     case atStart => exact ⟨i, rfl, HCu.out, rfl⟩
     case round =>
      obtain ⟨i', rfl, hcur, rfl⟩ := hrel
      have HCu := Lib.hid hcur; clear hcur
      have hin : i' < (runL F N).length := runL_more (by rw [HN.out]; omega) HCu.out
      have hin2 : i' < n := by rw [HNn.out]; exact hin
      have hini : (i' : Int) < (n : Int) := by omega
      obtain ⟨bT, oT, haT⟩ := HT9.out.some (by rw [List.length_map]; omega)
      obtain ⟨bV, oV, haV⟩ := HV9.out.some (by rw [List.length_map]; omega)
      subst haT haV
      have c1 := HT9.out.get i' (by rw [List.length_map]; exact hin)
      have c2 := HV9.out.get i' (by rw [List.length_map]; exact hin)
      simp only [List.getElem_map] at c1 c2
      have HNx := Lib.hid (fun h => HCu.out.next hin h)
      have HAt := Lib.hid (fun h => runL_at (N := N) (by rw [HN.out]; omega) HCu.out hin h)
      have HWh := Lib.hid (fun h => blk_whole (k := 64 * t + k) (by rw [HN.out]; omega) (by rw [← HR.out]; exact HCu.out) hin h)
      rw [← HR.out] at HWh
      generalize (runL F N)[i'] = x at *
      clear hin
      by_cases hx : x.1 < (r : Int)
      ·go_wp2
       go_roundw
       case rel => exact ⟨i' + 1, by go_num, HNx.out hx, by first | rfl | trivial⟩
       case measure => simp [intOf]; omega
      ·have hF := HAt.out (by omega)
       have HF := Lib.hid hF; clear hF
       go_upto_region 16 with (fail)
       go_cut [65] from 45 to 65 (fun p wx => p = .bool (decide ((r : Int) + 63 ≤ x.1 ∧ last = x.2 ∧ 0 ≤ nn)) ∧ wx = wr)
       case first =>
        by_cases h1 : (r : Int) + 63 ≤ x.1
        ·by_cases h2 : last = x.2
         ·have e2 : (last == x.2) = true := beq_iff_eq.2 h2
          have H2 := Lib.hid h2; clear h2
          by_cases h3 : 0 ≤ nn
          ·have H3 := Lib.hid (decide_eq_true (p := (r : Int) + 63 ≤ x.1 ∧ last = x.2 ∧ 0 ≤ nn) ⟨h1, H2.out, h3⟩)
           go_wp2
           go_meet
           exact ⟨congrArg Value.bool H3.out.symm, by first | rfl | trivial⟩
          ·have H3 := Lib.hid (decide_eq_false (p := (r : Int) + 63 ≤ x.1 ∧ last = x.2 ∧ 0 ≤ nn) (fun h => h3 h.2.2))
           go_wp2
           go_meet
           exact ⟨congrArg Value.bool H3.out.symm, by first | rfl | trivial⟩
         ·have e2 : (last == x.2) = false := beq_eq_false_iff_ne.2 h2
          have H3 := Lib.hid (decide_eq_false (p := (r : Int) + 63 ≤ x.1 ∧ last = x.2 ∧ 0 ≤ nn) (fun h => h2 h.2.1))
          clear h2
          go_wp2
          go_meet
          exact ⟨congrArg Value.bool H3.out.symm, by first | rfl | trivial⟩
        ·have H3 := Lib.hid (decide_eq_false (p := (r : Int) + 63 ≤ x.1 ∧ last = x.2 ∧ 0 ≤ nn) (fun h => h1 h.1))
         go_wp2
         go_meet
         exact ⟨congrArg Value.bool H3.out.symm, by first | rfl | trivial⟩
       case rest =>
        obtain ⟨rfl, rfl⟩ := hcut
        have hbmz : bm < wc.heap.size := (Array.getElem?_eq_some_iff.1 HRw.out).1
        by_cases hp : (r : Int) + 63 ≤ x.1 ∧ last = x.2 ∧ 0 ≤ nn
        ·rw [decide_eq_true hp]
         obtain ⟨q, hq, hlq⟩ : ∃ q : Nat, nn = (q : Int) ∧ (mkF F (64 * t + k)).lows[q]? = some (List.replicate 64 last) := by
          rcases HLa.out with h | h
          ·omega
          ·exact h
         subst hq
         obtain ⟨hno, hlo⟩ := last_met (by omega) hlq (by rw [hp.2.1]; exact HWh.out hp.1)
         have HNo := Lib.hid (And.intro hno hlo); clear hno hlo hlq hp
         have y0 : wc.cell? ⟨bm, k, none⟩ = some (.int .i64 ((natsI mr)[k]'(by rw [natsI_length]; omega))) := by
          rw [cell_of_row wc bm k _ _ (0, 0) HRw.out, List.getElem?_toArray]
          have : k < (natsI mr).length := by rw [natsI_length]; omega
          simp [ivs, this]
         have f0 := frozen_of_row wc bm k _ _ HRw.out
         have y1 := heap_setCell_same wc bm k _ _ (.int .i64 (q : Int)) HRw.out
         have HG := Lib.hid (grown_store wc bm k (.int .i64 (q : Int)))
         have HBs := Lib.hid (HBl.out.setCell (p := ⟨bm, k, none⟩) (by have := HBm.out.2; show c ≤ bm; omega) (.int .i64 (q : Int)))
         have HY := Lib.hid y1; clear y1
         go_wp2
         go_roundw
         case rel =>
          refine ⟨k + 1, i', (q : Int), last, mr.set k q, aT1, cT1, aM1, cM1, aL1, cL1, by omega, rfl, rfl, rfl, by go_num, HCu.out.mono (by have := HR.out; omega), HLa.out.next, ?_, HBs.out, ?_, by simpa using hml, fun j hj => ?_, HNe.out⟩
          ·rw [show (mkF F (64 * t + (k + 1))).lows = (mkF F (64 * t + k)).lows from HNo.out.2]
           exact HSt.out.off (T := fun b => b = bm) (.of_grown HG.out (fun k e => by cases e; rfl)) (fun b e => by subst e; exact ⟨HBm.out.2, HNe.out⟩)
          ·rw [HY.out]
           simp [ivs, natsI, List.map_set]
          ·by_cases e : j = k
           ·subst e
            rw [List.getElem?_set_self (by omega), HNo.out.1]
           ·rw [List.getElem?_set_ne (by omega)]
            exact HMr.out j (by omega)
         case measure => simp [intOf]; omega
        ·rw [decide_eq_false hp]
         clear hp
         go_upto_region 21 with (fail)
         change Code.wp _ _ _ _ (wc.alloc (.cells (ivs .i64 (List.replicate 64 0)).toArray 186))
         obtain ⟨wh, hwh⟩ : ∃ wh : Bool, wh = decide ((r : Int) + 63 ≤ x.1) := ⟨_, rfl⟩
         rw [← hwh]
         have HWd := Lib.hid hwh; clear hwh
         obtain ⟨bb, hbb⟩ : ∃ bb, bb = wc.heap.size := ⟨_, rfl⟩
         have A1 := heap_alloc_new wc (.cells (ivs .i64 (List.replicate 64 0)).toArray 186)
         have A2 := (Below.refl _ wc).alloc (Nat.le_refl _) (.cells (ivs .i64 (List.replicate 64 0)).toArray 186)
         rw [← hbb] at A1 A2 hbmz ⊢
         generalize wc.alloc (.cells (ivs .i64 (List.replicate 64 0)).toArray 186) = w10 at *
         have HI : Hid (StgB F N r bb wc (.int .i64 (i' : Nat)) (.int .i64 0) w10) := Lib.hid ⟨0, i', List.replicate 64 0, Nat.zero_le _, rfl, rfl, HCu.out, List.length_replicate, fun q hq => by omega, A1, A2⟩
         have HBb := Lib.hid hbb
         clear A1 A2 hbb c1 c2 hx
         go_wp2
         go_loopw [6, 15] (StgB F N r bb wc) (fun _ jv _ => 64 - (intOf jv).toNat)
         case atStart => exact HI.out
         case round =>
          clear HI
          obtain ⟨j, i2, bs, hj, rfl, rfl, hcur2, hbl, hbs, hcell, hbel2⟩ := hrel
          have HCu2 := Lib.hid hcur2; have HBs := Lib.hid hbs; have HCe := Lib.hid hcell; have HBe := Lib.hid hbel2
          clear hcur2 hbs hcell hbel2
          obtain ⟨w11, hw11⟩ : ∃ w11, w11 = wr := ⟨_, rfl⟩
          rw [← hw11] at HCe HBe ⊢
          clear hw11
          have hcb : c ≤ bb := by have := HBm.out.2; omega
          have HB11 : Hid (Below c w2 w11) := Lib.hid (HBl.out.trans (HBe.out.mono hcb))
          have x0 := (HB11.out.block b0 (by have := HC.out.1; omega)).trans HX2.out
          have q0 := cell_of_row w11 b0 0 _ _ (0, 0) x0
          have q1 := cell_of_row w11 b0 1 _ _ (0, 0) x0
          simp at q0 q1
          clear x0
          have HT11 := Lib.hid (HT2.out.below HB11.out (by rw [HC.out.2.2]; exact Nat.le_refl _)); have HV11 := Lib.hid (HV2.out.below HB11.out (by rw [HC.out.2.2]; exact Nat.le_refl _))
          by_cases hjn : j < 64
          ·have hji : (j : Int) < 64 := by omega
           obtain ⟨r2, hr2⟩ : ∃ r2 : Nat, r2 = r + j := ⟨_, rfl⟩
           have hre2 : (r : Int) + (j : Int) = (r2 : Int) := by omega
           have hrl2 : r2 < 1114112 := by omega
           rw [← hr2] at HCu2
           have HR2' := Lib.hid hr2; clear hr2
           go_wp2
           go_loopw [6] (fun iv W => ∃ i3 : Nat, iv = .int .i64 (i3 : Nat) ∧ CurL (runL F N) i3 r2 ∧ W = w11) (fun iv _ => n - (intOf iv).toNat)
           case atStart => exact ⟨i2, rfl, HCu2.out, rfl⟩
           case round =>
            obtain ⟨i3, rfl, hcur, rfl⟩ := hrel
            have HCu3 := Lib.hid hcur; clear hcur
            have hin : i3 < (runL F N).length := runL_more (by rw [HN.out]; omega) HCu3.out
            have hin2 : i3 < n := by rw [HNn.out]; exact hin
            have hini2 : (i3 : Int) < (n : Int) := by omega
            have c1 := HT11.out.get i3 (by rw [List.length_map]; exact hin)
            have c2 := HV11.out.get i3 (by rw [List.length_map]; exact hin)
            simp only [List.getElem_map] at c1 c2
            have HNx2 := Lib.hid (fun h => HCu3.out.next hin h)
            have HAt2 := Lib.hid (fun h => runL_at (N := N) (by rw [HN.out]; omega) HCu3.out hin h)
            generalize (runL F N)[i3] = y at *
            clear hin
            by_cases hy : y.1 < (r2 : Int)
            ·go_wp2
             go_roundw
             case rel => exact ⟨i3 + 1, by go_num, HNx2.out hy, by first | rfl | trivial⟩
             case measure => simp [intOf]; omega
            ·have hF2 := HAt2.out (by omega)
             rw [hF2] at c2
             clear hF2
             have y0 : wr.cell? ⟨bb, j, none⟩ = some (.int .i64 (bs[j]'(by omega))) := by
              rw [cell_of_row wr bb j _ _ (0, 0) HCe.out, List.getElem?_toArray]
              have : j < bs.length := by omega
              simp [ivs, this]
             have f0 := frozen_of_row wr bb j _ _ HCe.out
             have HY := Lib.hid (heap_setCell_same wr bb j _ _ (.int .i64 (F r2)) HCe.out)
             have HBs2 := Lib.hid (HBe.out.setCell (p := ⟨bb, j, none⟩) (Nat.le_refl _) (.int .i64 (F r2)))
             go_wp2
             go_roundw
             case rel =>
              refine ⟨j + 1, i3, bs.set j (F r2), by omega, rfl, by go_num, HCu3.out.mono (by have := HR2'.out; omega), by simpa using hbl, fun p hp => ?_, ?_, HBs2.out⟩
              ·by_cases e : p = j
               ·subst e
                rw [List.getElem?_set_self (by omega), HR2'.out]
               ·rw [List.getElem?_set_ne (by omega)]
                exact HBs.out p (by omega)
              ·rw [HY.out]
               simp [ivs, List.map_set]
             case measure => simp [intOf]; omega
          ·obtain rfl : j = 64 := by omega
           have hji : ¬ ((64 : Nat) : Int) < 64 := by omega
           have hbf : bs = blkF F (64 * t + k) := by
            apply List.ext_getElem?
            intro p
            by_cases h : p < 64
            ·rw [HBs.out p h, HR.out]
             simp [blkF, h]
            ·rw [List.getElem?_eq_none (by omega), List.getElem?_eq_none (by rw [blkF_length]; omega)]
           subst hbf
           have HSt11 := Lib.hid (HSt.out.below (by rw [← HBb.out]; exact HBe.out))
           have HRw11 := Lib.hid ((HBe.out.block bm hbmz).trans HRw.out)
           have HBk : Hid (w11.rangeAt bb 0 (blkC vI (blkF F (64 * t + k)))) := Lib.hid (by
            have := World.rangeAt_of_block HCe.out 0 (ivs .i64 (blkF F (64 * t + k))).length
            rw [blkC_vI]
            simpa using this)
           have hbsl : (blkC vI (blkF F (64 * t + k))).length = 64 := by rw [blkC_vI, ivs_length, blkF_length]
           obtain ⟨hw, -, hll, hml2⟩ := mkF_ok F (64 * t + k)
           have HLw := Lib.hid hw.low
           clear hbl HBs hw hml2
           go_upto_region 27 with (fail)
           refine wp_region_list ?_
           refine wpList_val (v := .map (some (c + 1))) (w' := w11) rfl (by rfl) ?_
           refine wpList_load_mid rfl 186 (.tmp 14) rfl bb 0 rfl (blkC vI (blkF F (64 * t + k))) (.array 64 3) HBk.out Tryz.underlying186 rfl (by rw [hbsl]; kernel_rfl) ?_
           go_wp2_with fail
           refine (number_walk Tryz.kBI w11 (c + 1) (mkF F (64 * t + k)).lows (blkF F (64 * t + k)) (blkF_length _ _) HLw.out (by omega) HSt11.out.lo).mono ?_
           rintro e w13 ⟨rfl, hg, hm⟩
           obtain ⟨xn, hxn⟩ : ∃ xn : Nat, xn = (numB (fun a b => decide (a = b)) (mkF F (64 * t + k)).lows (blkF F (64 * t + k))).2 := ⟨_, rfl⟩
           obtain ⟨met, hmet⟩ : ∃ met : Bool, met = (findB (fun a b => decide (a = b)) (blkF F (64 * t + k)) (mkF F (64 * t + k)).lows).isSome := ⟨_, rfl⟩
           rw [← hxn, ← hmet]
           have HXn := Lib.hid (And.intro hxn hmet)
           have hcm := HBm.out.2
           have hs11 : bb < w11.heap.size := (Array.getElem?_eq_some_iff.1 HCe.out).1
           have HSt13 : Hid (StgAt c (mkF F (64 * t + k + 1)).lows (mkF F (64 * t)).mids ((mkF F (64 * t)).top.take t) (mkF F (64 * t)).mids (mkF F (64 * t + k)).lows aT1 cT1 aM1 cM1 aL1 cL1 w13) := Lib.hid (by
            rw [mkF_lows]
            exact HSt11.out.map_lo hg hm)
           have HRw13 : Hid (w13.heap[bm]? = some (.cells (ivs .i64 (natsI mr)).toArray 186 (0, 0))) := Lib.hid ((hg.block bm (by omega) (fun e => by simp at e; omega)).trans HRw11.out)
           have HBk13 : Hid (w13.rangeAt bb 0 (blkC vI (blkF F (64 * t + k)))) := Lib.hid (range_grown hg HBk.out (fun q e => by cases e; omega))
           have HB13 : Hid (Below c w2 w13) := Lib.hid (HB11.out.trans ((Below.refl c w11).grown hg (by omega) (fun q e => by cases e; omega)))
           have HBb13 := Lib.hid (show bb < w13.heap.size from Nat.lt_of_lt_of_le hs11 hg.size)
           clear hxn hmet hg hm HSt11 HRw11 HBk HB11 HCe HBe HT11 HV11 q0 q1 hs11 HSt HBl HRw
           go_upto_if 111 with (fail)
           go_cut [7] from 111 to 112 (fun nv wx => nv = .int .i64 (if wh = true then (xn : Int) else -1) ∧ wx = w13)
           case first =>
            cases wh
            ·go_wp2
             go_meet
             exact ⟨rfl, by first | rfl | trivial⟩
            ·go_wp2
             go_meet
             exact ⟨rfl, by first | rfl | trivial⟩
           case rest =>
            obtain ⟨rfl, rfl⟩ := hcut
            obtain ⟨n2, hn2⟩ : ∃ n2 : Int, n2 = if wh = true then (xn : Int) else -1 := ⟨_, rfl⟩
            rw [← hn2]
            have HLa2 : Hid (LastI F (64 * t + k + 1) n2 x.2) := Lib.hid (by
             rw [hn2]
             cases hw : wh with
             | false => exact .inl rfl
             | true =>
              have h1 : (r : Int) + 63 ≤ x.1 := of_decide_eq_true (by rw [← HWd.out]; exact hw)
              refine .inr ⟨xn, rfl, ?_⟩
              have h2 := noF_at F (64 * t + k) (by omega)
              rw [← HWh.out h1, ← h2, HXn.out.1]
              rfl)
            clear hn2
            go_upto_if 114 with (fail)
            go_cut [] from 115 to 119 (fun wx => ∃ aL' cL', StgAt c (mkF F (64 * t + k + 1)).lows (mkF F (64 * t)).mids ((mkF F (64 * t)).top.take t) (mkF F (64 * t)).mids (mkF F (64 * t + k + 1)).lows aT1 cT1 aM1 cM1 aL' cL' wx ∧ wx.heap[bm]? = some (.cells (ivs .i64 (natsI mr)).toArray 186 (0, 0)) ∧ ob aL' ≠ some bm ∧ Below c w2 wx)
            case first =>
             cases met
             ·have hlow : (mkF F (64 * t + k + 1)).lows = (mkF F (64 * t + k)).lows ++ [blkF F (64 * t + k)] := by
               rw [mkF_lows]
               unfold numB
               have := HXn.out.2
               rw [show findB eq8 (blkF F (64 * t + k)) (mkF F (64 * t + k)).lows = findB (fun a b => decide (a = b)) (blkF F (64 * t + k)) (mkF F (64 * t + k)).lows from rfl]
               cases hf : findB (fun a b => decide (a = b)) (blkF F (64 * t + k)) (mkF F (64 * t + k)).lows with
               | none => rfl
               | some q => rw [hf] at this; cases this
              have HLow := Lib.hid hlow; clear hlow
              have elI : Elem Tryz.prog 33 3 (.int .i64 0) 8 := ⟨Tryz.underlying33, by kernel_rfl, by kernel_rfl⟩
              have d1 : wc.drew.cell? ⟨c, 2, none⟩ = some (.slice aL1 (64 * (mkF F (64 * t + k)).lows.length) cL1) := cell_of_row wc c 2 _ _ (0, 0) HSt13.out.s
              have e1 : wc.drew.frozen? ⟨c, 2, none⟩ = false := frozen_of_row wc c 2 _ _ HSt13.out.s
              have hbd := HSt13.out.bL
              have HKB := Lib.hid (fun (w' : World) (hg : wc.drew.grownBy w' (Value.slice aL1 (64 * (mkF F (64 * t + k)).lows.length) cL1).ownBlock) => show w'.cell? ⟨c, 2, none⟩ = some (.slice aL1 (64 * (mkF F (64 * t + k)).lows.length) cL1) ∧ w'.frozen? ⟨c, 2, none⟩ = false from ⟨cell_grown hg d1 (fun q e => by rw [ob_eq] at e; have := hbd q e; omega), frozen_of_row w' c 2 _ _ ((other_grown hg (Array.getElem?_eq_some_iff.1 HSt13.out.s).1 (fun q e => by rw [ob_eq] at e; have := hbd q e; omega)).trans HSt13.out.s)⟩)
              go_upto_region 32 with (fail)
              refine (wpIn_wide (n := 2)).1 ?_
              refine wpIn_region_calm [4, 5] (fun w' : World => w'.cell? ⟨c, 2, none⟩ = some (.slice aL1 (64 * (mkF F (64 * t + k)).lows.length) cL1) ∧ w'.frozen? ⟨c, 2, none⟩ = false) (by kernel_rfl) ?_
              have HCx : Hid ((fun w' : World => w'.cell? ⟨c, 2, none⟩ = some (.slice aL1 (64 * (mkF F (64 * t + k)).lows.length) cL1) ∧ w'.frozen? ⟨c, 2, none⟩ = false) wc.drew) := Lib.hid ⟨d1, e1⟩
              have HO9 : Hid (Own (c + 3) 3 wc.drew aL1 (64 * (mkF F (64 * t + k)).lows.length) cL1 (ivs .i64 (mkF F (64 * t + k)).lows.flatten)) := Lib.hid (World.ownsRow.drew HSt13.out.rl)
              have HV9 : Hid (Vals wc.drew (some ⟨bb, 0, none⟩) (ivs .i64 (blkF F (64 * t + k)))) := Lib.hid (fun j hj => ⟨bb, 0, rfl, HBk13.out j _ (by rw [blkC_vI]; exact List.getElem?_eq_getElem hj)⟩)
              have H14 := Lib.hid (HSt13.out.below (Below.refl _ wc).drew)
              have HR14 : Hid (wc.drew.heap[bm]? = some (.cells (ivs .i64 (natsI mr)).toArray 186 (0, 0))) := Lib.hid HRw13.out
              have HB14 : Hid (Below c w2 wc.drew) := Lib.hid HB13.out.drew
              have hsz14 : c + 3 ≤ wc.drew.heap.size := HSt13.out.sz
              have hbm14 : bm < wc.drew.heap.size := (Array.getElem?_eq_some_iff.1 HRw13.out).1
              clear d1 e1
              generalize wc.drew = w9' at *
              refine' anyC_take (i := 0) (v := _) [1, 3, 4, 5] (by kernel_rfl) rfl (by kernel_rfl) (fun _ _ _ h => h) (by rfl) ?hv32x0 HCx.out ?h32x0
              case hv32x0 =>
               rintro w' ⟨c0, c1⟩
               go_simp
               try with_reducible rfl
              simp only [List.getElem_toArray, List.getElem_cons_zero, List.getElem_cons_succ, Act.put, List.setIfInBounds_toArray, List.set_cons_zero, List.set_cons_succ]
              refine' anyC_take (i := 1) (v := _) [3, 4, 5] (by kernel_rfl) rfl (by kernel_rfl) (fun _ _ _ h => h) (by rfl) ?hv32x1 HCx.out ?h32x1
              case hv32x1 =>
               rintro w' ⟨c0, c1⟩
               go_simp
               try with_reducible rfl
              simp only [List.getElem_toArray, List.getElem_cons_zero, List.getElem_cons_succ, Act.put, List.setIfInBounds_toArray, List.set_cons_zero, List.set_cons_succ]
              refine' anyC_take (i := 2) (v := _) [3, 4, 5] (by kernel_rfl) rfl (by kernel_rfl) (fun _ _ _ h => h) (by rfl) ?hv32x2 HCx.out ?h32x2
              case hv32x2 =>
               rintro w' ⟨c0, c1⟩
               go_simp
               try with_reducible rfl
              simp only [List.getElem_toArray, List.getElem_cons_zero, List.getElem_cons_succ, Act.put, List.setIfInBounds_toArray, List.set_cons_zero, List.set_cons_succ]
              have hnl8 : 64 * (mkF F (64 * t + k)).lows.length ≤ 1114112 := by omega
              refine anyC_appS (i := 3) elI (by kernel_rfl) rfl (by kernel_rfl) (by rfl) (.tmp 116) (.tmp 117) rfl HO9.out hsz14 (m := 64) (by rw [ivs_length, blkF_length]) HV9.out (ivs_one _ _) (by omega) (by unfold maxLen; omega) rfl rfl (fun w' hg => HKB.out w' hg) ?_
              intro a2 c2 w10 ho10 hg10 hn10
              simp only [List.getElem_toArray, List.getElem_cons_zero, List.getElem_cons_succ, Act.put, List.setIfInBounds_toArray, List.set_cons_zero, List.set_cons_succ]
              refine anyC_tail 4 (by rfl) (by kernel_rfl) (by kernel_rfl) ?_
              simp only [List.drop_succ_cons, List.drop_zero]
              obtain ⟨d2, e2⟩ := HKB.out w10 hg10
              have HP := Lib.hid (H14.out.pushL (blkF F (64 * t + k)) (blkF_length _ _) ho10 hg10 hn10)
              have HR10 : Hid ((w10.setCell ⟨c, 2, none⟩ (.slice a2 (64 * (mkF F (64 * t + k)).lows.length + 64) c2)).heap[bm]? = some (.cells (ivs .i64 (natsI mr)).toArray 186 (0, 0))) := Lib.hid (by
               rw [heap_setCell_other w10 ⟨c, 2, none⟩ bm _ (by simp; omega)]
               exact (other_grown hg10 hbm14 (fun q e => by rw [ob_eq] at e; intro h; subst h; exact HNe.out.2.2 e)).trans HR14.out)
              have HN10 : Hid (ob a2 ≠ some bm) := Lib.hid (by
               rcases new_ob hn10 with h | ⟨g, h, hg⟩
               ·rw [h]; exact HNe.out.2.2
               ·rw [h]; intro e; cases e; omega)
              have HB10 : Hid (Below c w2 (w10.setCell ⟨c, 2, none⟩ (.slice a2 (64 * (mkF F (64 * t + k)).lows.length + 64) c2))) := Lib.hid
               ((HB14.out.trans ((Below.refl c _).grown hg10 (by omega) (fun q e => by rw [ob_eq] at e; have := hbd q e; omega))).setCell (p := ⟨c, 2, none⟩) (Nat.le_refl _) _)
              clear ho10 hg10 hn10
              gi_wp2
              go_meet
              case rel => exact ⟨a2, c2, by have := HP.out; rw [← HLow.out] at this; exact this, HR10.out, HN10.out, HB10.out⟩
             ·have hlow : (mkF F (64 * t + k + 1)).lows = (mkF F (64 * t + k)).lows := by
               rw [mkF_lows]
               unfold numB
               have := HXn.out.2
               rw [show findB eq8 (blkF F (64 * t + k)) (mkF F (64 * t + k)).lows = findB (fun a b => decide (a = b)) (blkF F (64 * t + k)) (mkF F (64 * t + k)).lows from rfl]
               cases hf : findB (fun a b => decide (a = b)) (blkF F (64 * t + k)) (mkF F (64 * t + k)).lows with
               | none => rw [hf] at this; cases this
               | some q => rfl
              have HLow := Lib.hid hlow; clear hlow
              go_wp2
              go_meet
              case rel => exact ⟨aL1, cL1, by have := HSt13.out; rw [HLow.out] at this ⊢; exact this, HRw13.out, HNe.out.2.2, HB13.out⟩
            case rest =>
             obtain ⟨aL2, cL2, hst, hrow, hne, hbel⟩ := hcut
             have HSt := Lib.hid hst; have HRw := Lib.hid hrow; have HNl := Lib.hid hne; have HBl := Lib.hid hbel
             clear hst hrow hne hbel HSt13 HRw13 HB13 HBk13
             have y0 : wc.cell? ⟨bm, k, none⟩ = some (.int .i64 ((natsI mr)[k]'(by rw [natsI_length]; omega))) := by
              rw [cell_of_row wc bm k _ _ (0, 0) HRw.out, List.getElem?_toArray]
              have : k < (natsI mr).length := by rw [natsI_length]; omega
              simp [ivs, this]
             have f0 := frozen_of_row wc bm k _ _ HRw.out
             have y1 := heap_setCell_same wc bm k _ _ (.int .i64 (xn : Int)) HRw.out
             have HG := Lib.hid (grown_store wc bm k (.int .i64 (xn : Int)))
             have HBs := Lib.hid (HBl.out.setCell (p := ⟨bm, k, none⟩) (by have := HBm.out.2; show c ≤ bm; omega) (.int .i64 (xn : Int)))
             have HY := Lib.hid y1; clear y1
             go_wp2
             go_roundw
             case rel =>
              refine ⟨k + 1, i2, n2, x.2, mr.set k xn, aT1, cT1, aM1, cM1, aL2, cL2, by omega, rfl, rfl, rfl, by go_num, HCu2.out.mono (by have := HR.out; omega), HLa2.out, ?_, HBs.out, ?_, by simpa using hml, fun j hj => ?_, HNe.out.1, HNe.out.2.1, HNl.out⟩
              ·exact HSt.out.off (T := fun b => b = bm) (.of_grown HG.out (fun k e => by cases e; rfl)) (fun b e => by subst e; exact ⟨HBm.out.2, HNe.out.1, HNe.out.2.1, HNl.out⟩)
              ·rw [HY.out]
               simp [ivs, natsI, List.map_set]
              ·by_cases e : j = k
               ·subst e
                rw [List.getElem?_set_self (by omega), HXn.out.1]
                rfl
               ·rw [List.getElem?_set_ne (by omega)]
                exact HMr.out j (by omega)
             case measure => simp [intOf]; omega
    ·obtain rfl : k = 64 := by omega
     have hki : ¬ ((64 : Nat) : Int) < 64 := by omega
     have hmf : mr = rowW F t := by
      apply List.ext_getElem?
      intro p
      by_cases h : p < 64
      ·rw [HMr.out p h]
       simp [rowW, h]
      ·rw [List.getElem?_eq_none (by omega), List.getElem?_eq_none (by rw [rowW_length]; omega)]
     subst hmf
     rw [show 64 * t + 64 = 64 * (t + 1) by omega] at HCu HLa HSt
     obtain ⟨S1, hS1⟩ : ∃ S1, S1 = mkF F (64 * (t + 1)) := ⟨_, rfl⟩
     obtain ⟨S, hS⟩ : ∃ S, S = mkF F (64 * t) := ⟨_, rfl⟩
     rw [← hS1, ← hS] at HSt
     have HRow : Hid (S1.mids = (numB eq16 S.mids (rowW F t)).1 ∧ S1.top = S.top.set t (numB eq16 S.mids (rowW F t)).2) := Lib.hid (by rw [hS1, hS]; exact mkF_row F t)
     have HTp : Hid (S1.top.take (t + 1) = S.top.take t ++ [(numB eq16 S.mids (rowW F t)).2]) := Lib.hid (by rw [hS1, hS]; exact mkF_tops F t htn)
     have HBk : Hid (wr.rangeAt bm 0 (blkC vN (rowW F t))) := Lib.hid (by
      have := World.rangeAt_of_block HRw.out 0 (ivs .i64 (natsI (rowW F t))).length
      rw [blkC_vN]
      simpa using this)
     have hbsl : (blkC vN (rowW F t)).length = 64 := by rw [blkC_vN, ivs_length, natsI_length, rowW_length]
     obtain ⟨hw, -, hll, hml2⟩ := mkF_ok F (64 * t)
     rw [← hS] at hw hll hml2
     have HMw := Lib.hid hw.mid
     have HTw := Lib.hid hw.top
     have hml3 : S.mids.length ≤ 272 := by omega
     have HSs := Lib.hid (And.intro hS1 hS)
     clear HMr hw hll hml2 hml hS1 hS
     go_upto_region 34 with (fail)
     refine wp_region_list ?_
     refine wpList_val (v := .map (some (c + 2))) (w' := wr) rfl (by rfl) ?_
     refine wpList_load_mid rfl 186 (.tmp 10) rfl bm 0 rfl (blkC vN (rowW F t)) (.array 64 3) HBk.out Tryz.underlying186 rfl (by rw [hbsl]; kernel_rfl) ?_
     go_wp2_with fail
     refine (number_walk Tryz.kBN wr (c + 2) S.mids (rowW F t) (rowW_length _ _) HMw.out (by omega) HSt.out.mi).mono ?_
     rintro e w13 ⟨rfl, hg, hm⟩
     obtain ⟨xn, hxn⟩ : ∃ xn : Nat, xn = (numB (fun a b => decide (a = b)) S.mids (rowW F t)).2 := ⟨_, rfl⟩
     obtain ⟨met, hmet⟩ : ∃ met : Bool, met = (findB (fun a b => decide (a = b)) (rowW F t) S.mids).isSome := ⟨_, rfl⟩
     rw [← hxn, ← hmet]
     have HXn := Lib.hid (And.intro hxn hmet)
     have hcm := HBm.out.2
     have hs11 : bm < wr.heap.size := (Array.getElem?_eq_some_iff.1 HRw.out).1
     have HSt13 : Hid (StgAt c S1.lows S1.mids (S.top.take t) S.mids S1.lows aT1 cT1 aM1 cM1 aL1 cL1 w13) := Lib.hid (by
      rw [HRow.out.1]
      exact HSt.out.map_mi hg hm)
     have HRw13 : Hid (w13.heap[bm]? = some (.cells (ivs .i64 (natsI (rowW F t))).toArray 186 (0, 0))) := Lib.hid ((hg.block bm (by omega) (fun e => by simp at e; omega)).trans HRw.out)
     have HBk13 : Hid (w13.rangeAt bm 0 (blkC vN (rowW F t))) := Lib.hid (range_grown hg HBk.out (fun q e => by cases e; omega))
     have HB13 : Hid (Below c w2 w13) := Lib.hid (HBl.out.trans ((Below.refl c wr).grown hg (by omega) (fun q e => by cases e; omega)))
     obtain ⟨wc, hwc⟩ : ∃ wc, wc = w13 := ⟨_, rfl⟩
     rw [← hwc] at HSt13 HRw13 HBk13 HB13 ⊢
     clear hwc hxn hmet hg hm hs11 HSt HBl HRw HBk
     go_upto_if 130 with (fail)
     go_cut [] from 131 to 135 (fun wx => ∃ aM' cM', StgAt c S1.lows S1.mids (S.top.take t) S1.mids S1.lows aT1 cT1 aM' cM' aL1 cL1 wx ∧ Below c w2 wx)
     case first =>
      cases met
      ·have hlow : S1.mids = S.mids ++ [rowW F t] := by
        rw [HRow.out.1]
        unfold numB
        have := HXn.out.2
        rw [show findB eq16 (rowW F t) S.mids = findB (fun a b => decide (a = b)) (rowW F t) S.mids from rfl]
        cases hf : findB (fun a b => decide (a = b)) (rowW F t) S.mids with
        | none => rfl
        | some q => rw [hf] at this; cases this
       have HLow := Lib.hid hlow; clear hlow
       have elI : Elem Tryz.prog 33 3 (.int .i64 0) 8 := ⟨Tryz.underlying33, by kernel_rfl, by kernel_rfl⟩
       have d1 : wc.drew.cell? ⟨c, 1, none⟩ = some (.slice aM1 (64 * S.mids.length) cM1) := cell_of_row wc c 1 _ _ (0, 0) HSt13.out.s
       have e1 : wc.drew.frozen? ⟨c, 1, none⟩ = false := frozen_of_row wc c 1 _ _ HSt13.out.s
       have hbd := HSt13.out.bM
       have HKB := Lib.hid (fun (w' : World) (hg : wc.drew.grownBy w' (Value.slice aM1 (64 * S.mids.length) cM1).ownBlock) => show w'.cell? ⟨c, 1, none⟩ = some (.slice aM1 (64 * S.mids.length) cM1) ∧ w'.frozen? ⟨c, 1, none⟩ = false from ⟨cell_grown hg d1 (fun q e => by rw [ob_eq] at e; have := hbd q e; omega), frozen_of_row w' c 1 _ _ ((other_grown hg (Array.getElem?_eq_some_iff.1 HSt13.out.s).1 (fun q e => by rw [ob_eq] at e; have := hbd q e; omega)).trans HSt13.out.s)⟩)
       go_upto_region 36 with (fail)
       refine (wpIn_wide (n := 2)).1 ?_
       refine wpIn_region_calm [4, 5] (fun w' : World => w'.cell? ⟨c, 1, none⟩ = some (.slice aM1 (64 * S.mids.length) cM1) ∧ w'.frozen? ⟨c, 1, none⟩ = false) (by kernel_rfl) ?_
       have HCx : Hid ((fun w' : World => w'.cell? ⟨c, 1, none⟩ = some (.slice aM1 (64 * S.mids.length) cM1) ∧ w'.frozen? ⟨c, 1, none⟩ = false) wc.drew) := Lib.hid ⟨d1, e1⟩
       have HO9 : Hid (Own (c + 3) 3 wc.drew aM1 (64 * S.mids.length) cM1 (ivs .i64 (natsI S.mids.flatten))) := Lib.hid (World.ownsRow.drew HSt13.out.rm)
       have HV9 : Hid (Vals wc.drew (some ⟨bm, 0, none⟩) (ivs .i64 (natsI (rowW F t)))) := Lib.hid (fun j hj => ⟨bm, 0, rfl, HBk13.out j _ (by rw [blkC_vN]; exact List.getElem?_eq_getElem hj)⟩)
       have H14 := Lib.hid (HSt13.out.below (Below.refl _ wc).drew)
       have HR14 : Hid (wc.drew.heap[bm]? = some (.cells (ivs .i64 (natsI (rowW F t))).toArray 186 (0, 0))) := Lib.hid HRw13.out
       have HB14 : Hid (Below c w2 wc.drew) := Lib.hid HB13.out.drew
       have hsz14 : c + 3 ≤ wc.drew.heap.size := HSt13.out.sz
       have hbm14 : bm < wc.drew.heap.size := (Array.getElem?_eq_some_iff.1 HRw13.out).1
       clear d1 e1
       generalize wc.drew = w9' at *
       refine' anyC_take (i := 0) (v := _) [1, 3, 4, 5] (by kernel_rfl) rfl (by kernel_rfl) (fun _ _ _ h => h) (by rfl) ?hv36x0 HCx.out ?h36x0
       case hv36x0 =>
        rintro w' ⟨c0, c1⟩
        go_simp
        try with_reducible rfl
       simp only [List.getElem_toArray, List.getElem_cons_zero, List.getElem_cons_succ, Act.put, List.setIfInBounds_toArray, List.set_cons_zero, List.set_cons_succ]
       refine' anyC_take (i := 1) (v := _) [3, 4, 5] (by kernel_rfl) rfl (by kernel_rfl) (fun _ _ _ h => h) (by rfl) ?hv36x1 HCx.out ?h36x1
       case hv36x1 =>
        rintro w' ⟨c0, c1⟩
        go_simp
        try with_reducible rfl
       simp only [List.getElem_toArray, List.getElem_cons_zero, List.getElem_cons_succ, Act.put, List.setIfInBounds_toArray, List.set_cons_zero, List.set_cons_succ]
       refine' anyC_take (i := 2) (v := _) [3, 4, 5] (by kernel_rfl) rfl (by kernel_rfl) (fun _ _ _ h => h) (by rfl) ?hv36x2 HCx.out ?h36x2
       case hv36x2 =>
        rintro w' ⟨c0, c1⟩
        go_simp
        try with_reducible rfl
       simp only [List.getElem_toArray, List.getElem_cons_zero, List.getElem_cons_succ, Act.put, List.setIfInBounds_toArray, List.set_cons_zero, List.set_cons_succ]
       have hnl8 : 64 * S.mids.length ≤ 1114112 := by omega
       refine anyC_appS (i := 3) elI (by kernel_rfl) rfl (by kernel_rfl) (by rfl) (.tmp 132) (.tmp 133) rfl HO9.out hsz14 (m := 64) (by rw [ivs_length, natsI_length, rowW_length]) HV9.out (ivs_one _ _) (by omega) (by unfold maxLen; omega) rfl rfl (fun w' hg => HKB.out w' hg) ?_
       intro a2 c2 w10 ho10 hg10 hn10
       simp only [List.getElem_toArray, List.getElem_cons_zero, List.getElem_cons_succ, Act.put, List.setIfInBounds_toArray, List.set_cons_zero, List.set_cons_succ]
       refine anyC_tail 4 (by rfl) (by kernel_rfl) (by kernel_rfl) ?_
       simp only [List.drop_succ_cons, List.drop_zero]
       obtain ⟨d2, e2⟩ := HKB.out w10 hg10
       have HP := Lib.hid (H14.out.pushM (rowW F t) (rowW_length _ _) ho10 hg10 hn10)
       have HB10 : Hid (Below c w2 (w10.setCell ⟨c, 1, none⟩ (.slice a2 (64 * S.mids.length + 64) c2))) := Lib.hid
        ((HB14.out.trans ((Below.refl c _).grown hg10 (by omega) (fun q e => by rw [ob_eq] at e; have := hbd q e; omega))).setCell (p := ⟨c, 1, none⟩) (Nat.le_refl _) _)
       clear ho10 hg10 hn10
       gi_wp2
       go_meet
       case rel => exact ⟨a2, c2, by have := HP.out; rw [← HLow.out] at this; exact this, HB10.out⟩
      ·have hlow : S1.mids = S.mids := by
        rw [HRow.out.1]
        unfold numB
        have := HXn.out.2
        rw [show findB eq16 (rowW F t) S.mids = findB (fun a b => decide (a = b)) (rowW F t) S.mids from rfl]
        cases hf : findB (fun a b => decide (a = b)) (rowW F t) S.mids with
        | none => rw [hf] at this; cases this
        | some q => rfl
       have HLow := Lib.hid hlow; clear hlow
       go_wp2
       go_meet
       case rel => exact ⟨aM1, cM1, by have := HSt13.out; rw [HLow.out] at this ⊢; exact this, HB13.out⟩
     case rest =>
      obtain ⟨aM2, cM2, hst, hbel⟩ := hcut
      have HSt := Lib.hid hst; have HBl := Lib.hid hbel
      clear hst hbel HSt13 HRw13 HB13 HBk13
      have htl : (S.top.take t).length = t := by rw [List.length_take, HTw.out]; omega
      have elI : Elem Tryz.prog 33 3 (.int .i64 0) 8 := ⟨Tryz.underlying33, by kernel_rfl, by kernel_rfl⟩
      have d1 : wc.cell? ⟨c, 0, none⟩ = some (.slice aT1 t cT1) := by
       have := cell_of_row wc c 0 _ _ (0, 0) HSt.out.s
       rw [htl] at this
       exact this
      have e1 : wc.frozen? ⟨c, 0, none⟩ = false := frozen_of_row wc c 0 _ _ HSt.out.s
      have HO : Hid (Own (c + 3) 3 wc aT1 t cT1 (ivs .i64 (natsI (S.top.take t)))) := Lib.hid (by have := HSt.out.rt; rwa [htl] at this)
      have hsz := HSt.out.sz
      have HTl := Lib.hid htl; clear htl
      go_wp2_with (at_builtin; refine wpList_app1x elI rfl (.tmp 137) (.tmp 139) rfl HO.out hsz (by omega) (by omega) (.int .i64 (xn : Nat)) rfl _ rfl rfl ?_)
      intro a2 c2 w10 ho10 hg10 hn10
      have HP : Hid (StgAt c S1.lows S1.mids (S.top.take t ++ [xn]) S1.mids S1.lows a2 c2 aM2 cM2 aL1 cL1 (w10.setCell ⟨c, 0, none⟩ (.slice a2 (t + 1) c2))) := Lib.hid (by
       have := HSt.out.pushT xn (aT' := a2) (cT' := c2) (by rw [HTl.out]; exact ho10) (by rw [HTl.out]; exact hg10) (by rw [HTl.out]; exact hn10)
       rw [HTl.out] at this
       exact this)
      have hbd := HSt.out.bT
      have d2 : w10.cell? ⟨c, 0, none⟩ = some (.slice aT1 t cT1) := cell_grown hg10 d1 (fun q e => by rw [ob_eq] at e; have := hbd q e; omega)
      have e2 : w10.frozen? ⟨c, 0, none⟩ = false := frozen_of_row w10 c 0 _ _ ((other_grown hg10 (Array.getElem?_eq_some_iff.1 HSt.out.s).1 (fun q e => by rw [ob_eq] at e; have := hbd q e; omega)).trans HSt.out.s)
      have HB10 : Hid (Below c w2 (w10.setCell ⟨c, 0, none⟩ (.slice a2 (t + 1) c2))) := Lib.hid ((HBl.out.trans ((Below.refl c _).grown hg10 (by omega) (fun q e => by rw [ob_eq] at e; have := hbd q e; omega))).setCell (p := ⟨c, 0, none⟩) (Nat.le_refl _) _)
      clear ho10 hg10 hn10 d1 e1 hbd
      go_wp2
      go_roundw
      case rel =>
       refine ⟨t + 1, i, nn, last, a2, c2, aM2, cM2, aL1, cL1, by omega, rfl, rfl, rfl, by go_num, HCu.out, HLa.out, ?_, HB10.out⟩
       have hx : xn = (numB eq16 S.mids (rowW F t)).2 := HXn.out.1
       rw [← HSs.out.1, HTp.out, ← hx]
       exact HP.out
      case measure => simp [intOf]; omega
  ·obtain ⟨S, hS⟩ : ∃ S, S = mkF F (64 * t) := ⟨_, rfl⟩
   rw [← hS] at HSt
   have hSM : S = mkF F M := by rw [hS, HM.out]; congr 1; omega
   have hw : S.top.length = 272 := by rw [hS]; exact (mkF_ok F (64 * t)).1.top
   have ht2 : S.top.take t = S.top := List.take_of_length_le (by omega)
   rw [ht2] at HSt
   have HSM := Lib.hid hSM
   obtain rfl : t = 272 := by omega
   have hti : ¬ ((272 : Nat) : Int) < 272 := by omega
   clear hS hSM hw ht2 HLa HCu
   have x1 := (HBl.out.block (b0 + 1) (by have := HC.out.1; omega)).trans HR2.out
   have HX1 := Lib.hid x1; clear x1
   have HI1 := Lib.hid HSt.out.rt.ints; have HI2 := Lib.hid HSt.out.rm.ints; have HI3 := Lib.hid HSt.out.rl.ints
   have HBd := Lib.hid (And.intro HSt.out.bT (And.intro HSt.out.bM HSt.out.bL))
   go_upto_region 38 with (fail)
   refine wp_region_list ?_
   refine wpList_load_row rfl 133 (.tmp 3) rfl c rfl _ _ _ _ HSt.out.s Tryz.underlying133 rfl (by kernel_rfl) ?_
   refine wpList_store_row rfl 133 (.tmp 2) (.tmp 142) rfl (b0 + 1) _ rfl rfl 133 _ HX1.out (by kernel_rfl) rfl (by simp [Value.oneCell']) ?_
   clear HSt
   have y3 := setRow_heap wr (b0 + 1) _ #[.slice aT1 S.top.length cT1, .slice aM1 (64 * S.mids.length) cM1, .slice aL1 (64 * S.lows.length) cL1] _ _ HX1.out
   have ho : Off (fun k => k = b0 + 1) wr (wr.setRow (b0 + 1) #[.slice aT1 S.top.length cT1, .slice aM1 (64 * S.mids.length) cM1, .slice aL1 (64 * S.lows.length) cL1]) := ⟨rfl, rfl, rfl, by rw [setRow_size]; exact Nat.le_refl _, fun k _ hk => setRow_other wr (b0 + 1) k _ hk⟩
   generalize (wr.setRow (b0 + 1) #[.slice aT1 S.top.length cT1, .slice aM1 (64 * S.mids.length) cM1, .slice aL1 (64 * S.lows.length) cL1]) = wz at *
   have HY := Lib.hid (And.intro y3 ho); clear y3 ho
   go_step
   go_step
   go_step
   go_step
   refine bodyPost_ret (results_cell_row Tryz.results71 _ _ (b0 + 1) _ _ _ _ rfl HY.out.1 Tryz.underlying133 rfl (by kernel_rfl)) rfl ?_
   have ho := HY.out.2
   have hcb := HC.out.1
   refine ⟨_, rfl, ⟨aT1, cT1, aM1, cM1, aL1, cL1, by rw [← HSM.out], ?_, ?_, ?_⟩, ?_, ⟨aT1, _, cT1, aM1, _, cM1, aL1, _, cL1, rfl, fun x e => ?_, fun x e => ?_, fun x e => ?_⟩⟩
   ·rw [← HSM.out]; exact ints_off HI1.out ho (fun b o e h => by subst e; have := HBd.out.1 b rfl; omega)
   ·rw [← HSM.out]; exact ints_off HI2.out ho (fun b o e h => by subst e; have := HBd.out.2.1 b rfl; omega)
   ·rw [← HSM.out]; exact ints_off HI3.out ho (fun b o e h => by subst e; have := HBd.out.2.2 b rfl; omega)
   ·have hs := HC.out.2.1
    exact (HB2.out.trans (HBl.out.mono (by omega))).trans (ho.below _ (by have := HBl.out.size; have := HC.out.2.2; omega) (fun k e => by omega))
   ·subst e; have := HBd.out.1 x.block rfl; have := HC.out.2.1; omega
   ·subst e; have := HBd.out.2.1 x.block rfl; have := HC.out.2.1; omega
   ·subst e; have := HBd.out.2.2 x.block rfl; have := HC.out.2.1; omega
theorem refStages_walk (w : World) (fv : Value) (F : Nat → Int) (N M : Nat) (hN : N = 1114112) (hM : M = 17408) (hf : FnAt w fv (runL F N)) :
  Calls Tryz.prog 71 #[fv] w fun e w' => ∃ sv, e = .returned sv ∧ StagesAt w' sv (mkF F M) ∧ Below w.heap.size w w' := by
 refine (refStagesF_walk w fv F N M hN hM hf).mono ?_
 rintro e w' ⟨sv, h1, h2, h3, -⟩
 exact ⟨sv, h1, h2, h3⟩
end Go.Proofs.YtbmphakfgoompaaGreat
