/- several texts in one: UE3 -/
import Derived.Test.YtbmphakfgoompaaGreatHUE1
import Derived.Deep.CutRange
set_option linter.unusedVariables false
set_option linter.unusedSimpArgs false
/-
 The walk of the document's four values of a number.
-/
namespace Go.Proofs.YtbmphakfgoompaaGreat
open Go.RowKit

theorem ok_walk (r : Int) (w : World) : Calls Tryz.prog 55 #[.int .i32 r] w fun e w' => e = .returned (.bool (pointB r)) ∧ w' = w := by
 by_cases h1 : 0 ≤ r
 ·by_cases h2 : r ≤ 1114111
  ·have e : pointB r = true := decide_eq_true ⟨h1, h2⟩
   rw [e]
   go_enter Tryz.func55, Tryz.ntmps55
   go_wp2
   go_ret
   exact ⟨rfl, rfl⟩
  ·have e : pointB r = false := decide_eq_false (by omega)
   rw [e]
   go_enter Tryz.func55, Tryz.ntmps55
   go_wp2
   go_ret
   exact ⟨rfl, rfl⟩
 ·have e : pointB r = false := decide_eq_false (by omega)
  rw [e]
  go_enter Tryz.func55, Tryz.ntmps55
  go_wp2
  go_ret
  exact ⟨rfl, rfl⟩
/-- four values on their way -/
structure FoR (w : World) (b4 b5 : Nat) (x0 x1 x2 x3 : Int) (wx : World) : Prop where
 res : wx.heap[b4]? = some (.cells #[.int .i64 0, .int .i64 0, .int .i64 0, .int .i64 0] 85 (0, 0))
 val : wx.heap[b5]? = some (.cells #[.int .i64 x0, .int .i64 x1, .int .i64 x2, .int .i64 x3] 85 (0, 0))
 low : w.heap.size ≤ b4 ∧ b4 < b5
 bel : Below w.heap.size w wx
theorem FoR.next {w : World} {b4 b5 : Nat} {x0 x1 x2 x3 : Int} {wx wy : World} (h : FoR w b4 b5 x0 x1 x2 x3 wx) (hb : Below wx.heap.size wx wy) : FoR w b4 b5 x0 x1 x2 x3 wy :=
 ⟨(hb.block b4 (Array.getElem?_eq_some_iff.1 h.res).1).trans h.res, (hb.block b5 (Array.getElem?_eq_some_iff.1 h.val).1).trans h.val, h.low, h.bel.trans (hb.mono h.bel.size)⟩
theorem FoR.put0 {w : World} {b4 b5 : Nat} {x0 x1 x2 x3 : Int} {wx : World} (h : FoR w b4 b5 x0 x1 x2 x3 wx) (v : Int) : FoR w b4 b5 v x1 x2 x3 (wx.setCell ⟨b5, 0, none⟩ (.int .i64 v)) :=
 ⟨(heap_setCell_other wx ⟨b5, 0, none⟩ b4 _ (by have := h.low.2; simp; omega)).trans h.res, heap_setCell_same wx b5 0 _ _ (.int .i64 v) h.val, h.low, h.bel.setCell (p := ⟨b5, 0, none⟩) (by show _ ≤ b5; have := h.low; omega) _⟩
theorem FoR.put1 {w : World} {b4 b5 : Nat} {x0 x1 x2 x3 : Int} {wx : World} (h : FoR w b4 b5 x0 x1 x2 x3 wx) (v : Int) : FoR w b4 b5 x0 v x2 x3 (wx.setCell ⟨b5, 1, none⟩ (.int .i64 v)) :=
 ⟨(heap_setCell_other wx ⟨b5, 1, none⟩ b4 _ (by have := h.low.2; simp; omega)).trans h.res, heap_setCell_same wx b5 1 _ _ (.int .i64 v) h.val, h.low, h.bel.setCell (p := ⟨b5, 1, none⟩) (by show _ ≤ b5; have := h.low; omega) _⟩
theorem FoR.put2 {w : World} {b4 b5 : Nat} {x0 x1 x2 x3 : Int} {wx : World} (h : FoR w b4 b5 x0 x1 x2 x3 wx) (v : Int) : FoR w b4 b5 x0 x1 v x3 (wx.setCell ⟨b5, 2, none⟩ (.int .i64 v)) :=
 ⟨(heap_setCell_other wx ⟨b5, 2, none⟩ b4 _ (by have := h.low.2; simp; omega)).trans h.res, heap_setCell_same wx b5 2 _ _ (.int .i64 v) h.val, h.low, h.bel.setCell (p := ⟨b5, 2, none⟩) (by show _ ≤ b5; have := h.low; omega) _⟩
theorem FoR.put3 {w : World} {b4 b5 : Nat} {x0 x1 x2 x3 : Int} {wx : World} (h : FoR w b4 b5 x0 x1 x2 x3 wx) (v : Int) : FoR w b4 b5 x0 x1 x2 v (wx.setCell ⟨b5, 3, none⟩ (.int .i64 v)) :=
 ⟨(heap_setCell_other wx ⟨b5, 3, none⟩ b4 _ (by have := h.low.2; simp; omega)).trans h.res, heap_setCell_same wx b5 3 _ _ (.int .i64 v) h.val, h.low, h.bel.setCell (p := ⟨b5, 3, none⟩) (by show _ ≤ b5; have := h.low; omega) _⟩
theorem FoR.cell {w : World} {b4 b5 : Nat} {x0 x1 x2 x3 : Int} {wx : World} (h : FoR w b4 b5 x0 x1 x2 x3 wx) :
  wx.cell? ⟨b5, 0, none⟩ = some (.int .i64 x0) ∧ wx.cell? ⟨b5, 1, none⟩ = some (.int .i64 x1) ∧ wx.cell? ⟨b5, 2, none⟩ = some (.int .i64 x2) ∧ wx.cell? ⟨b5, 3, none⟩ = some (.int .i64 x3) ∧ (∀ j, wx.frozen? ⟨b5, j, none⟩ = false) :=
 ⟨cell_of_row wx b5 0 _ _ (0, 0) h.val, cell_of_row wx b5 1 _ _ (0, 0) h.val, cell_of_row wx b5 2 _ _ (0, 0) h.val, cell_of_row wx b5 3 _ _ (0, 0) h.val, fun j => frozen_of_row wx b5 j _ _ h.val⟩

set_option maxRecDepth 100000 in
set_option maxHeartbeats 4000000 in
theorem four_walk (w : World) (pm : Nat) (D : MadeD) (h : MadeAt w pm D) (r : Nat) (hr : r ≤ 1114111) (hv : MadeVal D r) :
  Calls Tryz.prog 25 #[.pointer (some ⟨pm, 0, none⟩), .int .i32 (r : Nat)] w fun e w' => e = .returned (.agg #[.int .i64 (fvs D 0 r), .int .i64 (fvs D 1 r), .int .i64 (fvs D 2 r), .int .i64 (fvs D 3 r)]) ∧ Below w.heap.size w w' := by
 have HC := Lib.hid (fun (W : World) (hb : Below w.heap.size w W) => mClass_walk W pm D (h.below hb) (r : Nat))
 have HBr := Lib.hid (fun (W : World) (hb : Below w.heap.size w W) => mBracket_walk W pm D (h.below hb) (r : Nat))
 have HT := Lib.hid (fun (W : World) (hb : Below w.heap.size w W) => mTwin_walk W pm D (h.below hb) (r : Nat))
 have HMi := Lib.hid (fun (W : World) (hb : Below w.heap.size w W) => mMirror_walk W pm D (h.below hb) (r : Nat))
 rw [runeR_nat hr] at HC HBr HT HMi
 have HF := Lib.hid (show fvs D 0 r = fvC (D.cls r) ∧ fvs D 1 r = fvB (D.oth r) (D.side r) ∧ fvs D 2 r = fvT (D.twin r) (r : Nat) ∧ fvs D 3 r = fvM (D.mir r) (D.has r) from ⟨rfl, rfl, rfl, rfl⟩)
 have hc := hv.c
 have ho := hv.o
 have hs := hv.s
 have ht := hv.t
 have hm := hv.m
 unfold wf32 at ho ht hm
 clear hv h
 generalize fvs D 0 r = f0 at *
 generalize fvs D 1 r = f1 at *
 generalize fvs D 2 r = f2 at *
 generalize fvs D 3 r = f3 at *
 generalize D.cls r = C at *
 generalize D.oth r = O at *
 generalize D.side r = S at *
 generalize D.twin r = T at *
 generalize D.mir r = M at *
 generalize D.has r = Hs at *
 obtain ⟨e0, e1, e2, e3⟩ := HF.out
 have HF0 := Lib.hid e0; have HF1 := Lib.hid e1; have HF2 := Lib.hid e2; have HF3 := Lib.hid e3
 clear e0 e1 e2 e3 HF
 have hA := heap_alloc_new w (.cells #[.int .i64 0, .int .i64 0, .int .i64 0, .int .i64 0] 85)
 have hB := (Below.refl _ w).alloc (Nat.le_refl _) (.cells #[.int .i64 0, .int .i64 0, .int .i64 0, .int .i64 0] 85)
 have hZ := World.size_alloc w (.cells #[.int .i64 0, .int .i64 0, .int .i64 0, .int .i64 0] 85)
 obtain ⟨b4, hb4⟩ : ∃ b4, b4 = w.heap.size := ⟨_, rfl⟩
 go_enter Tryz.func25, Tryz.ntmps25
 go_upto_region 1 with (fail)
 rw [← hb4] at hA hZ ⊢
 generalize w.alloc (.cells #[.int .i64 0, .int .i64 0, .int .i64 0, .int .i64 0] 85) = w0 at *
 have HA := Lib.hid hA; have HB := Lib.hid hB; have HZ := Lib.hid hZ; have Hb4 := Lib.hid hb4
 clear hA hB hZ hb4
 go_wp2_with fail
 refine (HC.out _ HB.out).mono ?_
 rintro e w1 ⟨rfl, hb⟩
 have HB1 := Lib.hid (HB.out.trans (hb.mono HB.out.size))
 have HA1 := Lib.hid ((hb.block b4 (Array.getElem?_eq_some_iff.1 HA.out).1).trans HA.out)
 clear hb HA HB HC
 obtain ⟨b5, hb5⟩ : ∃ b5, b5 = w1.heap.size := ⟨_, rfl⟩
 have HFo := Lib.hid (show FoR w b4 b5 C 0 0 0 (w1.alloc (.cells #[.int .i64 C, .int .i64 0, .int .i64 0, .int .i64 0] 85)) from
  ⟨(Below.heap_alloc w1 _ b4 (Array.getElem?_eq_some_iff.1 HA1.out).1).trans HA1.out, by rw [hb5]; exact heap_alloc_new w1 _, ⟨by rw [Hb4.out]; exact Nat.le_refl _, by rw [hb5]; exact (Array.getElem?_eq_some_iff.1 HA1.out).1⟩, HB1.out.alloc HB1.out.size _⟩)
 go_upto_region 2 with (fail)
 rw [← hb5]
 clear HB1 HA1 HZ Hb4 hb5
 generalize w1.alloc (.cells #[.int .i64 C, .int .i64 0, .int .i64 0, .int .i64 0] 85) = wx at *
 obtain ⟨k0, k1, k2, k3, kf⟩ := HFo.out.cell
 have kf0 := kf 0
 clear kf
 obtain ⟨bb, hbb⟩ : ∃ bb, bb = decide (C < 1 ∨ 23 < C) := ⟨_, rfl⟩
 have HBb := Lib.hid hbb
 clear hbb
 go_cut [23] from 16 to 23 (fun v wy => v = .bool bb ∧ wy = wx)
 case first =>
  by_cases y1 : C < 1
  ·have HD := Lib.hid (HBb.out.trans (decide_eq_true (.inl y1)))
   go_wp2
   go_meet
   case rel => exact ⟨by rw [HD.out], rfl⟩
  ·by_cases y2 : 23 < C
   ·have HD := Lib.hid (HBb.out.trans (decide_eq_true (.inr y2)))
    go_wp2
    go_meet
    case rel => exact ⟨by rw [HD.out], rfl⟩
   ·have HD := Lib.hid (HBb.out.trans (decide_eq_false (by omega)))
    go_wp2
    go_meet
    case rel => exact ⟨by rw [HD.out], rfl⟩
 case rest =>
 obtain ⟨rfl, rfl⟩ := hcut
 go_step
 go_cut [5] from 24 to 23 (fun v wy => v = .pointer (some ⟨b5, 0, none⟩) ∧ FoR w b4 b5 f0 0 0 0 wy)
 case first =>
  cases bb
  ·have HY : Hid (f0 = C) := Lib.hid (by rw [HF0.out]; exact if_neg (of_decide_eq_false HBb.out.symm))
   go_wp2
   go_meet
   case rel => exact ⟨rfl, by rw [HY.out]; exact HFo.out⟩
  ·have HY : Hid (f0 = nv) := Lib.hid (by rw [HF0.out]; exact if_pos (of_decide_eq_true HBb.out.symm))
   go_wp2
   go_meet
   case rel => exact ⟨rfl, by rw [HY.out]; exact HFo.out.put0 nv⟩
 case rest =>
 obtain ⟨rfl, hfo⟩ := hcut
 clear HFo k0 k1 k2 k3 kf0 HBb HF0 hc
 have HFo := Lib.hid hfo
 clear hfo
 go_wp2_with fail
 refine (HBr.out _ HFo.out.bel).mono ?_
 rintro e w2 ⟨rfl, hb⟩
 have HFo2 := Lib.hid (HFo.out.next hb)
 clear hb HFo HBr
 obtain ⟨k0, k1, k2, k3, kf⟩ := HFo2.out.cell
 have kf1 := kf 1
 clear kf
 obtain ⟨bb, hbb⟩ : ∃ bb, bb = decide (2 < S ∨ (S ≠ 0 ∧ pointB O = false)) := ⟨_, rfl⟩
 have HBb := Lib.hid hbb
 clear hbb
 go_upto_region 5 with (fail)
 go_cut [41] from 31 to 41 (fun v wy => v = .bool bb ∧ wy = w2)
 case first =>
  by_cases y1 : 2 < S
  ·have HD := Lib.hid (HBb.out.trans (decide_eq_true (.inl y1)))
   go_wp2
   go_meet
   case rel => exact ⟨by rw [HD.out], rfl⟩
  ·by_cases y2 : S = 0
   ·have HD := Lib.hid (HBb.out.trans (decide_eq_false (fun h => h.elim y1 (fun h => h.1 y2))))
    have y3 : (S != 0) = false := by simp [y2]
    clear y2
    go_wp2
    go_meet
    case rel => exact ⟨by rw [HD.out], rfl⟩
   ·have y3 : (S != 0) = true := by simp [y2]
    have HY1 := Lib.hid y1
    have HY2 := Lib.hid y2
    clear y2
    go_wp2_with fail
    refine (ok_walk O w2).mono ?_
    rintro e w3 ⟨rfl, rfl⟩
    have HD := Lib.hid (HBb.out.trans (show decide (2 < S ∨ (S ≠ 0 ∧ pointB O = false)) = !pointB O from by
     cases pointB O
     ·exact decide_eq_true (.inr ⟨HY2.out, rfl⟩)
     ·exact decide_eq_false (fun h => h.elim (by have := HY1.out; omega) (fun h => by cases h.2))))
    generalize pointB O = po at *
    cases po
    ·go_wp2
     go_meet
     case rel => exact ⟨by rw [HD.out]; rfl, rfl⟩
    ·go_wp2
     go_meet
     case rel => exact ⟨by rw [HD.out]; rfl, rfl⟩
 case rest =>
 obtain ⟨rfl, rfl⟩ := hcut
 go_step
 go_cut [5] from 42 to 41 (fun v wy => v = .pointer (some ⟨b5, 0, none⟩) ∧ FoR w b4 b5 f0 f1 0 0 wy)
 case first =>
  cases bb
  ·have HN : Hid (¬ (2 < S ∨ (S ≠ 0 ∧ pointB O = false))) := Lib.hid (of_decide_eq_false HBb.out.symm)
   by_cases y1 : S = 1
   ·have HY : Hid (f1 = O + 1) := Lib.hid (by rw [HF1.out]; unfold fvB; rw [if_neg HN.out, if_pos y1])
    have hd : (S == 1) = true := by simp [y1]
    go_wp2
    go_meet
    case rel => exact ⟨rfl, by rw [HY.out]; exact HFo2.out.put1 _⟩
   ·have hd : (S == 1) = false := by simp [y1]
    by_cases y2 : S = 2
    ·have HY : Hid (f1 = -O - 1) := Lib.hid (by rw [HF1.out]; unfold fvB; rw [if_neg HN.out, if_neg y1, if_pos y2])
     have hd2 : (S == 2) = true := by simp [y2]
     go_wp2
     go_meet
     case rel => exact ⟨rfl, by rw [HY.out]; exact HFo2.out.put1 _⟩
    ·have HY : Hid (f1 = 0) := Lib.hid (by rw [HF1.out]; unfold fvB; rw [if_neg HN.out, if_neg y1, if_neg y2])
     have hd2 : (S == 2) = false := by simp [y2]
     go_wp2
     go_meet
     case rel => exact ⟨rfl, by rw [HY.out]; exact HFo2.out⟩
  ·have HY : Hid (f1 = nv) := Lib.hid (by rw [HF1.out]; exact if_pos (of_decide_eq_true HBb.out.symm))
   go_wp2
   go_meet
   case rel => exact ⟨rfl, by rw [HY.out]; exact HFo2.out.put1 nv⟩
 case rest =>
 obtain ⟨rfl, hfo⟩ := hcut
 clear HFo2 k0 k1 k2 k3 kf1 HBb HF1 hs ho
 have HFo := Lib.hid hfo
 clear hfo
 go_wp2_with fail
 refine (HT.out _ HFo.out.bel).mono ?_
 rintro e w2 ⟨rfl, hb⟩
 have HFo2 := Lib.hid (HFo.out.next hb)
 clear hb HFo HT
 obtain ⟨k0, k1, k2, k3, kf⟩ := HFo2.out.cell
 have kf2 := kf 2
 clear kf
 obtain ⟨bb, hbb⟩ : ∃ bb, bb = (T != ((r : Nat) : Int)) := ⟨_, rfl⟩
 have HBb := Lib.hid hbb
 clear hbb
 go_upto_region 12 with (fail)
 go_cut [61] from 59 to 61 (fun v wy => v = .bool bb ∧ wy = w2)
 case first =>
  have HD := HBb.out.symm
  cases bb
  ·go_wp2
   go_meet
   case rel => exact ⟨rfl, rfl⟩
  ·go_wp2
   go_meet
   case rel => exact ⟨rfl, rfl⟩
 case rest =>
 obtain ⟨rfl, rfl⟩ := hcut
 go_step
 go_cut [5] from 62 to 61 (fun v wy => v = .pointer (some ⟨b5, 0, none⟩) ∧ FoR w b4 b5 f0 f1 f2 0 wy)
 case first =>
  cases bb
  ·have HY : Hid (f2 = 0) := Lib.hid (by rw [HF2.out]; exact if_pos (by simpa using HBb.out.symm))
   go_wp2
   go_meet
   case rel => exact ⟨rfl, by rw [HY.out]; exact HFo2.out⟩
  ·have HY0 : Hid (f2 = if pointB T = false then nv else T + 1) := Lib.hid (by rw [HF2.out]; exact if_neg (by simpa using HBb.out.symm))
   go_wp2_with fail
   refine (ok_walk T _).mono ?_
   rintro e w3 ⟨rfl, rfl⟩
   have HFo3 := Lib.hid (HFo2.out.put2 (T + 1))
   generalize wc.setCell ⟨b5, 2, none⟩ (.int .i64 (T + 1)) = w4 at *
   clear k0 k1 k2 k3 kf2
   obtain ⟨k0, k1, k2, k3, kf⟩ := HFo3.out.cell
   have kf2 := kf 2
   clear kf
   generalize pointB T = po at *
   cases po
   ·have HY : Hid (f2 = nv) := Lib.hid (by rw [HY0.out]; rfl)
    go_wp2
    go_meet
    case rel => exact ⟨rfl, by rw [HY.out]; exact HFo3.out.put2 nv⟩
   ·have HY : Hid (f2 = T + 1) := Lib.hid (by rw [HY0.out]; rfl)
    go_wp2
    go_meet
    case rel => exact ⟨rfl, by rw [HY.out]; exact HFo3.out⟩
 case rest =>
 obtain ⟨rfl, hfo⟩ := hcut
 clear HFo2 k0 k1 k2 k3 kf2 HBb HF2 ht
 have HFo := Lib.hid hfo
 clear hfo
 go_wp2_with fail
 refine (HMi.out _ HFo.out.bel).mono ?_
 rintro e w2 ⟨rfl, hb⟩
 have HFo2 := Lib.hid (HFo.out.next hb)
 clear hb HFo HMi
 obtain ⟨k0, k1, k2, k3, kf⟩ := HFo2.out.cell
 have kf3 := kf 3
 clear kf
 go_upto_region 17 with (fail)
 go_cut [76] from 76 to 76 (fun v wy => v = .bool Hs ∧ wy = w2)
 case first =>
  go_wp2
  go_meet
  case rel => exact ⟨rfl, rfl⟩
 case rest =>
 obtain ⟨rfl, rfl⟩ := hcut
 go_step
 go_cut [5] from 77 to 76 (fun v wy => v = .pointer (some ⟨b5, 0, none⟩) ∧ FoR w b4 b5 f0 f1 f2 f3 wy)
 case first =>
  cases Hs
  ·have HY : Hid (f3 = 0) := Lib.hid (by rw [HF3.out]; rfl)
   go_wp2
   go_meet
   case rel => exact ⟨rfl, by rw [HY.out]; exact HFo2.out⟩
  ·have HY0 : Hid (f3 = if pointB M = false then nv else M + 1) := Lib.hid (by rw [HF3.out]; rfl)
   go_wp2_with fail
   refine (ok_walk M _).mono ?_
   rintro e w3 ⟨rfl, rfl⟩
   have HFo3 := Lib.hid (HFo2.out.put3 (M + 1))
   generalize wc.setCell ⟨b5, 3, none⟩ (.int .i64 (M + 1)) = w4 at *
   clear k0 k1 k2 k3 kf3
   obtain ⟨k0, k1, k2, k3, kf⟩ := HFo3.out.cell
   have kf3 := kf 3
   clear kf
   generalize pointB M = po at *
   cases po
   ·have HY : Hid (f3 = nv) := Lib.hid (by rw [HY0.out]; rfl)
    go_wp2
    go_meet
    case rel => exact ⟨rfl, by rw [HY.out]; exact HFo3.out.put3 nv⟩
   ·have HY : Hid (f3 = M + 1) := Lib.hid (by rw [HY0.out]; rfl)
    go_wp2
    go_meet
    case rel => exact ⟨rfl, by rw [HY.out]; exact HFo3.out⟩
 case rest =>
 obtain ⟨rfl, hfo⟩ := hcut
 clear HFo2 k0 k1 k2 k3 kf3 HF3 hm
 have HFo := Lib.hid hfo
 obtain ⟨k0, k1, k2, k3, -⟩ := hfo.cell
 have p0 := cell_of_row wc b4 0 _ _ (0, 0) hfo.res
 have p1 := cell_of_row wc b4 1 _ _ (0, 0) hfo.res
 have p2 := cell_of_row wc b4 2 _ _ (0, 0) hfo.res
 have p3 := cell_of_row wc b4 3 _ _ (0, 0) hfo.res
 have g0 := frozen_of_row wc b4 0 _ _ hfo.res
 have g1 := frozen_of_row wc b4 1 _ _ hfo.res
 have g2 := frozen_of_row wc b4 2 _ _ hfo.res
 have g3 := frozen_of_row wc b4 3 _ _ hfo.res
 simp at p0 p1 p2 p3
 clear hfo
 have y0 := heap_setCell_same wc b4 0 _ _ (.int .i64 f0) HFo.out.res
 have y1 := heap_setCell_same _ b4 1 _ _ (.int .i64 f1) y0
 have y2 := heap_setCell_same _ b4 2 _ _ (.int .i64 f2) y1
 have y3 := heap_setCell_same _ b4 3 _ _ (.int .i64 f3) y2
 have HY3 := Lib.hid y3
 have HL := Lib.hid HFo.out.low.1
 clear y0 y1 y2 y3
 go_wp2
 have r0 := cell_of_row _ b4 0 _ _ (0, 0) HY3.out
 have r1 := cell_of_row _ b4 1 _ _ (0, 0) HY3.out
 have r2 := cell_of_row _ b4 2 _ _ (0, 0) HY3.out
 have r3 := cell_of_row _ b4 3 _ _ (0, 0) HY3.out
 simp at r0 r1 r2 r3
 refine bodyPost_ret (v := .agg #[.int .i64 f0, .int .i64 f1, .int .i64 f2, .int .i64 f3]) (by simp [results, Tryz.results25, go_sem, r0, r1, r2, r3]) rfl ?_
 exact ⟨rfl, (((HFo.out.bel.setCell (p := ⟨b4, 0, none⟩) HL.out _).setCell (p := ⟨b4, 1, none⟩) HL.out _).setCell (p := ⟨b4, 2, none⟩) HL.out _).setCell (p := ⟨b4, 3, none⟩) HL.out _⟩
end Go.Proofs.YtbmphakfgoompaaGreat
