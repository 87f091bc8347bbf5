/- several texts in one: UHD UHR -/
import Derived.Test.YtbmphakfgoompaaGreatJD
import Derived.Test.YtbmphakfgoompaaGreatG4
import Derived.BigQuiet
import Derived.Lib.QuietBelow
import Derived.Deep.QuietTactic
import Derived.Laws.StructEq
import Derived.Test.YtbmphakfgoompaaGreatG3
import Derived.Test.YtbmphakfgoompaaGreatGTD
set_option linter.unusedVariables false
set_option linter.unusedSimpArgs false
/-
 The document's Hand.
-/
namespace Go.Proofs.YtbmphakfgoompaaGreat
open Go.RowKit
attribute [local go_sem] Oper.semAt_some

theorem okD_walk (r : Int) (w : World) : Calls Tryz.prog 55 #[.int .i32 r] w fun e w' => e = .returned (.bool (pointB r)) ∧ w' = w := by
 unfold pointB
 by_cases h1 : 0 ≤ r
 ·by_cases h2 : r ≤ 1114111
  ·go_enter Tryz.func55, Tryz.ntmps55
   go_wp2
   go_ret
   exact ⟨by simp [h1, h2], rfl⟩
  ·go_enter Tryz.func55, Tryz.ntmps55
   go_wp2
   go_ret
   exact ⟨by simp [h1, h2]; try omega, rfl⟩
 ·go_enter Tryz.func55, Tryz.ntmps55
  go_wp2
  go_ret
  exact ⟨by simp [h1]; try omega, rfl⟩
theorem entBad_doc (s : SpanD) : entBad s = (decide (s.f < 0) || decide (1114111 < s.t) || decide (s.t < s.f) || decide (s.v < 1) || decide (23 < s.v)) := by
 rw [Bool.eq_iff_iff]
 simp [entBad, pointB, knownB]
 omega
/-- what the document says of lists -/
def DHandQ (w : World) (D : MadeD) (e : Ending) (w' : World) : Prop :=
 Below w.heap.size w w' ∧ ((∃ r, handBad D.rest D.l1 D.l2 D.l3 D.l4 = some r ∧ e = .returned (.tuple #[.pointer none, .int .i32 r, .int .i64 2])) ∨
  (handBad D.rest D.l1 D.l2 D.l3 D.l4 = none ∧ ∃ W, Below w.heap.size w W ∧ DPackQ W D e w'))
set_option maxRecDepth 100000 in
set_option maxHeartbeats 8000000 in
theorem dHand_walk (w : World) (pm : Nat) (D : MadeD) (h : MadeAt w pm D) (hwf : MadeWf D) (hE8 : (edgeL D).length ≤ 1048576) (hl : D.l2.length ≤ 20) :
  Calls Tryz.prog 16 #[.pointer (some ⟨pm, 0, none⟩)] w fun e w' => DHandQ w D e w' := by
 have HPk := Lib.hid (fun (W : World) (hb : Below w.heap.size w W) => dPack_walk W pm D (h.below hb) hwf hE8 hl)
 obtain ⟨a1, n1, c1, a2, n2, c2, a3, n3, c3, a4, n4, c4, hrow, hsl⟩ := h
 have HL1 := Lib.hid hsl.h1; have HL2 := Lib.hid hsl.h2; have HL3 := Lib.hid hsl.h3; have HL4 := Lib.hid hsl.h4
 have HS1 := Lib.hid hsl.s1; have HS2 := Lib.hid hsl.s2; have HS3 := Lib.hid hsl.s3; have HS4 := Lib.hid hsl.s4
 have hn1 := hsl.b1; have hn2 := hsl.b2; have hn3 := hsl.b3; have hn4 := hsl.b4
 obtain ⟨rest, hrest⟩ : ∃ x, x = D.rest := ⟨_, rfl⟩
 rw [← hrest] at hrow
 have HRest := Lib.hid hrest
 have HRow := Lib.hid hrow
 have HW0 := Lib.hid (Below.refl w.heap.size w)
 clear hsl hrest hrow hwf hE8 hl
 have hmr := (HW0.out.block pm (Array.getElem?_eq_some_iff.1 HRow.out).1).trans HRow.out
 have m0 := cell_of_row w pm 0 _ _ (0, 0) hmr
 have m1 := cell_of_row w pm 1 _ _ (0, 0) hmr
 have m2 := cell_of_row w pm 2 _ _ (0, 0) hmr
 have m3 := cell_of_row w pm 3 _ _ (0, 0) hmr
 have m4 := cell_of_row w pm 4 _ _ (0, 0) hmr
 simp at m0 m1 m2 m3 m4
 clear hmr

 by_cases r1 : rest < 1
 ·have HB0 : Hid (handBad D.rest D.l1 D.l2 D.l3 D.l4 = some 0) := Lib.hid (by unfold handBad; rw [if_neg (by rw [← HRest.out]; simp [knownB]; omega)])
  go_enter Tryz.func16, Tryz.ntmps16
  go_wp2
  refine bodyPost_ret (v := .tuple #[.pointer none, .int .i32 0, .int .i64 2]) (by simp [results, Tryz.results16, go_sem]) rfl ?_
  exact ⟨HW0.out, .inl ⟨_, HB0.out, rfl⟩⟩
 by_cases r2 : 23 < rest
 ·have HB0 : Hid (handBad D.rest D.l1 D.l2 D.l3 D.l4 = some 0) := Lib.hid (by unfold handBad; rw [if_neg (by rw [← HRest.out]; simp [knownB]; omega)])
  go_enter Tryz.func16, Tryz.ntmps16
  go_wp2
  refine bodyPost_ret (v := .tuple #[.pointer none, .int .i32 0, .int .i64 2]) (by simp [results, Tryz.results16, go_sem]) rfl ?_
  exact ⟨HW0.out, .inl ⟨_, HB0.out, rfl⟩⟩
 have HK0 : Hid (knownB D.rest = true) := Lib.hid (by rw [← HRest.out]; simp [knownB]; omega)
 go_enter Tryz.func16, Tryz.ntmps16
 go_wp2
 clear r1 r2 m0 m1 m2 m3 m4
 go_loopw [5] (HdR w n1 (fun j => entBad (D.l1.getD j default))) (fun i _ => n1 - (intOf i).toNat)
 case atStart => exact ⟨0, Nat.zero_le _, rfl, fun j hj => by omega, HW0.out⟩
 case round =>
  obtain ⟨k, hk, rfl, hgood, hbel⟩ := hrel
  have HGd := Lib.hid hgood; clear hgood
  have HBe := Lib.hid hbel; clear hbel
  have hmr := (HBe.out.block pm (Array.getElem?_eq_some_iff.1 HRow.out).1).trans HRow.out
  have m0 := cell_of_row wr pm 0 _ _ (0, 0) hmr
  have m1 := cell_of_row wr pm 1 _ _ (0, 0) hmr
  have m2 := cell_of_row wr pm 2 _ _ (0, 0) hmr
  have m3 := cell_of_row wr pm 3 _ _ (0, 0) hmr
  have m4 := cell_of_row wr pm 4 _ _ (0, 0) hmr
  simp at m0 m1 m2 m3 m4
  clear hmr

  by_cases hkn : k < n1
  ·have hki : (k : Int) < (n1 : Int) := by omega
   have hkl : k < D.l1.length := by rw [HL1.out]; exact hkn
   obtain ⟨b, o, ha⟩ := HS1.out.some (by omega)
   subst ha
   obtain ⟨c1, c2, c3⟩ := (HS1.out.keep HBe.out).get k hkl
   have HBadk := Lib.hid (fun (h : entBad D.l1[k] = true) => (show handBad D.rest D.l1 D.l2 D.l3 D.l4 = some (D.l1[k]).f from by unfold handBad; rw [if_pos HK0.out, find_first hkl h (fun j hj => HGd.out j hj)]))
   have HGk := Lib.hid (show D.l1.getD k default = D.l1[k] by simp [hkl])
   obtain ⟨s, hs⟩ : ∃ s, s = D.l1[k] := ⟨_, rfl⟩
   rw [← hs] at c1 c2 c3 HBadk HGk
   clear hs
   have x1 := heap_alloc_new wr (.cells #[.int .i32 s.f, .int .i32 s.t, .int .u8 s.v] 63)
   have b1 := (Below.refl _ wr).alloc (Nat.le_refl _) (.cells #[.int .i32 s.f, .int .i32 s.t, .int .u8 s.v] 63)
   have HW1 := Lib.hid (And.intro x1 b1)
   clear x1 b1
   go_upto_region 7 with (fail)
   obtain ⟨x1, b1⟩ := HW1.out
   clear HW1
   obtain ⟨bx, hbx⟩ : ∃ bx, bx = wr.heap.size := ⟨_, rfl⟩
   rw [← hbx] at x1 ⊢
   generalize wr.alloc (.cells #[.int .i32 s.f, .int .i32 s.t, .int .u8 s.v] 63) = w1 at *
   have HBe1 := Lib.hid (HBe.out.trans (b1.mono HBe.out.size))
   have q0 := cell_of_row w1 bx 0 _ _ (0, 0) x1
   have q1 := cell_of_row w1 bx 1 _ _ (0, 0) x1
   have q2 := cell_of_row w1 bx 2 _ _ (0, 0) x1
   simp at q0 q1 q2
   clear x1 b1 hbx c1 c2 c3 m0 m1 m2 m3 m4

   by_cases h1 : s.f < 0
   ·have Hh1 := Lib.hid h1
    go_wp2
    go_quiet (fail)
    go_wp2
    refine bodyPost_ret (v := .tuple #[.pointer none, .int .i32 s.f, .int .i64 2]) (by simp [results, Tryz.results16, go_sem]) rfl ?_
    exact ⟨below_drewN HBe1.out _, .inl ⟨_, HBadk.out (by rw [entBad_doc]; simp [Hh1.out]), rfl⟩⟩
   ·have Hh1 := Lib.hid h1
    by_cases h2 : 1114111 < s.t
    ·have Hh2 := Lib.hid h2
     go_wp2
     go_quiet (fail)
     go_wp2
     refine bodyPost_ret (v := .tuple #[.pointer none, .int .i32 s.f, .int .i64 2]) (by simp [results, Tryz.results16, go_sem]) rfl ?_
     exact ⟨below_drewN HBe1.out _, .inl ⟨_, HBadk.out (by rw [entBad_doc]; simp [Hh2.out]), rfl⟩⟩
    ·have Hh2 := Lib.hid h2
     by_cases h3 : s.t < s.f
     ·have Hh3 := Lib.hid h3
      go_wp2
      go_quiet (fail)
      go_wp2
      refine bodyPost_ret (v := .tuple #[.pointer none, .int .i32 s.f, .int .i64 2]) (by simp [results, Tryz.results16, go_sem]) rfl ?_
      exact ⟨below_drewN HBe1.out _, .inl ⟨_, HBadk.out (by rw [entBad_doc]; simp [Hh3.out]), rfl⟩⟩
     ·have Hh3 := Lib.hid h3
      by_cases h4 : s.v < 1
      ·have Hh4 := Lib.hid h4
       go_wp2
       go_quiet (fail)
       go_wp2
       refine bodyPost_ret (v := .tuple #[.pointer none, .int .i32 s.f, .int .i64 2]) (by simp [results, Tryz.results16, go_sem]) rfl ?_
       exact ⟨below_drewN HBe1.out _, .inl ⟨_, HBadk.out (by rw [entBad_doc]; simp [Hh4.out]), rfl⟩⟩
      ·have Hh4 := Lib.hid h4
       by_cases h5 : 23 < s.v
       ·have Hh5 := Lib.hid h5
        go_wp2
        go_quiet (fail)
        go_wp2
        refine bodyPost_ret (v := .tuple #[.pointer none, .int .i32 s.f, .int .i64 2]) (by simp [results, Tryz.results16, go_sem]) rfl ?_
        exact ⟨below_drewN HBe1.out _, .inl ⟨_, HBadk.out (by rw [entBad_doc]; simp [Hh5.out]), rfl⟩⟩
       ·have Hh5 := Lib.hid h5
        go_wp2
        go_roundw
        case rel => exact ⟨k + 1, by omega, by go_num, fun j hj => by
         by_cases e : j = k
         ·show entBad (D.l1.getD j default) = false
          rw [e, HGk.out, entBad_doc]; simp; have := Hh1.out; have := Hh2.out; have := Hh3.out; have := Hh4.out; have := Hh5.out; omega
         ·exact HGd.out j (by omega), HBe1.out⟩
        case measure => simp [intOf]; omega

  ·obtain rfl : n1 = k := by omega
   have hki : ¬ (n1 : Int) < (n1 : Int) := by omega
   have HF1 : Hid (D.l1.find? entBad = none) := Lib.hid (find_no (fun j hj => HGd.out j (by have := HL1.out; omega)))
   have HW0b := Lib.hid HBe.out
   clear HGd HBe
   go_wp2
   clear m0 m1 m2 m3 m4
   go_loopw [7] (HdR w n2 (fun j => brBad (D.l2.getD j default))) (fun i _ => n2 - (intOf i).toNat)
   case atStart => exact ⟨0, Nat.zero_le _, rfl, fun j hj => by omega, HW0b.out⟩
   case round =>
    obtain ⟨k, hk, rfl, hgood, hbel⟩ := hrel
    have HGd := Lib.hid hgood; clear hgood
    have HBe := Lib.hid hbel; clear hbel
    have hmr := (HBe.out.block pm (Array.getElem?_eq_some_iff.1 HRow.out).1).trans HRow.out
    have m0 := cell_of_row wr pm 0 _ _ (0, 0) hmr
    have m1 := cell_of_row wr pm 1 _ _ (0, 0) hmr
    have m2 := cell_of_row wr pm 2 _ _ (0, 0) hmr
    have m3 := cell_of_row wr pm 3 _ _ (0, 0) hmr
    have m4 := cell_of_row wr pm 4 _ _ (0, 0) hmr
    simp at m0 m1 m2 m3 m4
    clear hmr

    by_cases hkn : k < n2
    ·have hki : (k : Int) < (n2 : Int) := by omega
     have hkl : k < D.l2.length := by rw [HL2.out]; exact hkn
     obtain ⟨b, o, ha⟩ := HS2.out.some (by omega)
     subst ha
     obtain ⟨c1, c2, c3⟩ := (HS2.out.keep HBe.out).get k hkl
     have HBadk := Lib.hid (fun (h : brBad D.l2[k] = true) => (show handBad D.rest D.l1 D.l2 D.l3 D.l4 = some (D.l2[k]).f from by unfold handBad; rw [if_pos HK0.out, HF1.out, find_first hkl h (fun j hj => HGd.out j hj)]))
     have HGk := Lib.hid (show D.l2.getD k default = D.l2[k] by simp [hkl])
     obtain ⟨s, hs⟩ : ∃ s, s = D.l2[k] := ⟨_, rfl⟩
     rw [← hs] at c1 c2 c3 HBadk HGk
     clear hs
     have x1 := heap_alloc_new wr (.cells #[.int .i32 s.f, .int .i32 s.t, .int .u8 s.v] 66)
     have b1 := (Below.refl _ wr).alloc (Nat.le_refl _) (.cells #[.int .i32 s.f, .int .i32 s.t, .int .u8 s.v] 66)
     have HW1 := Lib.hid (And.intro x1 b1)
     clear x1 b1
     go_upto_region 13 with (fail)
     obtain ⟨x1, b1⟩ := HW1.out
     clear HW1
     obtain ⟨bx, hbx⟩ : ∃ bx, bx = wr.heap.size := ⟨_, rfl⟩
     rw [← hbx] at x1 ⊢
     generalize wr.alloc (.cells #[.int .i32 s.f, .int .i32 s.t, .int .u8 s.v] 66) = w1 at *
     have HBe1 := Lib.hid (HBe.out.trans (b1.mono HBe.out.size))
     have q0 := cell_of_row w1 bx 0 _ _ (0, 0) x1
     have q1 := cell_of_row w1 bx 1 _ _ (0, 0) x1
     have q2 := cell_of_row w1 bx 2 _ _ (0, 0) x1
     simp at q0 q1 q2
     clear x1 b1 hbx c1 c2 c3 m0 m1 m2 m3 m4
     obtain ⟨bf, hbf⟩ : ∃ x, x = pointB s.f := ⟨_, rfl⟩
     obtain ⟨bt, hbt⟩ : ∃ x, x = pointB s.t := ⟨_, rfl⟩
     have HPf := Lib.hid (fun w => (okD_walk s.f w).mono fun e w' h => (show e = .returned (.bool bf) ∧ w' = w from by rw [hbf]; exact h))
     have HPt := Lib.hid (fun w => (okD_walk s.t w).mono fun e w' h => (show e = .returned (.bool bt) ∧ w' = w from by rw [hbt]; exact h))
     have HEb := Lib.hid (show brBad s = (!bf || !bt || s.f == s.t || !sidedB s.v) from by rw [hbf, hbt]; rfl)
     clear hbf hbt

     cases bf
     ·go_wp2_with fail
      refine (HPf.out _).mono ?_
      rintro e w2 ⟨rfl, h2⟩
      subst h2
      go_wp2
      go_quiet (fail)
      go_wp2
      refine bodyPost_ret (v := .tuple #[.pointer none, .int .i32 s.f, .int .i64 2]) (by simp [results, Tryz.results16, go_sem]) rfl ?_
      exact ⟨below_drewN HBe1.out _, .inl ⟨_, HBadk.out (by rw [HEb.out]; simp), rfl⟩⟩
     ·cases bt
      ·go_wp2_with fail
       refine (HPf.out _).mono ?_
       rintro e w2 ⟨rfl, h2⟩
       subst h2
       go_wp2_with fail
       refine (HPt.out _).mono ?_
       rintro e w2 ⟨rfl, h2⟩
       subst h2
       go_wp2
       go_quiet (fail)
       go_wp2
       refine bodyPost_ret (v := .tuple #[.pointer none, .int .i32 s.f, .int .i64 2]) (by simp [results, Tryz.results16, go_sem]) rfl ?_
       exact ⟨below_drewN HBe1.out _, .inl ⟨_, HBadk.out (by rw [HEb.out]; simp), rfl⟩⟩
      ·by_cases hc : s.f = s.t
       ·have dc : (s.f == s.t) = true := beq_iff_eq.2 hc
        have HHc := Lib.hid hc
        clear hc
        go_wp2_with fail
        refine (HPf.out _).mono ?_
        rintro e w2 ⟨rfl, h2⟩
        subst h2
        go_wp2_with fail
        refine (HPt.out _).mono ?_
        rintro e w2 ⟨rfl, h2⟩
        subst h2
        go_wp2
        go_quiet (fail)
        go_wp2
        refine bodyPost_ret (v := .tuple #[.pointer none, .int .i32 s.f, .int .i64 2]) (by simp [results, Tryz.results16, go_sem]) rfl ?_
        exact ⟨below_drewN HBe1.out _, .inl ⟨_, HBadk.out (by rw [HEb.out]; simp [HHc.out]), rfl⟩⟩
       ·have dc : (s.f == s.t) = false := beq_false_of_ne hc
        have HHc := Lib.hid hc
        clear hc
        by_cases hs1 : s.v = 1
        ·have HHs : Hid (s.v = 1 ∨ s.v = 2) := Lib.hid (.inl hs1)
         have ds : (s.v != 1) = false := by simp [hs1]
         clear hs1
         go_wp2_with fail
         refine (HPf.out _).mono ?_
         rintro e w2 ⟨rfl, h2⟩
         subst h2
         go_wp2_with fail
         refine (HPt.out _).mono ?_
         rintro e w2 ⟨rfl, h2⟩
         subst h2
         go_wp2
         go_roundw
         case rel => exact ⟨k + 1, by omega, by go_num, fun j hj => by
          by_cases e : j = k
          ·show brBad (D.l2.getD j default) = false
           rw [e, HGk.out, HEb.out]; simp [HHc.out, sidedB]; have := HHs.out; omega
          ·exact HGd.out j (by omega), HBe1.out⟩
         case measure => simp [intOf]; omega
        ·by_cases hs2 : s.v = 2
         ·have HHs : Hid (s.v = 1 ∨ s.v = 2) := Lib.hid (.inr hs2)
          have ds : (s.v != 1) = true := by simp [hs1]
          have ds2 : (s.v != 2) = false := by simp [hs2]
          clear hs1 hs2
          go_wp2_with fail
          refine (HPf.out _).mono ?_
          rintro e w2 ⟨rfl, h2⟩
          subst h2
          go_wp2_with fail
          refine (HPt.out _).mono ?_
          rintro e w2 ⟨rfl, h2⟩
          subst h2
          go_wp2
          go_roundw
          case rel => exact ⟨k + 1, by omega, by go_num, fun j hj => by
           by_cases e : j = k
           ·show brBad (D.l2.getD j default) = false
            rw [e, HGk.out, HEb.out]; simp [HHc.out, sidedB]; have := HHs.out; omega
           ·exact HGd.out j (by omega), HBe1.out⟩
          case measure => simp [intOf]; omega
         ·have HHs : Hid (¬ s.v = 1 ∧ ¬ s.v = 2) := Lib.hid ⟨hs1, hs2⟩
          have ds : (s.v != 1) = true := by simp [hs1]
          have ds2 : (s.v != 2) = true := by simp [hs2]
          clear hs1 hs2
          go_wp2_with fail
          refine (HPf.out _).mono ?_
          rintro e w2 ⟨rfl, h2⟩
          subst h2
          go_wp2_with fail
          refine (HPt.out _).mono ?_
          rintro e w2 ⟨rfl, h2⟩
          subst h2
          go_wp2
          go_quiet (fail)
          go_wp2
          refine bodyPost_ret (v := .tuple #[.pointer none, .int .i32 s.f, .int .i64 2]) (by simp [results, Tryz.results16, go_sem]) rfl ?_
          exact ⟨below_drewN HBe1.out _, .inl ⟨_, HBadk.out (by rw [HEb.out]; simp [sidedB, HHs.out.1, HHs.out.2]), rfl⟩⟩

    ·obtain rfl : n2 = k := by omega
     have hki : ¬ (n2 : Int) < (n2 : Int) := by omega
     have HF2 : Hid (D.l2.find? brBad = none) := Lib.hid (find_no (fun j hj => HGd.out j (by have := HL2.out; omega)))
     have HB2 := Lib.hid HBe.out
     clear HGd HBe
     obtain ⟨w6, rfl⟩ : ∃ w6, w6 = wr := ⟨_, rfl⟩
     go_upto_region 15 with (fail)
     go_region
     have x1 := heap_alloc_new w6 (.cells #[.slice a3 n3 c3, .slice a4 n4 c4] 25)
     have b1 := (Below.refl _ w6).alloc (Nat.le_refl _) (.cells #[.slice a3 n3 c3, .slice a4 n4 c4] 25)
     have hdr : Below (w6.alloc (.cells #[.slice a3 n3 c3, .slice a4 n4 c4] 25)).heap.size (w6.alloc (.cells #[.slice a3 n3 c3, .slice a4 n4 c4] 25)) (w6.alloc (.cells #[.slice a3 n3 c3, .slice a4 n4 c4] 25)).drew := (Below.refl _ _).drew
     have x2 := (hdr.block w6.heap.size (Array.getElem?_eq_some_iff.1 x1).1).trans x1
     have b2 := b1.trans (hdr.mono b1.size)
     obtain ⟨bl, hbl⟩ : ∃ bl, bl = w6.heap.size := ⟨_, rfl⟩
     rw [← hbl] at x2 ⊢
     generalize (w6.alloc (.cells #[.slice a3 n3 c3, .slice a4 n4 c4] 25)).drew = w7 at *
     have HW7 := Lib.hid (HB2.out.trans (b2.mono HB2.out.size))
     have HA7 := Lib.hid x2
     clear x1 b1 hdr x2 b2 hbl m0 m1 m2 m3 m4
     go_wp2
     go_loopw [122] (HdR w7 2 (fun j => (if j = 0 then D.l3 else D.l4).any twBad)) (fun i _ => 2 - (intOf i).toNat)
     case atStart => exact ⟨0, by omega, rfl, fun j hj => by omega, Below.refl _ _⟩
     case round =>
      obtain ⟨p, hp, rfl, hpg, hpb⟩ := hrel
      have HPg := Lib.hid hpg; clear hpg
      have HPb := Lib.hid hpb; clear hpb
      by_cases hp2 : p < 2
      ·have hpi : (p : Int) < 2 := by omega
       obtain ⟨aX, nX, cX, lX, hlX, hnX, hsX, hcX, heX⟩ : ∃ (aX : Option Addr) (nX cX : Nat) (lX : List TwD), lX.length = nX ∧ nX ≤ 1048576 ∧ TwAt wr aX lX ∧ wr.cell? ⟨bl, p, none⟩ = some (.slice aX nX cX) ∧ (if p = 0 then D.l3 else D.l4) = lX := by
        have hr := (HPb.out.block bl (Array.getElem?_eq_some_iff.1 HA7.out).1).trans HA7.out
        have q0 := cell_of_row wr bl 0 _ _ (0, 0) hr
        have q1 := cell_of_row wr bl 1 _ _ (0, 0) hr
        simp at q0 q1
        by_cases e : p = 0
        ·subst e
         exact ⟨a3, n3, c3, D.l3, HL3.out, hn3, (HS3.out.keep HW7.out).keep HPb.out, q0, rfl⟩
        ·obtain rfl : p = 1 := by omega
         exact ⟨a4, n4, c4, D.l4, HL4.out, hn4, (HS4.out.keep HW7.out).keep HPb.out, q1, rfl⟩
       have HLX := Lib.hid hlX
       have HSX := Lib.hid hsX
       have HEX := Lib.hid heX
       have HBX : Hid (∀ k (h : k < lX.length), twBad lX[k] = true → (∀ j, j < k → twBad (lX.getD j default) = false) → handBad D.rest D.l1 D.l2 D.l3 D.l4 = some (lX[k]).a) := Lib.hid (fun k h h1 h2 => by
        unfold handBad
        rw [if_pos HK0.out, HF1.out, HF2.out]
        have hf := find_first h h1 h2
        by_cases e : p = 0
        ·subst e
         have heX := HEX.out
         rw [if_pos rfl] at heX
         subst heX
         rw [hf]
        ·have heX := HEX.out
         rw [if_neg e] at heX
         subst heX
         have h0 : (if (0 : Nat) = 0 then D.l3 else D.l4).any twBad = false := HPg.out 0 (by omega)
         rw [if_pos rfl] at h0
         have h3 : D.l3.find? twBad = none := by
          rw [List.find?_eq_none]
          intro x hx hb
          have := List.any_eq_false.1 h0 x hx
          exact this hb
         rw [h3, hf]
         rfl)
       have HW0p := Lib.hid (HW7.out.trans (HPb.out.mono HW7.out.size))
       clear hlX hsX heX
       have HW0 := Lib.hid (Below.refl wr.heap.size wr)
       obtain ⟨wp, rfl⟩ : ∃ wp, wp = wr := ⟨_, rfl⟩
       go_wp2
       go_loopw [11] (HdR wp nX (fun j => twBad (lX.getD j default))) (fun i _ => nX - (intOf i).toNat)
       case atStart => exact ⟨0, Nat.zero_le _, rfl, fun j hj => by omega, HW0.out⟩
       case round =>
        obtain ⟨k, hk, rfl, hgood, hbel⟩ := hrel
        have HGd := Lib.hid hgood; clear hgood
        have HBe := Lib.hid hbel; clear hbel
        by_cases hkn : k < nX
        ·have hki : (k : Int) < (nX : Int) := by omega
         have hkl : k < lX.length := by rw [HLX.out]; exact hkn
         obtain ⟨b, o, ha⟩ := HSX.out.some (by omega)
         subst ha
         obtain ⟨c1, c2⟩ := (HSX.out.keep HBe.out).get k hkl
         have HBadk := Lib.hid (fun (h : twBad lX[k] = true) => HBX.out k hkl h (fun j hj => HGd.out j hj))
         have HGk := Lib.hid (show lX.getD k default = lX[k] by simp [hkl])
         obtain ⟨s, hs⟩ : ∃ s, s = lX[k] := ⟨_, rfl⟩
         rw [← hs] at c1 c2 HBadk HGk
         clear hs
         obtain ⟨bf, hbf⟩ : ∃ x, x = pointB s.a := ⟨_, rfl⟩
         obtain ⟨bt, hbt⟩ : ∃ x, x = pointB s.s := ⟨_, rfl⟩
         have HPf := Lib.hid (fun q : Regrown => Go.Calls.regrown_of ((okD_walk s.a (Go.Sort.grow (redrawn wr q.d) q.os)).mono fun e w' h => (show e = .returned (.bool bf) ∧ Below _ _ w' from ⟨by rw [hbf]; exact h.1, by rw [h.2]; exact Below.refl _ _⟩)))
         have HPt := Lib.hid (fun q : Regrown => Go.Calls.regrown_of ((okD_walk s.s (Go.Sort.grow (redrawn wr q.d) q.os)).mono fun e w' h => (show e = .returned (.bool bt) ∧ Below _ _ w' from ⟨by rw [hbt]; exact h.1, by rw [h.2]; exact Below.refl _ _⟩)))
         have HEb := Lib.hid (show twBad s = (!bf || !bt || s.a == s.s) from by rw [hbf, hbt]; rfl)
         have z1 := fun d os => cell_regrown c1 d os
         have z2 := fun d os => cell_regrown c2 d os
         have Hc1 := Lib.hid c1
         clear hbf hbt c1 c2
         go_upto_region 21 with (fail)
         refine wp_region_quiet_below (by kernel_rfl) (by kernel_rfl) ?_
         iterate 5 (go_big_quiet_step (fail))
         go_big_quiet_step (exact HPf.out _)
         cases bf
         ·iterate 23 (go_big_quiet_step (fail))
          refine wpQuiet_nil ?_
          intro _ hw'
          obtain ⟨⟨dq, osq⟩, hw''⟩ := hw'
          subst hw''
          have HB9 := Lib.hid (HBe.out.trans ((below_regrown wr dq osq).mono HBe.out.size))
          have y1 := cell_regrown Hc1.out dq osq
          clear z1 z2 HPf HPt Hc1
          generalize Go.Sort.grow (redrawn wr dq) osq = w9 at *
          go_wp2
          go_quiet (fail)
          go_wp2
          refine bodyPost_ret (v := .tuple #[.pointer none, .int .i32 s.a, .int .i64 2]) (by simp [results, Tryz.results16, go_sem]) rfl ?_
          exact ⟨below_drewN (HW0p.out.trans (HB9.out.mono HW0p.out.size)) _, .inl ⟨_, HBadk.out (by rw [HEb.out]; simp), rfl⟩⟩
         ·cases bt
          ·iterate 7 (go_big_quiet_step (fail))
           go_big_quiet_step (exact HPt.out _)
           iterate 15 (go_big_quiet_step (fail))
           refine wpQuiet_nil ?_
           intro _ hw'
           obtain ⟨⟨dq, osq⟩, hw''⟩ := hw'
           subst hw''
           have HB9 := Lib.hid (HBe.out.trans ((below_regrown wr dq osq).mono HBe.out.size))
           have y1 := cell_regrown Hc1.out dq osq
           clear z1 z2 HPf HPt Hc1
           generalize Go.Sort.grow (redrawn wr dq) osq = w9 at *
           go_wp2
           go_quiet (fail)
           go_wp2
           refine bodyPost_ret (v := .tuple #[.pointer none, .int .i32 s.a, .int .i64 2]) (by simp [results, Tryz.results16, go_sem]) rfl ?_
           exact ⟨below_drewN (HW0p.out.trans (HB9.out.mono HW0p.out.size)) _, .inl ⟨_, HBadk.out (by rw [HEb.out]; simp), rfl⟩⟩
          ·by_cases hc : s.a = s.s
           ·have dc : (s.a == s.s) = true := beq_iff_eq.2 hc
            have HHc := Lib.hid hc
            clear hc
            iterate 7 (go_big_quiet_step (fail))
            go_big_quiet_step (exact HPt.out _)
            iterate 15 (go_big_quiet_step (fail))
            refine wpQuiet_nil ?_
            intro _ hw'
            obtain ⟨⟨dq, osq⟩, hw''⟩ := hw'
            subst hw''
            have HB9 := Lib.hid (HBe.out.trans ((below_regrown wr dq osq).mono HBe.out.size))
            have y1 := cell_regrown Hc1.out dq osq
            clear z1 z2 HPf HPt Hc1
            generalize Go.Sort.grow (redrawn wr dq) osq = w9 at *
            go_wp2
            go_quiet (fail)
            go_wp2
            refine bodyPost_ret (v := .tuple #[.pointer none, .int .i32 s.a, .int .i64 2]) (by simp [results, Tryz.results16, go_sem]) rfl ?_
            exact ⟨below_drewN (HW0p.out.trans (HB9.out.mono HW0p.out.size)) _, .inl ⟨_, HBadk.out (by rw [HEb.out]; simp [HHc.out]), rfl⟩⟩
           ·have dc : (s.a == s.s) = false := beq_false_of_ne hc
            have HHc := Lib.hid hc
            clear hc
            iterate 7 (go_big_quiet_step (fail))
            go_big_quiet_step (exact HPt.out _)
            iterate 15 (go_big_quiet_step (fail))
            refine wpQuiet_nil ?_
            intro _ hw'
            obtain ⟨⟨dq, osq⟩, hw''⟩ := hw'
            subst hw''
            have HB9 := Lib.hid (HBe.out.trans ((below_regrown wr dq osq).mono HBe.out.size))
            have y1 := cell_regrown Hc1.out dq osq
            clear z1 z2 HPf HPt Hc1
            generalize Go.Sort.grow (redrawn wr dq) osq = w9 at *
            clear y1
            go_wp2
            go_roundw
            case rel => exact ⟨k + 1, by omega, by go_num, fun j hj => by
             by_cases e : j = k
             ·show twBad (lX.getD j default) = false
              rw [e, HGk.out, HEb.out]; simp [HHc.out]
             ·exact HGd.out j (by omega), HB9.out⟩
            case measure => simp [intOf]; omega
        ·obtain rfl : nX = k := by omega
         have hki : ¬ (nX : Int) < (nX : Int) := by omega
         have HAll : Hid ((if p = 0 then D.l3 else D.l4).any twBad = false) := Lib.hid (by
          rw [HEX.out, List.any_eq_false]
          intro x hx
          obtain ⟨j, hj, rfl⟩ := List.mem_iff_getElem.1 hx
          have : twBad (lX.getD j default) = false := HGd.out j (by have := HLX.out; omega)
          rw [show lX.getD j default = lX[j] by simp [hj]] at this
          simp [this])
         go_wp2
         go_roundw
         case rel => exact ⟨p + 1, by omega, by go_num, fun j hj => by
          by_cases e : j = p
          ·rw [e]; exact HAll.out
          ·exact HPg.out j (by omega), HPb.out.trans (HBe.out.mono HPb.out.size)⟩
         case measure => simp [intOf]; omega

      ·obtain rfl : p = 2 := by omega
       have hpi : ¬ ((2 : Nat) : Int) < 2 := by omega
       have HF3 : Hid (D.l3.find? twBad = none) := Lib.hid (by
        have h0 : (if (0 : Nat) = 0 then D.l3 else D.l4).any twBad = false := HPg.out 0 (by omega)
        rw [if_pos rfl] at h0
        rw [List.find?_eq_none]
        intro x hx hb
        exact List.any_eq_false.1 h0 x hx hb)
       have HF4 : Hid (D.l4.find? twBad = none) := Lib.hid (by
        have h0 : (if (1 : Nat) = 0 then D.l3 else D.l4).any twBad = false := HPg.out 1 (by omega)
        rw [if_neg (by omega)] at h0
        rw [List.find?_eq_none]
        intro x hx hb
        exact List.any_eq_false.1 h0 x hx hb)
       have HW8 := Lib.hid (HW7.out.trans (HPb.out.mono HW7.out.size))
       clear HPg HPb HA7 HW7
       have HN : Hid (handBad D.rest D.l1 D.l2 D.l3 D.l4 = none) := Lib.hid (by unfold handBad; rw [if_pos HK0.out, HF1.out, HF2.out, HF3.out, HF4.out]; rfl)
       clear HF1 HF2 HF3 HF4
       go_wp2_with fail
       refine (HPk.out wr HW8.out).mono ?_
       intro e w9 hq
       have HQ : Hid (DHandQ w D e w9) := Lib.hid ⟨HW8.out.trans (hq.1.mono HW8.out.size), .inr ⟨HN.out, wr, HW8.out, hq⟩⟩
       obtain ⟨-, k1, k2, -, -, ⟨-, rfl⟩ | ⟨-, -, rfl⟩ | ⟨-, -, p9, rfl, -⟩⟩ := hq
       ·go_wp2
        refine bodyPost_ret (v := .tuple #[.pointer none, .int .i32 (k1 : Nat), .int .i64 140]) (by simp [results, Tryz.results16, go_sem]) rfl ?_
        exact HQ.out
       ·go_wp2
        refine bodyPost_ret (v := .tuple #[.pointer none, .int .i32 (k2 : Nat), .int .i64 141]) (by simp [results, Tryz.results16, go_sem]) rfl ?_
        exact HQ.out
       ·go_wp2
        refine bodyPost_ret (v := .tuple #[.pointer (some ⟨p9, 0, none⟩), .int .i32 0, .int .i64 0]) (by simp [results, Tryz.results16, go_sem]) rfl ?_
        exact HQ.out

end Go.Proofs.YtbmphakfgoompaaGreat

/-
 Rows of lists, copied and overwritten; entries and brackets compared.
-/
namespace Go.Proofs.YtbmphakfgoompaaGreat
open Go.RowKit

/-- rows of three cells, of two cells -/
def fl3 (l : List SpanD) : List Value := l.flatMap (fun s => [.int .i32 s.f, .int .i32 s.t, .int .u8 s.v])
def fl2 (l : List TwD) : List Value := l.flatMap (fun s => [.int .i32 s.a, .int .i32 s.s])
theorem fl3_cons (s : SpanD) (l : List SpanD) : fl3 (s :: l) = [.int .i32 s.f, .int .i32 s.t, .int .u8 s.v] ++ fl3 l := rfl
theorem fl2_cons (s : TwD) (l : List TwD) : fl2 (s :: l) = [.int .i32 s.a, .int .i32 s.s] ++ fl2 l := rfl
theorem fl3_length (l : List SpanD) : (fl3 l).length = l.length * 3 := by
 induction l with
 | nil => rfl
 | cons s l ih => rw [fl3_cons, List.length_append, ih]; simp only [List.length_cons, List.length_nil]; omega
theorem fl2_length (l : List TwD) : (fl2 l).length = l.length * 2 := by
 induction l with
 | nil => rfl
 | cons s l ih => rw [fl2_cons, List.length_append, ih]; simp only [List.length_cons, List.length_nil]; omega
theorem fl3_get (l : List SpanD) : ∀ i (hi : i < l.length), (fl3 l)[i * 3]? = some (.int .i32 l[i].f) ∧ (fl3 l)[i * 3 + 1]? = some (.int .i32 l[i].t) ∧ (fl3 l)[i * 3 + 2]? = some (.int .u8 l[i].v) := by
 induction l with
 | nil => intro i hi; simp at hi
 | cons s l ih =>
  intro i hi
  cases i with
  | zero => exact ⟨rfl, rfl, rfl⟩
  | succ i =>
   have := ih i (by simp at hi; omega)
   rw [fl3_cons, show (i + 1) * 3 = i * 3 + 3 by omega, show i * 3 + 3 + 1 = i * 3 + 1 + 3 by omega, show i * 3 + 3 + 2 = i * 3 + 2 + 3 by omega]
   exact this
theorem fl2_get (l : List TwD) : ∀ i (hi : i < l.length), (fl2 l)[i * 2]? = some (.int .i32 l[i].a) ∧ (fl2 l)[i * 2 + 1]? = some (.int .i32 l[i].s) := by
 induction l with
 | nil => intro i hi; simp at hi
 | cons s l ih =>
  intro i hi
  cases i with
  | zero => exact ⟨rfl, rfl⟩
  | succ i =>
   have := ih i (by simp at hi; omega)
   rw [fl2_cons, show (i + 1) * 2 = i * 2 + 2 by omega, show i * 2 + 2 + 1 = i * 2 + 1 + 2 by omega]
   exact this
theorem fl3_one (l : List SpanD) : ∀ u ∈ fl3 l, u.oneCell' = true := by
 intro u hu
 obtain ⟨s, -, hs⟩ := List.mem_flatMap.1 hu
 simp at hs
 rcases hs with rfl | rfl | rfl <;> rfl
theorem fl2_one (l : List TwD) : ∀ u ∈ fl2 l, u.oneCell' = true := by
 intro u hu
 obtain ⟨s, -, hs⟩ := List.mem_flatMap.1 hu
 simp at hs
 rcases hs with rfl | rfl <;> rfl
theorem fl3_src {w : World} {a : Option Addr} {l : List SpanD} (h : SpansAt w a l) : ∀ j v, (fl3 l)[j]? = some v → ∃ ad, a = some ad ∧ w.cell? (ad.add j) = some v := by
 intro j v hv
 have hj : j < l.length * 3 := by
  have := (List.getElem?_eq_some_iff.1 hv).1
  rwa [fl3_length] at this
 obtain ⟨i, m, rfl, hm⟩ : ∃ i m, j = i * 3 + m ∧ m < 3 := ⟨j / 3, j % 3, by omega, by omega⟩
 have hi : i < l.length := by omega
 obtain ⟨b, o, rfl, c0, c1, c2⟩ := h i hi
 obtain ⟨e0, e1, e2⟩ := fl3_get l i hi
 refine ⟨_, rfl, ?_⟩
 rw [Addr.add_lit, ← Nat.add_assoc]
 have hm3 : m = 0 ∨ m = 1 ∨ m = 2 := by omega
 rcases hm3 with rfl | rfl | rfl
 ·rw [Nat.add_zero] at hv ⊢
  rw [c0, ← hv, e0]
 ·rw [c1, ← hv, e1]
 ·rw [c2, ← hv, e2]
theorem fl2_src {w : World} {a : Option Addr} {l : List TwD} (h : TwAt w a l) : ∀ j v, (fl2 l)[j]? = some v → ∃ ad, a = some ad ∧ w.cell? (ad.add j) = some v := by
 intro j v hv
 have hj : j < l.length * 2 := by
  have := (List.getElem?_eq_some_iff.1 hv).1
  rwa [fl2_length] at this
 obtain ⟨i, m, rfl, hm⟩ : ∃ i m, j = i * 2 + m ∧ m < 2 := ⟨j / 2, j % 2, by omega, by omega⟩
 have hi : i < l.length := by omega
 obtain ⟨b, o, rfl, c0, c1⟩ := h i hi
 obtain ⟨e0, e1⟩ := fl2_get l i hi
 refine ⟨_, rfl, ?_⟩
 rw [Addr.add_lit, ← Nat.add_assoc]
 have hm3 : m = 0 ∨ m = 1 := by omega
 rcases hm3 with rfl | rfl
 ·rw [Nat.add_zero] at hv ⊢
  rw [c0, ← hv, e0]
 ·rw [c1, ← hv, e1]
theorem row3_cell {B : Nat} {E : TypeId} {w : World} {g n c : Nat} {l : List SpanD} {x y z : Value} (h : w.ownsRow B E 3 (.slice (some ⟨g, 0, none⟩) n c) n (fl3 l ++ [x, y, z])) (j : Nat) (hj : j < n * 3) : w.cell? ⟨g, j, none⟩ = (fl3 l ++ [x, y, z])[j]? := World.ownsRow.cellAt h j hj
theorem row3_len {B : Nat} {E : TypeId} {w : World} {v : Value} {n : Nat} {l : List SpanD} {x y z : Value} (h : w.ownsRow B E 3 v n (fl3 l ++ [x, y, z])) : n = l.length + 1 := by
 have := h.1
 rw [List.length_append, fl3_length] at this
 simp at this
 omega
theorem row2_len {B : Nat} {E : TypeId} {w : World} {v : Value} {n : Nat} {l : List TwD} {x y : Value} (h : w.ownsRow B E 2 v n (fl2 l ++ [x, y])) : n = l.length + 1 := by
 have := h.1
 rw [List.length_append, fl2_length] at this
 simp at this
 omega
theorem row3_at {B : Nat} {E : TypeId} {w : World} {g n c : Nat} {l : List SpanD} {x y z : Value} (h : w.ownsRow B E 3 (.slice (some ⟨g, 0, none⟩) n c) n (fl3 l ++ [x, y, z])) : SpansAt w (some ⟨g, 0, none⟩) l := by
 intro i hi
 have hn := row3_len h
 obtain ⟨e0, e1, e2⟩ := fl3_get l i hi
 have hl := fl3_length l
 refine ⟨g, 0, rfl, ?_, ?_, ?_⟩
 ·rw [Nat.zero_add, World.ownsRow.cellAt h _ (by omega), List.getElem?_append_left (by omega), e0]
 ·rw [Nat.zero_add, World.ownsRow.cellAt h _ (by omega), List.getElem?_append_left (by omega), e1]
 ·rw [Nat.zero_add, World.ownsRow.cellAt h _ (by omega), List.getElem?_append_left (by omega), e2]
theorem row2_at {B : Nat} {E : TypeId} {w : World} {g n c : Nat} {l : List TwD} {x y : Value} (h : w.ownsRow B E 2 (.slice (some ⟨g, 0, none⟩) n c) n (fl2 l ++ [x, y])) : TwAt w (some ⟨g, 0, none⟩) l := by
 intro i hi
 have hn := row2_len h
 obtain ⟨e0, e1⟩ := fl2_get l i hi
 have hl := fl2_length l
 refine ⟨g, 0, rfl, ?_, ?_⟩
 ·rw [Nat.zero_add, World.ownsRow.cellAt h _ (by omega), List.getElem?_append_left (by omega), e0]
 ·rw [Nat.zero_add, World.ownsRow.cellAt h _ (by omega), List.getElem?_append_left (by omega), e1]
theorem row3_last {B : Nat} {E : TypeId} {w : World} {g n c m : Nat} {l : List SpanD} {x y z : Value} (h : w.ownsRow B E 3 (.slice (some ⟨g, 0, none⟩) n c) n (fl3 l ++ [x, y, z])) (hm : l.length = m) : w.cell? ⟨g, m * 3, none⟩ = some x := by
 have hn := row3_len h
 have hl := fl3_length l
 rw [World.ownsRow.cellAt h _ (by omega), List.getElem?_append_right (by omega), show m * 3 - (fl3 l).length = 0 by omega]
 rfl
theorem row2_last {B : Nat} {E : TypeId} {w : World} {g n c m : Nat} {l : List TwD} {x y : Value} (h : w.ownsRow B E 2 (.slice (some ⟨g, 0, none⟩) n c) n (fl2 l ++ [x, y])) (hm : l.length = m) : w.cell? ⟨g, m * 2, none⟩ = some x := by
 have hn := row2_len h
 have hl := fl2_length l
 rw [World.ownsRow.cellAt h _ (by omega), List.getElem?_append_right (by omega), show m * 2 - (fl2 l).length = 0 by omega]
 rfl
theorem row_keep {B B' s : Nat} {E : TypeId} {w w' : World} {a : Option Addr} {n m cap : Nat} {xs : List Value} (h : w.ownsRow B E s (.slice a n cap) m xs) (hb : Below B' w w') (hB : w.heap.size ≤ B') : w'.ownsRow B E s (.slice a n cap) m xs := by
 refine ⟨h.1, ?_⟩
 rcases h.2 with hn | ⟨g, cap, cur, e, hbg, hgg, rest⟩
 ·exact .inl hn
 ·exact .inr ⟨g, cap, cur, e, hbg, by rw [hb.block g (by have := (Array.getElem?_eq_some_iff.1 hgg).1; omega)]; exact hgg, rest⟩
theorem row_cap {B s : Nat} {E : TypeId} {w : World} {a : Option Addr} {n cap : Nat} {xs : List Value} (h : w.ownsRow B E s (.slice a n cap) n xs) : n ≤ cap := by
 rcases h.2 with ⟨e, h0⟩ | ⟨g, cap', cur, e, hb, hg, hnc, -⟩
 ·omega
 ·simp only [Value.slice.injEq] at e
  obtain ⟨-, -, rfl⟩ := e
  exact hnc
/-! ### a row overwritten from its front -/
theorem drop_get {xs ys : List Value} {m : Nat} (h : xs.drop m = ys.drop m) (i : Nat) (hi : m ≤ i) : xs[i]? = ys[i]? := by
 have := congrArg (fun l => l[i - m]?) h
 simp only [List.getElem?_drop] at this
 rwa [show m + (i - m) = i by omega] at this
theorem drop_after {xs ys : List Value} {m k : Nat} (h : xs.drop m = ys.drop m) (hk : m ≤ k) : xs.drop k = ys.drop k := by
 have := congrArg (List.drop (k - m)) h
 simp only [List.drop_drop] at this
 rwa [show m + (k - m) = k by omega] at this
theorem drop_set3 (xs : List Value) (k : Nat) (v0 v1 v2 : Value) : ((((xs.set (k * 3) v0).set (k * 3 + 1) v1).set (k * 3 + 2) v2)).drop ((k + 1) * 3) = xs.drop ((k + 1) * 3) := by
 apply List.ext_getElem?
 intro i
 simp only [List.getElem?_drop, List.getElem?_set]
 rw [if_neg (by omega), if_neg (by omega), if_neg (by omega)]
theorem stored3 {B : Nat} {E : TypeId} {w : World} {g n c : Nat} {xs : List Value} (h : w.ownsRow B E 3 (.slice (some ⟨g, 0, none⟩) n c) n xs) (k : Nat) (v0 v1 v2 : Value) :
  (((w.setCell ⟨g, k * 3, none⟩ v0).setCell ⟨g, k * 3 + 1, none⟩ v1).setCell ⟨g, k * 3 + 2, none⟩ v2).ownsRow B E 3 (.slice (some ⟨g, 0, none⟩) n c) n ((((xs.set (k * 3) v0).set (k * 3 + 1) v1).set (k * 3 + 2) v2)) :=
 (World.ownsRow.stored (World.ownsRow.stored (World.ownsRow.stored h (k * 3) v0).1 (k * 3 + 1) v1).1 (k * 3 + 2) v2).1
theorem grown3 (w : World) (g k : Nat) (v0 v1 v2 : Value) : w.grownBy (((w.setCell ⟨g, k * 3, none⟩ v0).setCell ⟨g, k * 3 + 1, none⟩ v1).setCell ⟨g, k * 3 + 2, none⟩ v2) (some g) := grown_storeN g [v0, v1, v2] (k * 3) w
theorem grown_drewA (w : World) (n : Nat) (row : Option Nat) : w.grownBy (w.drewN n) row := ⟨rfl, rfl, rfl, Nat.le_refl _, fun _ _ _ => rfl⟩
/-- three cells, as a store meets them -/
theorem there_three {w : World} {g o : Nat} (h : w.there g o 3) (x y : Value) : ∃ u0 u1 u2, w.cell? ⟨g, o, none⟩ = some u0 ∧ w.frozen? ⟨g, o, none⟩ = false ∧ (w.setCell ⟨g, o, none⟩ x).cell? ⟨g, o + 1, none⟩ = some u1 ∧ (w.setCell ⟨g, o, none⟩ x).frozen? ⟨g, o + 1, none⟩ = false ∧
  ((w.setCell ⟨g, o, none⟩ x).setCell ⟨g, o + 1, none⟩ y).cell? ⟨g, o + 2, none⟩ = some u2 ∧ ((w.setCell ⟨g, o, none⟩ x).setCell ⟨g, o + 1, none⟩ y).frozen? ⟨g, o + 2, none⟩ = false := by
 obtain ⟨h0, f0⟩ := h 0 (by omega)
 obtain ⟨h1, f1⟩ := h 1 (by omega)
 obtain ⟨h2, f2⟩ := h 2 (by omega)
 obtain ⟨u0, e0⟩ := Option.isSome_iff_exists.1 h0
 obtain ⟨u1, e1⟩ := Option.isSome_iff_exists.1 h1
 obtain ⟨u2, e2⟩ := Option.isSome_iff_exists.1 h2
 refine ⟨u0, u1, u2, e0, f0, ?_, ?_, ?_, ?_⟩
 ·rw [World.cell?_setCell_other _ _ _ _ (by simp)]; exact e1
 ·have := World.frozen?_setCells g [x] o w ⟨g, o + 1, none⟩
  rw [World.setCells, World.setCells] at this
  rw [this]; exact f1
 ·rw [World.cell?_setCell_other _ _ _ _ (by simp), World.cell?_setCell_other _ _ _ _ (by simp)]; exact e2
 ·have := World.frozen?_setCells g [x, y] o w ⟨g, o + 2, none⟩
  rw [World.setCells, World.setCells, World.setCells] at this
  rw [this]; exact f2
/-- a copied row on its way to be overwritten -/
def CpR (w0 : World) (B : Nat) (E : TypeId) (g N c n : Nat) (ys : List Value) (iv : Value) (W : World) : Prop :=
 ∃ (k : Nat) (xs : List Value), k ≤ n ∧ iv = .int .i64 (k : Nat) ∧ W.ownsRow B E 3 (.slice (some ⟨g, 0, none⟩) N c) N xs ∧ xs.drop (k * 3) = ys.drop (k * 3) ∧ w0.grownBy W (some g)
/-! ### entries and brackets compared -/
theorem eqF_same {P : Program} (w : World) (d : Nat) (xs : Array Value) : ∀ fs : List Field, (∀ f ∈ fs, ∃ v, (part f.type xs f.offset).run P w = .ok v w ∧ (Op.equalIn d f.type v v).run P w = .ok true w) → (Op.eqFields d xs xs fs).run P w = .ok true w
 | [], _ => by simp [Op.eqFields, Sem.run_pure]
 | f :: fs, h => by
  have ih := eqF_same w d xs fs (fun g hg => h g (by simp [hg]))
  obtain ⟨v, h1, h2⟩ := h f (by simp)
  unfold Op.eqFields
  split
  ·simp [Sem.run_bind, h1, h2, ih, Result.andThen]
  ·exact ih
theorem eqg_ent (xs ys : Array Value) (x y : Operand) (w : World) : (eqGuard .neq 63 x y (.agg xs) (.agg ys)).run Tryz.prog w = .ok () w := run_eqGuard_agg w .neq 63 x y xs ys (by kernel_rfl)
theorem eqg_brk (xs ys : Array Value) (x y : Operand) (w : World) : (eqGuard .neq 66 x y (.agg xs) (.agg ys)).run Tryz.prog w = .ok () w := run_eqGuard_agg w .neq 66 x y xs ys (by kernel_rfl)
theorem ent_fields : (Tryz.prog.fieldsOf 63).toList.map (fun f => (f.type, f.offset)) = [(21, 0), (21, 1), (22, 2)] := by kernel_rfl
theorem brk_fields : (Tryz.prog.fieldsOf 66).toList.map (fun f => (f.type, f.offset)) = [(21, 0), (21, 1), (64, 2)] := by kernel_rfl
theorem neq_ent (f t v : Int) (w : World) : (binOp .neq 63 (.agg #[.int .i32 f, .int .i32 t, .int .u8 v]) (.agg #[.int .i32 f, .int .i32 t, .int .u8 v])).run Tryz.prog w = .ok (.bool false) w := by
 rw [run_neq_struct, run_equalIn_agg w 9999 63 _ _ (by kernel_rfl) (by kernel_rfl)]
 rw [eqF_same w 9999 _ _ ?_]
 ·rfl
 ·intro g hg
  have hm : (g.type, g.offset) ∈ (Tryz.prog.fieldsOf 63).toList.map (fun f => (f.type, f.offset)) := List.mem_map.2 ⟨g, hg, rfl⟩
  rw [ent_fields] at hm
  simp only [List.mem_cons, Prod.mk.injEq, List.not_mem_nil, or_false] at hm
  rcases hm with ⟨e1, e2⟩ | ⟨e1, e2⟩ | ⟨e1, e2⟩
  ·rw [e1, e2]; exact ⟨.int .i32 f, part_plain w _ _ _ _ .i32 Tryz.underlying21 rfl, (run_equalIn_int w 9998 _ .i32 .i32 f f Tryz.underlying21).trans (by simp)⟩
  ·rw [e1, e2]; exact ⟨.int .i32 t, part_plain w _ _ _ _ .i32 Tryz.underlying21 rfl, (run_equalIn_int w 9998 _ .i32 .i32 t t Tryz.underlying21).trans (by simp)⟩
  ·rw [e1, e2]; exact ⟨.int .u8 v, part_plain w _ _ _ _ .u8 Tryz.underlying22 rfl, (run_equalIn_int w 9998 _ .u8 .u8 v v Tryz.underlying22).trans (by simp)⟩
theorem neq_brk (f t v : Int) (w : World) : (binOp .neq 66 (.agg #[.int .i32 f, .int .i32 t, .int .u8 v]) (.agg #[.int .i32 f, .int .i32 t, .int .u8 v])).run Tryz.prog w = .ok (.bool false) w := by
 rw [run_neq_struct, run_equalIn_agg w 9999 66 _ _ (by kernel_rfl) (by kernel_rfl)]
 rw [eqF_same w 9999 _ _ ?_]
 ·rfl
 ·intro g hg
  have hm : (g.type, g.offset) ∈ (Tryz.prog.fieldsOf 66).toList.map (fun f => (f.type, f.offset)) := List.mem_map.2 ⟨g, hg, rfl⟩
  rw [brk_fields] at hm
  simp only [List.mem_cons, Prod.mk.injEq, List.not_mem_nil, or_false] at hm
  rcases hm with ⟨e1, e2⟩ | ⟨e1, e2⟩ | ⟨e1, e2⟩
  ·rw [e1, e2]; exact ⟨.int .i32 f, part_plain w _ _ _ _ .i32 Tryz.underlying21 rfl, (run_equalIn_int w 9998 _ .i32 .i32 f f Tryz.underlying21).trans (by simp)⟩
  ·rw [e1, e2]; exact ⟨.int .i32 t, part_plain w _ _ _ _ .i32 Tryz.underlying21 rfl, (run_equalIn_int w 9998 _ .i32 .i32 t t Tryz.underlying21).trans (by simp)⟩
  ·rw [e1, e2]; exact ⟨.int .u8 v, part_plain w _ _ _ _ .u8 Tryz.underlying64 rfl, (run_equalIn_int w 9998 _ .u8 .u8 v v Tryz.underlying64).trans (by simp)⟩
theorem Tryz.elemEnt : ElemN Tryz.prog 23 63 (.agg #[.int .i32 0, .int .i32 0, .int .u8 0]) 3 12 := ⟨Tryz.underlying23, by kernel_rfl, by kernel_rfl, by decide⟩
theorem Tryz.elemBrk : ElemN Tryz.prog 24 66 (.agg #[.int .i32 0, .int .i32 0, .int .u8 0]) 3 12 := ⟨Tryz.underlying24, by kernel_rfl, by kernel_rfl, by decide⟩
theorem Tryz.elemTwn : ElemN Tryz.prog 25 68 (.agg #[.int .i32 0, .int .i32 0]) 2 8 := ⟨Tryz.underlying25, by kernel_rfl, by kernel_rfl, by decide⟩
theorem wpList_appSN {P : Program} {t e : TypeId} {z : Value} {size bytes : Nat} (el : ElemN P t e z size bytes) {w : World} {ops : Array Oper} {rest : List Oper} {o : Oper} {act : Act} {Q : Exit → Act → World → Prop} (hgd : o.guard = none) (s x : Operand)
  (ho : o.op = .call { callee := .builtin .append, args := #[s, x], argTypes := #[t, t] }) {B : Nat} {a : Option Addr} {n cap : Nat} {xs : List Value} (hown : w.ownsRow B e size (.slice a n cap) n xs) (hB : B ≤ w.heap.size)
  {a2 : Option Addr} {m c : Nat} {ys : List Value} (hys : ys.length = m * size) (hsrc : ∀ j v, ys[j]? = some v → ∃ ad, a2 = some ad ∧ w.cell? (ad.add j) = some v) (hnone : a2 = none → c = 0) (hone : ∀ u ∈ ys, u.oneCell' = true) (hn : (n + m) * bytes ≤ 140737488355328) (hm : n + m ≤ maxLen)
  (hs : act.eval s = .slice a n cap) (hx : act.eval x = .slice a2 m c)
  (h : ∀ a' cap' w', w'.ownsRow B e size (.slice a' (n + m) cap') (n + m) (xs ++ ys) → w.grownBy w' (Value.slice a n cap).ownBlock → newBlock w (.slice a n cap) (.slice a' (n + m) cap') → wpList P ops Q rest (act.put o.dst (.slice a' (n + m) cap')) w') :
  wpList P ops Q (o :: rest) act w :=
 wpList_plain hgd fun _ hK => wp_appSN el s x ho hown hB hys hsrc hnone hone hn hm hs hx fun a' cap' w' h2 h3 h4 => hK _ _ (h a' cap' w' h2 h3 h4)
end Go.Proofs.YtbmphakfgoompaaGreat
