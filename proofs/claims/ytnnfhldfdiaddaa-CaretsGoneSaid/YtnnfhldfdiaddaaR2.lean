/-
  The walk of CaretsGone. (NOT FINISHED: one sorry.)
-/
import Derived.Test.YtnnfhldfdiaddaaR1
set_option linter.unusedVariables false
namespace Go.Proofs.Ytnnfhldfdiaddaa
open Go.RowKit

structure RemSt (w2 : World) (lv ws : List Int) (i : Nat) (aL : Option Addr) (nL cL : Nat) (aW : Option Addr) (nW cW : Nat) (wr : World) : Prop where
  oL : Own w2.heap.size 23 wr aL nL cL (ivs .i8 (shownL (lv.take i)))
  oW : Own w2.heap.size 3 wr aW nW cW (ivs .i64 (keptW (lv.take i) ws))
  below : Below w2.heap.size w2 wr
  apart : (Value.slice aL nL cL).ownBlock = none ∨ (Value.slice aL nL cL).ownBlock ≠ (Value.slice aW nW cW).ownBlock

theorem RemSt.start (w2 : World) (lv ws : List Int) : RemSt w2 lv ws 0 none 0 0 none 0 0 w2 :=
  ⟨Own.nil _ _ _, Own.nil _ _ _, Below.refl _ _, .inl rfl⟩

theorem RemSt.skip {w2 : World} {lv ws : List Int} {i : Nat} {aL : Option Addr} {nL cL : Nat} {aW : Option Addr} {nW cW : Nat} {wr : World} (h : RemSt w2 lv ws i aL nL cL aW nW cW wr) (hi : i < lv.length) (hg : lv[i] = -1) : RemSt w2 lv ws (i + 1) aL nL cL aW nW cW wr := by
  refine ⟨?_, ?_, h.below, h.apart⟩
  · rw [List.take_succ_eq_append_getElem hi, hg, shownL_push_gone]; exact h.oL
  · rw [List.take_succ_eq_append_getElem hi, hg, keptW_push_gone]; exact h.oW

theorem RemSt.put {w2 : World} {lv ws : List Int} {i : Nat} {aL : Option Addr} {nL cL : Nat} {aW : Option Addr} {nW cW : Nat} {wr : World} (h : RemSt w2 lv ws i aL nL cL aW nW cW wr) (hi : i < lv.length) (hiw : i < ws.length) (hs : 0 ≤ lv[i])
    {a' : Option Addr} {c' : Nat} {w' : World} (ho : Own w2.heap.size 23 w' a' (nL + 1) c' (ivs .i8 (shownL (lv.take i)) ++ [.int .i8 lv[i]])) (hg : wr.grownBy w' (Value.slice aL nL cL).ownBlock) (hb : newBlock wr (.slice aL nL cL) (.slice a' (nL + 1) c'))
    {a2 : Option Addr} {c2 : Nat} {w3 : World} (ho2 : Own w2.heap.size 3 w3 a2 (nW + 1) c2 (ivs .i64 (keptW (lv.take i) ws) ++ [.int .i64 ws[i]])) (hg2 : w'.grownBy w3 (Value.slice aW nW cW).ownBlock) (hb2 : newBlock w' (.slice aW nW cW) (.slice a2 (nW + 1) c2)) :
    RemSt w2 lv ws (i + 1) a' (nL + 1) c' a2 (nW + 1) c2 w3 := by
  have k := h.oW.grown hg (apart_symm h.apart)
  have ap : (Value.slice aW nW cW).ownBlock = none ∨ (Value.slice aW nW cW).ownBlock ≠ (Value.slice a' (nL + 1) c').ownBlock := apart_new hb h.oW.lt (apart_symm h.apart)
  refine ⟨?_, ?_, (h.below.trans (h.oL.app hg h.below.size)).trans (k.app hg2 (Nat.le_trans h.below.size hg.size)), ?_⟩
  · rw [List.take_succ_eq_append_getElem hi, shownL_push _ _ hs, ivs_append]; exact ho.grown hg2 (apart_symm ap)
  · rw [List.take_succ_eq_append_getElem hi, keptW_push _ _ _ (by omega), ivs_append, List.length_take_of_le (Nat.le_of_lt hi), show ws.getD i 0 = ws[i] by simp [hiw]]; exact ho2
  · exact apart_new hb2 ho.lt (apart_symm ap)

def GoneV (m : Nat) (w3 : World) (v : Value) (wr : World) : Prop := ∃ i : Nat, i ≤ m + 1 ∧ v = .int .i64 i ∧ Below w3.heap.size w3 wr
def RemA (w2 : World) (lv ws : List Int) (n : Nat) (u v x : Value) (wr : World) : Prop :=
  ∃ (i : Nat) (aL : Option Addr) (nL cL : Nat) (aW : Option Addr) (nW cW : Nat), i ≤ n ∧ u = .slice aL nL cL ∧ v = .slice aW nW cW ∧ x = .int .i64 i ∧ RemSt w2 lv ws i aL nL cL aW nW cW wr

set_option maxRecDepth 100000 in
set_option maxHeartbeats 4000000 in
theorem gone_walk (w : World) (base : Int) (a : Option Addr) (n cap : Nat) (a1 : Option Addr) (n1 cap1 : Nat) (a2 : Option Addr) (n2 cap2 : Nat) (lv ws : List Int) (c : Int) (wc : (Lit.int .i64 c).wf = true) (h : InOk w base a n cap a1 n1 cap1 lv ws) :
    Calls Try.prog 7 #[.agg #[.int .i8 base, .slice a n cap, .slice a1 n1 cap1, .slice a2 n2 cap2], .int .i64 c] w fun e w' => e = .returned (.bool true) ∧ Below w.heap.size w w' := by
  have hw0 : Below w.heap.size w (w.alloc (.cells #[.int .i8 base, .slice a n cap, .slice a1 n1 cap1, .slice a2 n2 cap2] 28)) := (Below.refl _ w).alloc (Nat.le_refl _) _
  have HW0 := Lib.hid hw0; clear hw0
  have HH := Lib.hid (h.below HW0.out (Nat.le_refl _)); clear h
  have HB0 := Lib.hid (InBox.new w base a n cap a1 n1 cap1 a2 n2 cap2)
  go_enter Try.func7, Try.ntmps7
  go_wp2_with fail
  refine (of_walk _ base a n cap a1 n1 cap1 a2 n2 cap2 lv ws HH.out).mono ?_
  rintro e w1 (⟨rfl, hb⟩ | ⟨g, hL, hn3, rfl, hline, hg, hb⟩)
  · have HB1 := Lib.hid (below_seq HW0.out hb); clear hb
    go_wp2_with fail
    refine (lives_walk _).mono ?_
    rintro e w2 ⟨rfl, hb2⟩
    go_wp2
    go_ret
    exact ⟨rfl, below_seq HB1.out hb2⟩
  · have HLO := Lib.hid hL; clear hL
    have HBX := Lib.hid (HB0.out.below hb (Nat.le_refl _))
    have HI1 := Lib.hid (HH.out.below hb (Nat.le_refl _))
    have HB1 := Lib.hid (below_seq HW0.out hb); clear hb hg
    have HL1 := Lib.hid hline; clear hline
    go_wp2_with fail
    refine (lives_walk _).mono ?_
    rintro e w2 ⟨rfl, hb2⟩
    have HBX2 := Lib.hid (HBX.out.below hb2 (Nat.le_refl _))
    have HI2 := Lib.hid (HI1.out.below hb2 (Nat.le_refl _))
    have HL2 := Lib.hid (HL1.out.below hb2 (Nat.le_refl _))
    have HB2 := Lib.hid (below_seq HB1.out hb2); clear hb2
    clear HB0 HBX HI1 HL1 HB1
    have hnn3 : n ≤ 3000 := by rw [← HI2.out.hl]; exact hn3
    clear hn3
    have HSh := Lib.hid (fun (w' : World) (hb : Below w2.heap.size w2 w') => Shown_walk g base lv ws w' (HL2.out.below hb (Nat.le_refl _)))
    clear HSh
    go_wp2
    go_loopw [6, 7, 8] (RemA w2 lv ws n) (fun _ _ v _ => n - (intOf v).toNat)
    case atStart => exact ⟨0, _, _, _, _, _, _, Nat.zero_le _, rfl, rfl, rfl, RemSt.start _ _ _⟩
    case round =>
      obtain ⟨i, aL, nL, cL, aW, nW, cW, hin, rfl, rfl, rfl, hst⟩ := hrel
      have hnL : nL ≤ n := by
        have h1 := hst.oL.lenI
        have h2 := shownL_le (lv.take i)
        rw [List.length_take] at h2
        have := HI2.out.hl
        omega
      have hnW : nW ≤ n := by
        have h1 := hst.oW.lenI
        have h2 := shownIdx_le (lv.take i)
        rw [keptW_length] at h1
        rw [List.length_take] at h2
        have := HI2.out.hl
        omega
      have HS := Lib.hid hst; clear hst
      have HX := Lib.hid (HBX2.out.below HS.out.below (Nat.le_refl _))
      have c1 := HX.out.r1
      have c2 := HX.out.r2
      have hgx := HX.out.lt
      by_cases hlt : i < n
      · have hil : i < lv.length := by rw [HI2.out.hl]; exact hlt
        have hiw : i < ws.length := by rw [HLO.out.widths]; exact hil
        have hin1 : i < n1 := by rw [← HI2.out.hl1]; exact hiw
        have hib : (i : Int) < (n : Int) := by omega
        have hib1 : (i : Int) < (n1 : Int) := by omega
        obtain ⟨bL, oL, ha⟩ := HI2.out.il.some (by omega)
        subst ha
        obtain ⟨bW, oW, ha⟩ := HI2.out.iw.some (by omega)
        subst ha
        have k1 := (HI2.out.il.below HS.out.below (Nat.le_refl _)).get i hil
        have hlvr := okL_mem lv HLO.out.ok _ (List.getElem_mem hil)
        by_cases hg : lv[i] = -1
        · have HN := Lib.hid (HS.out.skip hil hg)
          rw [hg] at k1
          clear hg hlvr
          go_wp2
          go_roundw
          case rel => exact ⟨i + 1, _, _, _, _, _, _, by omega, rfl, rfl, by go_num, HN.out⟩
          case measure => simp [intOf]; omega
        · have hs0 : 0 ≤ lv[i] := by omega
          have HSZ := Lib.hid HS.out.below.size
          have HOL := Lib.hid HS.out.oL
          have HOW := Lib.hid HS.out.oW
          have hs127 : lv[i] ≤ 126 := hlvr.2
          go_wp2_with (at_builtin; refine wpList_app1x Try.elemLevel rfl (.tmp 42) (.tmp 48) rfl HOL.out HSZ.out (by omega) (by omega) _ rfl _ rfl rfl ?_)
          intro a' c' w' ho hgr hb
          have hB2 := HS.out.below.trans (HOL.out.app hgr HSZ.out)
          have HX2 := Lib.hid (HBX2.out.below hB2 (Nat.le_refl _))
          have d1 := HX2.out.r1
          have d2 := HX2.out.r2
          have k2 := (HI2.out.iw.below hB2 (Nat.le_refl _)).get i hiw
          have HSZ2 := Lib.hid hB2.size; clear hB2
          have HOW2 := Lib.hid (HOW.out.grown hgr (apart_symm HS.out.apart))
          have HA1 := Lib.hid ho; clear ho
          have HA2 := Lib.hid hgr; clear hgr
          have HA3 := Lib.hid hb; clear hb
          go_wp2_with (at_builtin; refine wpList_app1x Try.elemInt rfl (.tmp 50) (.tmp 56) rfl HOW2.out HSZ2.out (by omega) (by omega) _ rfl _ rfl rfl ?_)
          intro a2' c2' w2' ho hgr hb
          have HP := Lib.hid (HS.out.put hil hiw hs0 HA1.out HA2.out HA3.out ho hgr hb)
          clear ho hgr hb
          go_wp2
          go_roundw
          case rel => exact ⟨i + 1, _, _, _, _, _, _, by omega, rfl, rfl, by go_num, HP.out⟩
          case measure => simp [intOf]; omega
      · obtain rfl : i = n := by omega
        have c0 := HX.out.r0
        have hok := okL_mem lv HLO.out.ok
        have htk : lv.take i = lv := List.take_of_length_le (by have := HI2.out.hl; omega)
        have iL := HS.out.oL.ints
        have iW := HS.out.oW.ints
        have eL := HS.out.oL.lenI
        have eW := HS.out.oW.lenI
        rw [htk] at iL iW eL eW
        have hbw := HS.out.below
        clear HS hlt htk
        go_wp2_with fail
        refine (New_walk base aL aW nL cL nW cW _ _ wr HI2.out.hb eL eW (by omega) (by omega) iL iW).mono ?_
        rintro e w3 (⟨hlo2, g2, rfl, hline2, hg2, hb3⟩ | ⟨hne, _⟩)
        rotate_left
        · exact absurd (newErr_ok (gone_line HLO.out hok (okL_shown HLO.out.ok))) hne
        have HB3 := Lib.hid (below_seq hbw hb3)
        obtain ⟨m, hm⟩ : ∃ m, (ord lv).length = m := ⟨_, rfl⟩
        have hm2 : (ord (shownL lv)).length = m := by rw [gone_len hok]; exact hm
        have hm3 : (shownL lv).length = m := by rw [shownIdx_count lv (fun x hx => (hok x hx).1)]; exact hm
        have HM := Lib.hid hm
        have HM2 := Lib.hid hm2
        have HM3e := Lib.hid hm3
        have hmi : m ≤ i := by have := ord_le lv; have := HI2.out.hl; omega
        clear hm hm2 hm3
        have HL3 := Lib.hid (HL2.out.below HB3.out (Nat.le_refl _))
        have HM3 := Lib.hid hline2; clear hline2 hb3 hlo2
        have HGC := Lib.hid (gone_col hok ws)
        clear hbw iL iW eL eW hok hin hnL hnW c0 c1 c2 hgx HX
        obtain ⟨X, hX⟩ : ∃ X, colAt ws (ord lv) m = X := ⟨_, rfl⟩
        have HXe := Lib.hid hX; clear hX
        have HShM := Lib.hid (fun (w' : World) (hb : Below w3.heap.size w3 w') => Shown_walk g2 base (shownL lv) (keptW lv ws) w' (HM3.out.below hb (Nat.le_refl _)))
        have HShL := Lib.hid (fun (w' : World) (hb : Below w3.heap.size w3 w') => Shown_walk g base lv ws w' (HL3.out.below hb (Nat.le_refl _)))
        have HWiM := Lib.hid (fun (w' : World) (hb : Below w3.heap.size w3 w') => Width_walk g2 base (shownL lv) (keptW lv ws) w' (HM3.out.below hb (Nat.le_refl _)))
        have HWiL := Lib.hid (fun (w' : World) (hb : Below w3.heap.size w3 w') => Width_walk g base lv ws w' (HL3.out.below hb (Nat.le_refl _)))
        have HLeM := Lib.hid (fun (w' : World) (hb : Below w3.heap.size w3 w') => Len_walk g2 base (shownL lv) (keptW lv ws) w' (HM3.out.below hb (Nat.le_refl _)))
        have HCoM := Lib.hid (fun (w' : World) (v : Nat) (hv : v ≤ (ord (shownL lv)).length) (hb : Below w3.heap.size w3 w') => Column_walk g2 base (shownL lv) (keptW lv ws) w' v (HM3.out.below hb (Nat.le_refl _)) hv)
        have HCoL := Lib.hid (fun (w' : World) (v : Nat) (hv : v ≤ (ord lv).length) (hb : Below w3.heap.size w3 w') => Column_walk g base lv ws w' v (HL3.out.below hb (Nat.le_refl _)) hv)
        have hWM := HWiM.out
        rw [HM2.out, HGC.out, HXe.out] at hWM
        have HWiM := Lib.hid hWM; clear hWM
        have hWL := HWiL.out
        rw [HM.out, HXe.out] at hWL
        have HWiL := Lib.hid hWL; clear hWL
        have h := HShM.out; rw [HM2.out] at h
        have HShM := Lib.hid h; clear h
        have h := HShL.out; rw [HM.out] at h
        have HShL := Lib.hid h; clear h
        have h := HLeM.out; rw [HM3e.out] at h
        have HLeM := Lib.hid h; clear h
        have h := HCoL.out; rw [HM.out] at h
        have HCoL := Lib.hid h; clear h
        have h := HCoM.out; simp only [HM2.out, HGC.out] at h
        have HCoM := Lib.hid h; clear h
        go_wp2_with fail
        refine (HShM.out _ (Below.refl _ _)).mono ?_
        rintro e w' ⟨rfl, rfl⟩
        go_wp2_with fail
        refine (HShL.out _ (Below.refl _ _)).mono ?_
        rintro e w' ⟨rfl, rfl⟩
        go_wp2_with fail
        refine (HWiM.out _ (Below.refl _ _)).mono ?_
        rintro e w' ⟨rfl, d1, rfl⟩
        have HD1 := Lib.hid (below_drewN (Below.refl w3.heap.size w3) d1)
        go_wp2_with fail
        refine (HWiL.out _ HD1.out).mono ?_
        rintro e w' ⟨rfl, d2, rfl⟩
        have HD2 := Lib.hid (below_drewN (Below.refl w3.heap.size w3) (d1 + d2))
        go_wp2_with fail
        refine (HLeM.out _ HD2.out).mono ?_
        rintro e w' ⟨rfl, rfl⟩
        go_wp2_with fail
        refine (HShM.out _ HD2.out).mono ?_
        rintro e w' ⟨rfl, rfl⟩
        have HHL := Lib.hid (fun (w' : World) (hb : Below w3.heap.size w3 w') => Hit_spec g base lv ws w' c (HL3.out.below hb (Nat.le_refl _)))
        have HHM := Lib.hid (fun (w' : World) (hb : Below w3.heap.size w3 w') => Hit_spec g2 base (shownL lv) (keptW lv ws) w' c (HM3.out.below hb (Nat.le_refl _)))
        have HOne := Lib.hid (fun v ed v2 ed2 h h2 => HitS.one (v := v) (ed := ed) (v2 := v2) (ed2 := ed2) HLO.out.range (c := c) h h2 (HM2.out.trans HM.out.symm) HGC.out)
        go_wp2
        go_loopw [11] (GoneV m w3) (fun v _ => m + 1 - (intOf v).toNat)
        case atStart => exact ⟨0, Nat.zero_le _, rfl, HD2.out⟩
        case round =>
          obtain ⟨v, hv, rfl, hbel⟩ := hrel
          have HB4 := Lib.hid hbel; clear hbel
          go_wp2_with fail
          refine (HShM.out _ HB4.out).mono ?_
          rintro e w' ⟨rfl, rfl⟩
          by_cases hvm : v ≤ m
          · obtain ⟨y, hy⟩ : ∃ y, colAt ws (ord lv) v = y := ⟨_, rfl⟩
            have hc1 := HCoL.out wr v hvm HB4.out
            have hc2 := HCoM.out wr v hvm HB4.out
            rw [hy] at hc1 hc2
            have HC1 := Lib.hid hc1
            have HC2 := Lib.hid hc2
            clear hc1 hc2 hy
            go_wp2_with fail
            refine HC1.out.mono ?_
            rintro e w' ⟨rfl, rfl⟩
            go_wp2_with fail
            refine HC2.out.mono ?_
            rintro e w' ⟨rfl, rfl⟩
            go_wp2
            go_roundw
            case rel => exact ⟨v + 1, by omega, by go_num, HB4.out⟩
            case measure => simp [intOf]; omega
          · go_wp2_with fail
            refine (HHL.out _ HB4.out).mono ?_
            rintro e w5 ⟨v1, ed1, rfl, hs1, _, hb5⟩
            have HS1 := Lib.hid hs1; clear hs1
            have HB5 := Lib.hid (below_seq HB4.out hb5); clear hb5
            go_wp2_with fail
            refine (HHM.out _ HB5.out).mono ?_
            rintro e w6 ⟨v2, ed2, rfl, hs2, _, hb6⟩
            obtain ⟨rfl, rfl⟩ := HOne.out _ _ _ _ HS1.out hs2
            clear hs2
            have HB6 := Lib.hid (below_seq HB5.out hb6); clear hb6
            go_wp2
            go_ret
            exact ⟨rfl, below_seq HB2.out (HB3.out.trans (HB6.out.mono HB3.out.size))⟩
end Go.Proofs.Ytnnfhldfdiaddaa
