/-
  The walk of CaretsHit.
-/
import Derived.Test.YtnnfhldfdiaddaaH1
import Derived.Deep.DeepCutAuto
set_option linter.unusedVariables false
namespace Go.Proofs.Ytnnfhldfdiaddaa
open Go.RowKit

def HitO (f : Int) (w4 : World) (v : Value) (wr : World) : Prop := ∃ c : Int, f ≤ c ∧ c ≤ f + 60 ∧ v = .int .i64 c ∧ Below w4.heap.size w4 wr
def HitI (ws o : List Int) (m : Nat) (w5 : World) (vl vk : Value) (wr : World) : Prop := ∃ k : Nat, k ≤ m ∧ vk = .int .i64 k ∧ vl = .int .i64 (colAt ws o k) ∧ Below w5.heap.size w5 wr

def HitCut (P : Prop) (w7 : World) (q : Addr) (u : Value) (s : Value) (wx : World) : Prop := ∃ b : Bool, s = .bool b ∧ (b = true ↔ P) ∧ wx.cell? q = some u ∧ Below w7.heap.size w7 wx

set_option maxRecDepth 100000 in
set_option maxHeartbeats 4000000 in
theorem hit_walk (w : World) (base : Int) (a : Option Addr) (n cap : Nat) (a1 : Option Addr) (n1 cap1 : Nat) (a2 : Option Addr) (n2 cap2 : Nat) (lv ws : List Int) (f : Int) (h : InOk w base a n cap a1 n1 cap1 lv ws) (hf : -9223372036854775808 ≤ f ∧ f ≤ 9223372036854775807) :
    Calls Try.prog 5 #[.agg #[.int .i8 base, .slice a n cap, .slice a1 n1 cap1, .slice a2 n2 cap2], .int .i64 f] w fun e w' => e = .returned (.bool true) ∧ Below w.heap.size w w' := by
  have hw0 : Below w.heap.size w (w.alloc (.cells #[.int .i8 base, .slice a n cap, .slice a1 n1 cap1, .slice a2 n2 cap2] 28)) := (Below.refl _ w).alloc (Nat.le_refl _) _
  have HW0 := Lib.hid hw0; clear hw0
  have HH := Lib.hid (h.below HW0.out (Nat.le_refl _)); clear h
  have HB0 := Lib.hid (InBox.new w base a n cap a1 n1 cap1 a2 n2 cap2)
  obtain ⟨hf0, hf1⟩ := hf
  go_enter Try.func5, Try.ntmps5
  go_wp2_with fail
  refine (of_walk _ base a n cap a1 n1 cap1 a2 n2 cap2 lv ws HH.out).mono ?_
  rintro e w1 (⟨rfl, hb⟩ | ⟨g, hL, hn3, rfl, hline, hg, hb⟩)
  · have HB1 := Lib.hid (below_seq HW0.out hb); clear hb
    go_wp2_with fail
    refine (lives_walk _).mono ?_
    rintro e w2 ⟨rfl, hb2⟩
    go_wp2
    go_ret
    exact ⟨rfl, below_seq HB1.out hb2⟩
  · have HLO := Lib.hid hL; clear hL
    have HBX := Lib.hid (HB0.out.below hb (Nat.le_refl _))
    have HI1 := Lib.hid (HH.out.below hb (Nat.le_refl _))
    have HB1 := Lib.hid (below_seq HW0.out hb); clear hb hg
    have HL1 := Lib.hid hline; clear hline
    go_wp2_with fail
    refine (lives_walk _).mono ?_
    rintro e w2 ⟨rfl, hb2⟩
    have HBX2 := Lib.hid (HBX.out.below hb2 (Nat.le_refl _))
    have HI2 := Lib.hid (HI1.out.below hb2 (Nat.le_refl _))
    have HL2 := Lib.hid (HL1.out.below hb2 (Nat.le_refl _))
    have HB2 := Lib.hid (below_seq HB1.out hb2); clear hb2
    clear HB0 HBX HI1 HL1 HB1
    have r1 := HBX2.out.r1
    have hnn3 : n ≤ 3000 := by rw [← HI2.out.hl]; exact hn3
    have hbx := HBX2.out.lt
    clear hn3
    go_wp2_with fail
    refine (Order_walk a n cap lv _ HI2.out.hl (by omega) HLO.out.ok HI2.out.il).mono ?_
    rintro e w3 ⟨a3, m, cap3, rfl, hown3, hb3⟩
    have hm := Lib.hid hown3.lenI
    have hmn : m ≤ n := by have := hown3.lenI; have := ord_le lv; have := HI2.out.hl; omega
    have HO3 := Lib.hid hown3; clear hown3
    have HBX3 := Lib.hid (HBX2.out.below hb3 (Nat.le_refl _))
    have HI3 := Lib.hid (HI2.out.below hb3 (Nat.le_refl _))
    have HL3 := Lib.hid (HL2.out.below hb3 (Nat.le_refl _))
    have HB3 := Lib.hid (below_seq HB2.out hb3); clear hb3
    clear r1 HBX2 HI2 HL2 HB2
    have hWb := colAt_mono HLO.out.range (ord lv) (ord lv).length
    have hWb2 : (ord lv).length ≤ 3000 := by rw [hm.out]; omega
    have HWi := Lib.hid (fun (w' : World) (hb : Below w3.heap.size w3 w') => Width_walk g base lv ws w' (HL3.out.below hb (Nat.le_refl _)))
    obtain ⟨W, hW⟩ : ∃ W, W = colAt ws (ord lv) (ord lv).length := ⟨_, rfl⟩
    rw [← hW] at HWi hWb
    have hW0 : 0 ≤ W := hWb.1
    have hW1 : W ≤ 3145728000 := by omega
    clear hWb hWb2
    have HWe := Lib.hid hW; clear hW
    by_cases hbad : f < -1 ∨ (¬ f < -1 ∧ W < f)
    · rcases hbad with hbad | ⟨hbad, hbad2⟩
      · go_wp2_with fail
        have hb4 := Below.refl w3.heap.size w3
        obtain ⟨w4, rfl⟩ : ∃ w4 : World, w4 = w3 := ⟨_, rfl⟩
        have HB4 := Lib.hid hb4; clear hb4
        go_loopw [8] (HitO (-1) w4) (fun v _ => ((-1) + 61 - intOf v).toNat)
        case atStart => exact ⟨(-1), by omega, by omega, rfl, Below.refl _ _⟩
        case round =>
          obtain ⟨c, hc0, hc1, rfl, hbel⟩ := hrel
          have HB5 := Lib.hid (HB4.out.trans (hbel.mono HB4.out.size))
          have HBe := Lib.hid hbel; clear hbel
          have hcb : -1 ≤ c ∧ c ≤ 3145728060 := by omega
          obtain ⟨hcb0, hcb1⟩ := hcb
          by_cases hgo : c ≤ W ∧ c < (-1) + 60
          · obtain ⟨hcW, hc60⟩ := hgo
            go_wp2_with fail
            refine (HWi.out _ HB5.out).mono ?_
            rintro e w' ⟨rfl, d1, rfl⟩
            have hb6 := below_drewN HB5.out d1
            have hbe6 := below_drewN HBe.out d1
            generalize wr.drewN d1 = w6 at *
            have HB6 := Lib.hid hb6; clear hb6
            have HBe6 := Lib.hid hbe6; clear hbe6
            go_wp2_with fail
            refine (Hit_any g base lv ws _ c (HL3.out.below HB6.out (Nat.le_refl _))).mono ?_
            rintro e w7 ⟨v, ed, rfl, hv, hed, hfacts, hb7⟩
            have HB7 := Lib.hid (below_seq HB6.out hb7)
            have HBe7 := Lib.hid (below_seq HBe6.out hb7); clear hb7
            have HF := Lib.hid hfacts; clear hfacts
            have HV := Lib.hid hv; clear hv
            have HED := Lib.hid hed
            go_wp2_with fail
            refine (Place_any g base lv ws _ v ed (HL3.out.below HB7.out (Nat.le_refl _)) HV.out HED.out).mono ?_
            rintro e w' ⟨rfl, rfl⟩
            have HLaw := Lib.hid (fun k hk h1 h2 => hit_law (base := base) HF.out (k := k) hk h1 h2)
            generalize placeAt base lv v (decide (ed = 1)) = p at *
            clear hed
            go_wp2
            go_loopw [13, 14] (HitI ws (ord lv) m w7) (fun _ k _ => m - (intOf k).toNat)
            case atStart => exact ⟨0, Nat.zero_le _, rfl, by rw [colAt_zero], Below.refl _ _⟩
            case round =>
              obtain ⟨k, hk, rfl, rfl, hbel⟩ := hrel
              have HB8 := Lib.hid (below_seq HB7.out hbel)
              have HBe8 := Lib.hid (below_seq HBe7.out hbel)
              have HBk := Lib.hid hbel; clear hbel
              by_cases hkm : k < m
              · have hko : k < (ord lv).length := by rw [hm.out]; exact hkm
                obtain ⟨x, hxe, hxl⟩ := ord_nonneg lv k hko
                obtain ⟨g3, ha, _⟩ := HO3.out.at (by omega)
                subst ha
                have c3 := (HO3.out.ints.below HB8.out (Nat.le_refl _)).get k hko
                rw [hxe] at c3
                simp only [Nat.zero_add] at c3
                have hxw : x < ws.length := by rw [HLO.out.widths]; exact hxl
                obtain ⟨bw, ow, ha⟩ := HI3.out.iw.some (by omega)
                subst ha
                have cw := (HI3.out.iw.below HB8.out (Nat.le_refl _)).get x hxw
                have hxn1 : x < n1 := by rw [← HI3.out.hl1]; exact hxw
                have hx3 : x < 3000 := by have := HI3.out.hl; omega
                have hxb : (x : Int) < (n1 : Int) := by omega
                have hkb : (k : Int) < (m : Int) := by omega
                have hsu := colAt_succ ws (ord lv) k hko
                rw [hxe] at hsu
                rw [show ws.getD ((x : Int)).toNat 0 = ws[x] by simp [hxw]] at hsu
                have hb0 := colAt_mono HLO.out.range (ord lv) k
                have hb1 := ws_getD HLO.out.range x
                rw [show ws.getD x 0 = ws[x] by simp [hxw]] at hb1
                have hl := HLaw.out k hko
                rw [hsu, hxe] at hl
                have r2 := (HBX3.out.below HB8.out (Nat.le_refl _)).r2
                have HS := Lib.hid hsu; clear hsu
                generalize colAt ws (ord lv) k = y at *
                generalize ws[x] = z at *
                clear hxe hko
                obtain ⟨hy0, hy1⟩ := hb0
                obtain ⟨hz0, hz1⟩ := hb1
                have hy2 : y ≤ 3145728000 := by omega
                clear hy1
                have HL := Lib.hid hl; clear hl
                have hcin : Hid (y ≤ c → c < y + z → (c - y < y + z - c ∧ ((ed : Int) == 2) = true ∧ ((v : Int) != (k : Int)) = false ∧ (p = (x : Int) ∨ p = (x : Int) + 1)) ∨ (¬ c - y < y + z - c ∧ ((ed : Int) == 2) = false ∧ ((v : Int) != (k : Int) + 1) = false ∧ (p = (x : Int) ∨ p = (x : Int) + 1))) := by
                  refine Lib.hid (fun h1 h2 => ?_)
                  rcases HL.out h1 h2 with ⟨hn1, he, hv1, hp⟩ | ⟨hn1, he, hv1, hp⟩
                  · exact .inl ⟨by omega, by simp [he], by simp [hv1], hp⟩
                  · exact .inr ⟨by omega, by simp [he], by simp [hv1], hp⟩
                go_wp2
                go_quiet (fail)
                go_upto_region 21 with fail
                go_cut [93] (HitCut (y ≤ c ∧ c < y + z) w7 ⟨g3, k, none⟩ (.int .i64 (x : Int)))
                case first =>
                  have hin : (y ≤ c ∧ c < y + z) ∨ ¬ y ≤ c ∨ (y ≤ c ∧ ¬ c < y + z) := by omega
                  rcases hin with ⟨hin1, hin2⟩ | hin1 | ⟨hin1, hin2⟩
                  · go_wp2
                    go_meet
                    exact ⟨true, rfl, by simp; omega, by simpa using c3, below_drewN HBk.out _⟩
                  · go_wp2
                    go_meet
                    exact ⟨false, rfl, by simp; omega, by simpa using c3, below_drewN HBk.out _⟩
                  · go_wp2
                    go_meet
                    exact ⟨false, rfl, by simp; omega, by simpa using c3, below_drewN HBk.out _⟩
                case rest =>
                  obtain ⟨bb, rfl, hbb, c3', hbc⟩ := hcut
                  have HBc := Lib.hid hbc; clear hbc
                  have HBB := Lib.hid hbb; clear hbb
                  go_upto_if 93 with fail
                  go_cut [16] (fun s16 wx => Below w7.heap.size w7 wx)
                  case first =>
                    cases bb with
                    | true =>
                      obtain ⟨hin1, hin2⟩ := HBB.out.1 rfl
                      rcases hcin.out hin1 hin2 with ⟨hn1, he, hv1, hp⟩ | ⟨hn1, he, hv1, hp⟩
                      · rcases hp with hp | hp
                        · have hpx : (p != (x : Int)) = false := by simp [hp]
                          clear hp
                          go_wp2
                          go_meet
                          exact HBc.out
                        · have hpx : (p != (x : Int)) = true := by simp [hp]; omega
                          have hpx1 : (p != (x : Int) + 1) = false := by simp [hp]
                          clear hp
                          go_wp2
                          go_meet
                          exact HBc.out
                      · rcases hp with hp | hp
                        · have hpx : (p != (x : Int)) = false := by simp [hp]
                          clear hp
                          go_wp2
                          go_meet
                          exact HBc.out
                        · have hpx : (p != (x : Int)) = true := by simp [hp]; omega
                          have hpx1 : (p != (x : Int) + 1) = false := by simp [hp]
                          clear hp
                          go_wp2
                          go_meet
                          exact HBc.out
                    | false =>
                      go_wp2
                      go_meet
                      exact HBc.out
                  case rest =>
                    have HCut := Lib.hid hcut; clear hcut
                    go_wp2
                    go_roundw
                    case rel => exact ⟨k + 1, by omega, by go_num, by rw [HS.out], HCut.out⟩
                    case measure => simp [intOf]; omega
              · go_wp2
                go_roundw
                case rel => exact ⟨c + 1, by omega, by omega, by go_num, HBe8.out⟩
                case measure => simp [intOf]; omega
          · have hgo2 : ¬ c ≤ W ∨ (c ≤ W ∧ ¬ c < (-1) + 60) := by omega
            clear hgo
            rcases hgo2 with hgo2 | ⟨hgo2, hgo3⟩
            all_goals
              go_wp2_with fail
              refine (HWi.out _ HB5.out).mono ?_
              rintro e w' ⟨rfl, d1, rfl⟩
              go_wp2
              go_ret
              exact ⟨rfl, below_drewN (below_seq HB3.out HB5.out) _⟩
      · go_wp2_with fail
        refine (HWi.out _ (Below.refl _ _)).mono ?_
        rintro e w' ⟨rfl, d0, rfl⟩
        have hb4 := below_drewN (Below.refl w3.heap.size w3) d0
        generalize w3.drewN d0 = w4 at *
        go_wp2_with fail
        have HB4 := Lib.hid hb4; clear hb4
        go_loopw [8] (HitO (-1) w4) (fun v _ => ((-1) + 61 - intOf v).toNat)
        case atStart => exact ⟨(-1), by omega, by omega, rfl, Below.refl _ _⟩
        case round =>
          obtain ⟨c, hc0, hc1, rfl, hbel⟩ := hrel
          have HB5 := Lib.hid (HB4.out.trans (hbel.mono HB4.out.size))
          have HBe := Lib.hid hbel; clear hbel
          have hcb : -1 ≤ c ∧ c ≤ 3145728060 := by omega
          obtain ⟨hcb0, hcb1⟩ := hcb
          by_cases hgo : c ≤ W ∧ c < (-1) + 60
          · obtain ⟨hcW, hc60⟩ := hgo
            go_wp2_with fail
            refine (HWi.out _ HB5.out).mono ?_
            rintro e w' ⟨rfl, d1, rfl⟩
            have hb6 := below_drewN HB5.out d1
            have hbe6 := below_drewN HBe.out d1
            generalize wr.drewN d1 = w6 at *
            have HB6 := Lib.hid hb6; clear hb6
            have HBe6 := Lib.hid hbe6; clear hbe6
            go_wp2_with fail
            refine (Hit_any g base lv ws _ c (HL3.out.below HB6.out (Nat.le_refl _))).mono ?_
            rintro e w7 ⟨v, ed, rfl, hv, hed, hfacts, hb7⟩
            have HB7 := Lib.hid (below_seq HB6.out hb7)
            have HBe7 := Lib.hid (below_seq HBe6.out hb7); clear hb7
            have HF := Lib.hid hfacts; clear hfacts
            have HV := Lib.hid hv; clear hv
            have HED := Lib.hid hed
            go_wp2_with fail
            refine (Place_any g base lv ws _ v ed (HL3.out.below HB7.out (Nat.le_refl _)) HV.out HED.out).mono ?_
            rintro e w' ⟨rfl, rfl⟩
            have HLaw := Lib.hid (fun k hk h1 h2 => hit_law (base := base) HF.out (k := k) hk h1 h2)
            generalize placeAt base lv v (decide (ed = 1)) = p at *
            clear hed
            go_wp2
            go_loopw [13, 14] (HitI ws (ord lv) m w7) (fun _ k _ => m - (intOf k).toNat)
            case atStart => exact ⟨0, Nat.zero_le _, rfl, by rw [colAt_zero], Below.refl _ _⟩
            case round =>
              obtain ⟨k, hk, rfl, rfl, hbel⟩ := hrel
              have HB8 := Lib.hid (below_seq HB7.out hbel)
              have HBe8 := Lib.hid (below_seq HBe7.out hbel)
              have HBk := Lib.hid hbel; clear hbel
              by_cases hkm : k < m
              · have hko : k < (ord lv).length := by rw [hm.out]; exact hkm
                obtain ⟨x, hxe, hxl⟩ := ord_nonneg lv k hko
                obtain ⟨g3, ha, _⟩ := HO3.out.at (by omega)
                subst ha
                have c3 := (HO3.out.ints.below HB8.out (Nat.le_refl _)).get k hko
                rw [hxe] at c3
                simp only [Nat.zero_add] at c3
                have hxw : x < ws.length := by rw [HLO.out.widths]; exact hxl
                obtain ⟨bw, ow, ha⟩ := HI3.out.iw.some (by omega)
                subst ha
                have cw := (HI3.out.iw.below HB8.out (Nat.le_refl _)).get x hxw
                have hxn1 : x < n1 := by rw [← HI3.out.hl1]; exact hxw
                have hx3 : x < 3000 := by have := HI3.out.hl; omega
                have hxb : (x : Int) < (n1 : Int) := by omega
                have hkb : (k : Int) < (m : Int) := by omega
                have hsu := colAt_succ ws (ord lv) k hko
                rw [hxe] at hsu
                rw [show ws.getD ((x : Int)).toNat 0 = ws[x] by simp [hxw]] at hsu
                have hb0 := colAt_mono HLO.out.range (ord lv) k
                have hb1 := ws_getD HLO.out.range x
                rw [show ws.getD x 0 = ws[x] by simp [hxw]] at hb1
                have hl := HLaw.out k hko
                rw [hsu, hxe] at hl
                have r2 := (HBX3.out.below HB8.out (Nat.le_refl _)).r2
                have HS := Lib.hid hsu; clear hsu
                generalize colAt ws (ord lv) k = y at *
                generalize ws[x] = z at *
                clear hxe hko
                obtain ⟨hy0, hy1⟩ := hb0
                obtain ⟨hz0, hz1⟩ := hb1
                have hy2 : y ≤ 3145728000 := by omega
                clear hy1
                have HL := Lib.hid hl; clear hl
                have hcin : Hid (y ≤ c → c < y + z → (c - y < y + z - c ∧ ((ed : Int) == 2) = true ∧ ((v : Int) != (k : Int)) = false ∧ (p = (x : Int) ∨ p = (x : Int) + 1)) ∨ (¬ c - y < y + z - c ∧ ((ed : Int) == 2) = false ∧ ((v : Int) != (k : Int) + 1) = false ∧ (p = (x : Int) ∨ p = (x : Int) + 1))) := by
                  refine Lib.hid (fun h1 h2 => ?_)
                  rcases HL.out h1 h2 with ⟨hn1, he, hv1, hp⟩ | ⟨hn1, he, hv1, hp⟩
                  · exact .inl ⟨by omega, by simp [he], by simp [hv1], hp⟩
                  · exact .inr ⟨by omega, by simp [he], by simp [hv1], hp⟩
                go_wp2
                go_quiet (fail)
                go_upto_region 21 with fail
                go_cut [93] (HitCut (y ≤ c ∧ c < y + z) w7 ⟨g3, k, none⟩ (.int .i64 (x : Int)))
                case first =>
                  have hin : (y ≤ c ∧ c < y + z) ∨ ¬ y ≤ c ∨ (y ≤ c ∧ ¬ c < y + z) := by omega
                  rcases hin with ⟨hin1, hin2⟩ | hin1 | ⟨hin1, hin2⟩
                  · go_wp2
                    go_meet
                    exact ⟨true, rfl, by simp; omega, by simpa using c3, below_drewN HBk.out _⟩
                  · go_wp2
                    go_meet
                    exact ⟨false, rfl, by simp; omega, by simpa using c3, below_drewN HBk.out _⟩
                  · go_wp2
                    go_meet
                    exact ⟨false, rfl, by simp; omega, by simpa using c3, below_drewN HBk.out _⟩
                case rest =>
                  obtain ⟨bb, rfl, hbb, c3', hbc⟩ := hcut
                  have HBc := Lib.hid hbc; clear hbc
                  have HBB := Lib.hid hbb; clear hbb
                  go_upto_if 93 with fail
                  go_cut [16] (fun s16 wx => Below w7.heap.size w7 wx)
                  case first =>
                    cases bb with
                    | true =>
                      obtain ⟨hin1, hin2⟩ := HBB.out.1 rfl
                      rcases hcin.out hin1 hin2 with ⟨hn1, he, hv1, hp⟩ | ⟨hn1, he, hv1, hp⟩
                      · rcases hp with hp | hp
                        · have hpx : (p != (x : Int)) = false := by simp [hp]
                          clear hp
                          go_wp2
                          go_meet
                          exact HBc.out
                        · have hpx : (p != (x : Int)) = true := by simp [hp]; omega
                          have hpx1 : (p != (x : Int) + 1) = false := by simp [hp]
                          clear hp
                          go_wp2
                          go_meet
                          exact HBc.out
                      · rcases hp with hp | hp
                        · have hpx : (p != (x : Int)) = false := by simp [hp]
                          clear hp
                          go_wp2
                          go_meet
                          exact HBc.out
                        · have hpx : (p != (x : Int)) = true := by simp [hp]; omega
                          have hpx1 : (p != (x : Int) + 1) = false := by simp [hp]
                          clear hp
                          go_wp2
                          go_meet
                          exact HBc.out
                    | false =>
                      go_wp2
                      go_meet
                      exact HBc.out
                  case rest =>
                    have HCut := Lib.hid hcut; clear hcut
                    go_wp2
                    go_roundw
                    case rel => exact ⟨k + 1, by omega, by go_num, by rw [HS.out], HCut.out⟩
                    case measure => simp [intOf]; omega
              · go_wp2
                go_roundw
                case rel => exact ⟨c + 1, by omega, by omega, by go_num, HBe8.out⟩
                case measure => simp [intOf]; omega
          · have hgo2 : ¬ c ≤ W ∨ (c ≤ W ∧ ¬ c < (-1) + 60) := by omega
            clear hgo
            rcases hgo2 with hgo2 | ⟨hgo2, hgo3⟩
            all_goals
              go_wp2_with fail
              refine (HWi.out _ HB5.out).mono ?_
              rintro e w' ⟨rfl, d1, rfl⟩
              go_wp2
              go_ret
              exact ⟨rfl, below_drewN (below_seq HB3.out HB5.out) _⟩
    · have hok1 : ¬ f < -1 := by omega
      have hok2 : ¬ W < f := by omega
      clear hbad
      go_wp2_with fail
      refine (HWi.out _ (Below.refl _ _)).mono ?_
      rintro e w' ⟨rfl, d0, rfl⟩
      have hb4 := below_drewN (Below.refl w3.heap.size w3) d0
      generalize w3.drewN d0 = w4 at *
      go_wp2_with fail
      have HB4 := Lib.hid hb4; clear hb4
      go_loopw [8] (HitO f w4) (fun v _ => (f + 61 - intOf v).toNat)
      case atStart => exact ⟨f, by omega, by omega, rfl, Below.refl _ _⟩
      case round =>
        obtain ⟨c, hc0, hc1, rfl, hbel⟩ := hrel
        have HB5 := Lib.hid (HB4.out.trans (hbel.mono HB4.out.size))
        have HBe := Lib.hid hbel; clear hbel
        have hcb : -1 ≤ c ∧ c ≤ 3145728060 := by omega
        obtain ⟨hcb0, hcb1⟩ := hcb
        by_cases hgo : c ≤ W ∧ c < f + 60
        · obtain ⟨hcW, hc60⟩ := hgo
          go_wp2_with fail
          refine (HWi.out _ HB5.out).mono ?_
          rintro e w' ⟨rfl, d1, rfl⟩
          have hb6 := below_drewN HB5.out d1
          have hbe6 := below_drewN HBe.out d1
          generalize wr.drewN d1 = w6 at *
          have HB6 := Lib.hid hb6; clear hb6
          have HBe6 := Lib.hid hbe6; clear hbe6
          go_wp2_with fail
          refine (Hit_any g base lv ws _ c (HL3.out.below HB6.out (Nat.le_refl _))).mono ?_
          rintro e w7 ⟨v, ed, rfl, hv, hed, hfacts, hb7⟩
          have HB7 := Lib.hid (below_seq HB6.out hb7)
          have HBe7 := Lib.hid (below_seq HBe6.out hb7); clear hb7
          have HF := Lib.hid hfacts; clear hfacts
          have HV := Lib.hid hv; clear hv
          have HED := Lib.hid hed
          go_wp2_with fail
          refine (Place_any g base lv ws _ v ed (HL3.out.below HB7.out (Nat.le_refl _)) HV.out HED.out).mono ?_
          rintro e w' ⟨rfl, rfl⟩
          have HLaw := Lib.hid (fun k hk h1 h2 => hit_law (base := base) HF.out (k := k) hk h1 h2)
          generalize placeAt base lv v (decide (ed = 1)) = p at *
          clear hed
          go_wp2
          go_loopw [13, 14] (HitI ws (ord lv) m w7) (fun _ k _ => m - (intOf k).toNat)
          case atStart => exact ⟨0, Nat.zero_le _, rfl, by rw [colAt_zero], Below.refl _ _⟩
          case round =>
            obtain ⟨k, hk, rfl, rfl, hbel⟩ := hrel
            have HB8 := Lib.hid (below_seq HB7.out hbel)
            have HBe8 := Lib.hid (below_seq HBe7.out hbel)
            have HBk := Lib.hid hbel; clear hbel
            by_cases hkm : k < m
            · have hko : k < (ord lv).length := by rw [hm.out]; exact hkm
              obtain ⟨x, hxe, hxl⟩ := ord_nonneg lv k hko
              obtain ⟨g3, ha, _⟩ := HO3.out.at (by omega)
              subst ha
              have c3 := (HO3.out.ints.below HB8.out (Nat.le_refl _)).get k hko
              rw [hxe] at c3
              simp only [Nat.zero_add] at c3
              have hxw : x < ws.length := by rw [HLO.out.widths]; exact hxl
              obtain ⟨bw, ow, ha⟩ := HI3.out.iw.some (by omega)
              subst ha
              have cw := (HI3.out.iw.below HB8.out (Nat.le_refl _)).get x hxw
              have hxn1 : x < n1 := by rw [← HI3.out.hl1]; exact hxw
              have hx3 : x < 3000 := by have := HI3.out.hl; omega
              have hxb : (x : Int) < (n1 : Int) := by omega
              have hkb : (k : Int) < (m : Int) := by omega
              have hsu := colAt_succ ws (ord lv) k hko
              rw [hxe] at hsu
              rw [show ws.getD ((x : Int)).toNat 0 = ws[x] by simp [hxw]] at hsu
              have hb0 := colAt_mono HLO.out.range (ord lv) k
              have hb1 := ws_getD HLO.out.range x
              rw [show ws.getD x 0 = ws[x] by simp [hxw]] at hb1
              have hl := HLaw.out k hko
              rw [hsu, hxe] at hl
              have r2 := (HBX3.out.below HB8.out (Nat.le_refl _)).r2
              have HS := Lib.hid hsu; clear hsu
              generalize colAt ws (ord lv) k = y at *
              generalize ws[x] = z at *
              clear hxe hko
              obtain ⟨hy0, hy1⟩ := hb0
              obtain ⟨hz0, hz1⟩ := hb1
              have hy2 : y ≤ 3145728000 := by omega
              clear hy1
              have HL := Lib.hid hl; clear hl
              have hcin : Hid (y ≤ c → c < y + z → (c - y < y + z - c ∧ ((ed : Int) == 2) = true ∧ ((v : Int) != (k : Int)) = false ∧ (p = (x : Int) ∨ p = (x : Int) + 1)) ∨ (¬ c - y < y + z - c ∧ ((ed : Int) == 2) = false ∧ ((v : Int) != (k : Int) + 1) = false ∧ (p = (x : Int) ∨ p = (x : Int) + 1))) := by
                refine Lib.hid (fun h1 h2 => ?_)
                rcases HL.out h1 h2 with ⟨hn1, he, hv1, hp⟩ | ⟨hn1, he, hv1, hp⟩
                · exact .inl ⟨by omega, by simp [he], by simp [hv1], hp⟩
                · exact .inr ⟨by omega, by simp [he], by simp [hv1], hp⟩
              go_wp2
              go_quiet (fail)
              go_upto_region 21 with fail
              go_cut [93] (HitCut (y ≤ c ∧ c < y + z) w7 ⟨g3, k, none⟩ (.int .i64 (x : Int)))
              case first =>
                have hin : (y ≤ c ∧ c < y + z) ∨ ¬ y ≤ c ∨ (y ≤ c ∧ ¬ c < y + z) := by omega
                rcases hin with ⟨hin1, hin2⟩ | hin1 | ⟨hin1, hin2⟩
                · go_wp2
                  go_meet
                  exact ⟨true, rfl, by simp; omega, by simpa using c3, below_drewN HBk.out _⟩
                · go_wp2
                  go_meet
                  exact ⟨false, rfl, by simp; omega, by simpa using c3, below_drewN HBk.out _⟩
                · go_wp2
                  go_meet
                  exact ⟨false, rfl, by simp; omega, by simpa using c3, below_drewN HBk.out _⟩
              case rest =>
                obtain ⟨bb, rfl, hbb, c3', hbc⟩ := hcut
                have HBc := Lib.hid hbc; clear hbc
                have HBB := Lib.hid hbb; clear hbb
                go_upto_if 93 with fail
                go_cut [16] (fun s16 wx => Below w7.heap.size w7 wx)
                case first =>
                  cases bb with
                  | true =>
                    obtain ⟨hin1, hin2⟩ := HBB.out.1 rfl
                    rcases hcin.out hin1 hin2 with ⟨hn1, he, hv1, hp⟩ | ⟨hn1, he, hv1, hp⟩
                    · rcases hp with hp | hp
                      · have hpx : (p != (x : Int)) = false := by simp [hp]
                        clear hp
                        go_wp2
                        go_meet
                        exact HBc.out
                      · have hpx : (p != (x : Int)) = true := by simp [hp]; omega
                        have hpx1 : (p != (x : Int) + 1) = false := by simp [hp]
                        clear hp
                        go_wp2
                        go_meet
                        exact HBc.out
                    · rcases hp with hp | hp
                      · have hpx : (p != (x : Int)) = false := by simp [hp]
                        clear hp
                        go_wp2
                        go_meet
                        exact HBc.out
                      · have hpx : (p != (x : Int)) = true := by simp [hp]; omega
                        have hpx1 : (p != (x : Int) + 1) = false := by simp [hp]
                        clear hp
                        go_wp2
                        go_meet
                        exact HBc.out
                  | false =>
                    go_wp2
                    go_meet
                    exact HBc.out
                case rest =>
                  have HCut := Lib.hid hcut; clear hcut
                  go_wp2
                  go_roundw
                  case rel => exact ⟨k + 1, by omega, by go_num, by rw [HS.out], HCut.out⟩
                  case measure => simp [intOf]; omega
            · go_wp2
              go_roundw
              case rel => exact ⟨c + 1, by omega, by omega, by go_num, HBe8.out⟩
              case measure => simp [intOf]; omega
        · have hgo2 : ¬ c ≤ W ∨ (c ≤ W ∧ ¬ c < f + 60) := by omega
          clear hgo
          rcases hgo2 with hgo2 | ⟨hgo2, hgo3⟩
          all_goals
            go_wp2_with fail
            refine (HWi.out _ HB5.out).mono ?_
            rintro e w' ⟨rfl, d1, rfl⟩
            go_wp2
            go_ret
            exact ⟨rfl, below_drewN (below_seq HB3.out HB5.out) _⟩
end Go.Proofs.Ytnnfhldfdiaddaa
