/-
  The walk of the document's Columns.
-/
import Derived.Test.YtkcdcgijbaepmaaW32
import Derived.Test.YtkcdcgijbaepmaaW16
import Derived.StillTailTactics
set_option linter.unusedVariables false
set_option linter.unusedSimpArgs false
namespace Go.Proofs.Ytkcdcgijbaepmaa
open Go.RowKit

theorem two_set {w : World} {b : Nat} {u v : Value} {t : TypeId} (h : w.heap[b]? = some (.cells #[u, v] t (0, 0))) (x : Value) :
    (w.setCell ⟨b, 0, none⟩ x).heap[b]? = some (.cells #[x, v] t (0, 0)) ∧ (w.setCell ⟨b, 1, none⟩ x).heap[b]? = some (.cells #[u, x] t (0, 0)) := by
  have hlt := (Array.getElem?_eq_some_iff.1 h).1
  have h' : w.heap[b] = .cells #[u, v] t (0, 0) := by simpa [Array.getElem?_eq_getElem hlt] using h
  constructor
  · show (w.heap.modify b _)[b]? = _
    rw [Array.getElem?_eq_getElem (by simpa using hlt), Array.getElem_modify_self, h']
    rfl
  · show (w.heap.modify b _)[b]? = _
    rw [Array.getElem?_eq_getElem (by simpa using hlt), Array.getElem_modify_self, h']
    rfl

def RcR (w5 : World) (n : Nat) (os ws : List Int) (L : List PD) (v i : Value) (wr : World) : Prop :=
  ∃ (k : Nat) (a' : Option Addr) (c' : Nat), k ≤ n ∧ i = .int .i64 k ∧ v = .slice a' k c' ∧ OwnP w5.heap.size wr a' k c' ((L.take k).map (colP os ws)) ∧ Below w5.heap.size w5 wr
/-- the sums of one piece so far -/
def RsR (w6 : World) (B bx f t : Nat) (os ws : List Int) (i : Value) (wr : World) : Prop :=
  ∃ j : Nat, j ≤ t ∧ i = .int .i64 j ∧ Below B w6 wr ∧ wr.heap[bx]? = some (.cells #[.int .i64 (sumTo os ws (min j f)), .int .i64 (sumTo os ws j)] 45 (0, 0))

set_option maxRecDepth 100000 in
set_option maxHeartbeats 8000000 in
theorem rColumns_walk (aO : Option Addr) (nO cO : Nat) (os : List Int) (aW : Option Addr) (nW cW : Nat) (ws : List Int) (a : Option Addr) (n c : Nat) (ps : List PD) (w : World) (hnO : os.length = nO) (hltO : nO ≤ 65536) (hcO : Ints .i64 w aO os)
    (hnW : ws.length = nW) (hltW : nW ≤ 1048576) (hcW : Ints .i64 w aW ws) (hn : ps.length = n) (hlt : n ≤ 65536) (hc : PiecesAt w a ps) :
    Calls Try.prog 20 #[.slice aO nO cO, .slice aW nW cW, .slice a n c] w fun e w' => ∃ a' m c', e = .returned (.tuple #[.slice a' m c', .int .i64 (colE os ws ps)]) ∧ OwnP w.heap.size w' a' m c' (colL os ws ps) ∧ Below w.heap.size w w' := by
  have HNO := Lib.hid hnO; clear hnO
  have HNW := Lib.hid hnW; clear hnW
  have HN := Lib.hid hn; clear hn
  have HCO := Lib.hid hcO; clear hcO
  have HCW := Lib.hid hcW; clear hcW
  have HC := Lib.hid hc; clear hc
  go_enter Try.func20, Try.ntmps20
  go_wp2_with fail
  refine (ordered_walk aO nO cO os w HNO.out hltO HCO.out).mono ?_
  rintro e w1 ⟨rfl, hb⟩
  have HB1 := Lib.hid hb; clear hb
  by_cases h1 : orderB os = false
  · have HE := Lib.hid (show colE os ws ps = 261 from if_pos h1)
    have HL := Lib.hid (show colL os ws ps = [] from if_pos h1)
    rw [h1]
    clear h1
    go_wp2
    go_ret2
    exact ⟨_, _, _, by rw [HE.out]; rfl, by rw [HL.out]; exact OwnP.nil _ _, HB1.out⟩
  · have h1t : orderB os = true := by simpa using h1
    have HOr := Lib.hid h1t
    rw [h1t]
    have H1 := Lib.hid h1; clear h1 h1t
    have HCO1 := Lib.hid (HCO.out.below HB1.out (Nat.le_refl _))
    have HCW1 := Lib.hid (HCW.out.below HB1.out (Nat.le_refl _))
    go_wp2
    go_loop [8] (IdxI nO (farP nW) os) (fun i => nO - (intOf i).toNat)
    case atStart => exact ⟨0, Nat.zero_le _, rfl, fun j hj => absurd hj (Nat.not_lt_zero _)⟩
    case round =>
      obtain ⟨k, hk, rfl, hnone⟩ := hrel
      have HA := Lib.hid hnone; clear hnone
      by_cases hkn : k < nO
      · have hk1 : k < os.length := by rw [HNO.out]; exact hkn
        obtain ⟨b, o, ha⟩ := HCO1.out.some (by omega)
        subst ha
        have u0 := HCO1.out.get k hk1
        have HY := Lib.hid (fun h => any_yes (P := farP nW) hk1 h)
        have HS := Lib.hid (fun h => HA.out.step hk1 h)
        generalize os[k] = x at *
        have hki : (k : Int) < (nO : Int) := by omega
        by_cases hP : (nW : Int) ≤ x
        · have h2 := HY.out (decide_eq_true hP)
          have HE := Lib.hid (show colE os ws ps = 261 by unfold colE; rw [if_neg H1.out, HNW.out, if_pos h2])
          have HL := Lib.hid (show colL os ws ps = [] by unfold colL; rw [if_neg H1.out, HNW.out, if_pos h2])
          clear h2 HY HS
          go_wp2
          go_ret2
          exact ⟨_, _, _, by rw [HE.out]; rfl, by rw [HL.out]; exact OwnP.nil _ _, HB1.out⟩
        · have HR := Lib.hid (HS.out (decide_eq_false hP))
          clear HY HS
          go_wp2
          go_round
          case rel => exact ⟨k + 1, by omega, by go_num, HR.out⟩
          case measure => simp [intOf]; omega
      · obtain rfl : k = nO := by omega
        have h2 : ¬ os.any (farP nW) = true := by rw [any_no (by have := HA.out; rwa [← HNO.out] at this)]; simp
        have HA2 := Lib.hid h2
        clear h2 HA
        have HC1 := Lib.hid (HC.out.below HB1.out (Nat.le_refl _))
        have hki : ¬ (k : Int) < (k : Int) := by omega
        go_wp2_with fail
        refine (rShown_walk aO k cO os a n c ps w1 HNO.out hltO HCO1.out HN.out hlt HC1.out).mono ?_
        rintro e w2 ⟨aV, nV, cV, rfl, hoV, hb⟩
        have HLV := Lib.hid hoV.len
        have HPV := Lib.hid hoV.pieces
        have hnV : nV ≤ k := by have := hoV.len; have := visL_length os ps; have := HNO.out; omega
        clear hoV
        have HB2 := Lib.hid (below_sq HB1.out hb)
        have HCO2 := Lib.hid (HCO1.out.below hb (Nat.le_refl _))
        have HCW2 := Lib.hid (HCW1.out.below hb (Nat.le_refl _))
        clear hb
        by_cases h3 : Any_wrong ps = true
        · have HE := Lib.hid (show colE os ws ps = 260 by unfold colE; rw [if_neg H1.out, HNW.out, if_neg HA2.out, if_pos h3])
          have HL := Lib.hid (show colL os ws ps = [] by unfold colL; rw [if_neg H1.out, HNW.out, if_neg HA2.out, if_pos h3])
          rw [show visE os ps = 260 by unfold visE; rw [if_neg H1.out, if_pos h3]]
          clear h3
          go_wp2
          go_ret2
          exact ⟨_, _, _, by rw [HE.out]; rfl, by rw [HL.out]; exact OwnP.nil _ _, HB2.out⟩
        · rw [show visE os ps = 0 by unfold visE; rw [if_neg H1.out, if_neg h3]]
          have H3 := Lib.hid h3
          clear h3
          go_wp2
          go_loop [11] (IdxI nW widP ws) (fun i => nW - (intOf i).toNat)
          case atStart => exact ⟨0, Nat.zero_le _, rfl, fun j hj => absurd hj (Nat.not_lt_zero _)⟩
          case round =>
            obtain ⟨q, hq, rfl, hnone⟩ := hrel
            have HA := Lib.hid hnone; clear hnone
            by_cases hqn : q < nW
            · have hq1 : q < ws.length := by rw [HNW.out]; exact hqn
              obtain ⟨b, o, ha⟩ := HCW2.out.some (by omega)
              subst ha
              have u0 := HCW2.out.get q hq1
              have HY := Lib.hid (fun h => any_yes (P := widP) hq1 h)
              have HS := Lib.hid (fun h => HA.out.step hq1 h)
              generalize ws[q] = x at *
              have hqi : (q : Int) < (nW : Int) := by omega
              by_cases hP : x < 0 ∨ 1048576 < x
              · have h4 := HY.out (decide_eq_true hP)
                have HE := Lib.hid (show colE os ws ps = 2 by unfold colE; rw [if_neg H1.out, HNW.out, if_neg HA2.out, if_neg H3.out, if_pos h4])
                have HL := Lib.hid (show colL os ws ps = [] by unfold colL; rw [if_neg H1.out, HNW.out, if_neg HA2.out, if_neg H3.out, if_pos h4])
                clear h4 HY HS
                have hd : x < 0 ∨ (¬ x < 0 ∧ 1048576 < x) := by omega
                clear hP
                rcases hd with h0 | ⟨h0, h5⟩
                all_goals
                  go_wp2
                  go_ret2
                  exact ⟨_, _, _, by rw [HE.out]; rfl, by rw [HL.out]; exact OwnP.nil _ _, HB2.out⟩
              · have HR := Lib.hid (HS.out (decide_eq_false hP))
                have h0 : ¬ x < 0 := fun h => hP (.inl h)
                have h5 : ¬ 1048576 < x := fun h => hP (.inr h)
                clear HY HS hP
                go_wp2
                go_round
                case rel => exact ⟨q + 1, by omega, by go_num, HR.out⟩
                case measure => simp [intOf]; omega
            · obtain rfl : q = nW := by omega
              have h4 : ¬ ws.any widP = true := by rw [any_no (by have := HA.out; rwa [← HNW.out] at this)]; simp
              have HE := Lib.hid (show colE os ws ps = 0 by unfold colE; rw [if_neg H1.out, HNW.out, if_neg HA2.out, if_neg H3.out, if_neg h4])
              have HL := Lib.hid (show colL os ws ps = (visL os ps).map (colP os ws) by unfold colL; rw [if_neg H1.out, HNW.out, if_neg HA2.out, if_neg H3.out, if_neg h4])
              have HWd := Lib.hid (wid_in h4)
              clear h4 HA
              have HV := Lib.hid (visL_in os ps)
              have HL9 := Lib.hid (show (visL os ps).length = nV from HLV.out)
              generalize visL os ps = L at *
              have hqi : ¬ (q : Int) < (q : Int) := by omega
              go_wp2
              go_loopw [12, 13] (RcR w2 nV os ws L) (fun _ i _ => nV - (intOf i).toNat)
              case atStart => exact ⟨0, none, 0, Nat.zero_le _, rfl, rfl, OwnP.nil _ _, Below.refl _ _⟩
              case round =>
                obtain ⟨j, a8, c8, hj, rfl, rfl, hown, hbel⟩ := hrel
                have HO8 := Lib.hid hown; clear hown
                have HB8 := Lib.hid hbel; clear hbel
                by_cases hjn : j < nV
                · have hj1 : j < L.length := by rw [HL9.out]; exact hjn
                  obtain ⟨b, o, ha⟩ := HPV.out.some (by omega)
                  subst ha
                  obtain ⟨q0, q1⟩ := (HPV.out.below HB8.out (Nat.le_refl _)).get j hj1
                  have hv := HV.out _ (List.getElem_mem hj1)
                  have HT := Lib.hid (flat_colP (os := os) (ws := ws) hj1)
                  generalize L[j] = p at *
                  obtain ⟨f, t⟩ := p
                  obtain ⟨f, rfl⟩ := Int.eq_ofNat_of_zero_le hv.1
                  obtain ⟨t, rfl⟩ := Int.eq_ofNat_of_zero_le (show 0 ≤ t by have := hv.2.1; have := hv.1; simp only at *; omega)
                  have hft : f < t := by have := hv.2.1; simp only at this; omega
                  have htn : t ≤ k := by have := hv.2.2; rw [HNO.out] at this; simp only at this; omega
                  simp only [Int.toNat_natCast] at HT
                  simp only at q0 q1
                  clear hv
                  have hji : (j : Int) < (nV : Int) := by omega
                  obtain ⟨bx, hbx⟩ : ∃ bx, bx = wr.heap.size := ⟨_, rfl⟩
                  have HAL : Hid (Below wr.heap.size wr (wr.alloc (.cells #[.int .i64 0, .int .i64 0] 45)) ∧ (wr.alloc (.cells #[.int .i64 0, .int .i64 0] 45)).heap[bx]? = some (.cells #[.int .i64 0, .int .i64 0] 45 (0, 0))) := Lib.hid (by rw [hbx]; exact ⟨(Below.refl _ _).alloc (Nat.le_refl _) _, heap_alloc_new wr _⟩)
                  go_upto_region 21 with (fail)
                  rw [← hbx]
                  obtain ⟨w3, rfl⟩ : ∃ w3 : World, w3 = wr := ⟨_, rfl⟩
                  generalize (w3.alloc (.cells #[.int .i64 0, .int .i64 0] 45)) = w5 at *
                  have HBxe := Lib.hid hbx
                  have HCO3 := Lib.hid (HCO2.out.below HB8.out (Nat.le_refl _))
                  have HCW3 := Lib.hid (HCW2.out.below HB8.out (Nat.le_refl _))
                  have HA5 := Lib.hid (show Below bx w3 w5 from by rw [hbx]; exact HAL.out.1)
                  have HX5 := Lib.hid HAL.out.2
                  have HQ := Lib.hid (And.intro q0 q1)
                  clear HAL hbx q0 q1
                  go_wp2
                  go_loopw [15] (RsR w5 bx bx f t os ws) (fun v _ => t - (intOf v).toNat)
                  case atStart => exact ⟨0, Nat.zero_le _, rfl, Below.refl _ _, by rw [Nat.zero_min]; exact HX5.out⟩
                  case round =>
                    obtain ⟨i, hi, rfl, hbel, hbox⟩ := hrel
                    have HBr := Lib.hid hbel
                    have HB3 := Lib.hid (show Below w3.heap.size w3 wr from by rw [← HBxe.out]; exact HA5.out.trans hbel)
                    have HX := Lib.hid hbox
                    have hbxl := (Array.getElem?_eq_some_iff.1 hbox).1
                    have q0 := (HB3.out.cell (p := ⟨b, o + j * 2, none⟩) (World.block_lt_of_cell? w3 ⟨b, o + j * 2, none⟩ HQ.out.1)).trans HQ.out.1
                    have q1 := (HB3.out.cell (p := ⟨b, o + j * 2 + 1, none⟩) (World.block_lt_of_cell? w3 ⟨b, o + j * 2 + 1, none⟩ HQ.out.2)).trans HQ.out.2
                    clear hbel hbox
                    by_cases hit : i < t
                    · have hk1 : i < os.length := by rw [HNO.out]; omega
                      obtain ⟨bO, oO, ha⟩ := HCO3.out.some (by omega)
                      subst ha
                      have cz := (HCO3.out.below HB3.out (Nat.le_refl _)).get i hk1
                      have hz0 := (ord_in HOr.out hk1).1
                      have hz1 := far_in HA2.out hk1
                      obtain ⟨z, hz⟩ : ∃ z : Nat, os[i] = (z : Int) := ⟨os[i].toNat, by omega⟩
                      have hzw : z < ws.length := by rw [HNW.out]; omega
                      obtain ⟨bW, oW, ha⟩ := HCW3.out.some (by omega)
                      subst ha
                      have cy := (HCW3.out.below HB3.out (Nat.le_refl _)).get z hzw
                      have hy := HWd.out _ (List.getElem_mem hzw)
                      have hs := sumTo_in (os := os) HWd.out i
                      have HS : Hid (sumTo os ws (i + 1) = sumTo os ws i + ws[z]) := Lib.hid (by
                        show sumTo os ws i + ws.getD (os.getD i 0).toNat 0 = _
                        rw [show os.getD i 0 = os[i] by simp [hk1], hz, Int.toNat_natCast]
                        simp [hzw])
                      have hsf := sumTo_in (os := os) HWd.out f
                      rw [hz] at cz hz0 hz1
                      clear hz
                      have hzi : (z : Int) < (q : Int) := by omega
                      have hik : (i : Int) < (k : Int) := by omega
                      have hiti : (i : Int) < (t : Int) := by omega
                      by_cases hif : i < f
                      · have hm1 : min i f = i := Nat.min_eq_left (by omega)
                        have hm2 : min (i + 1) f = i + 1 := Nat.min_eq_left (by omega)
                        rw [hm1] at HX
                        have HM2 := Lib.hid hm2; clear hm1 hm2
                        generalize ws[z] = y at *
                        generalize sumTo os ws i = s at *
                        obtain ⟨hy0, hy1⟩ := hy
                        obtain ⟨hs0, hs1⟩ := hs
                        have hwr : IntKind.i64.wrap (s + y) = s + y := IntWalk.i64_in _ (by omega)
                        have u0 : wr.cell? ⟨bx, 0, none⟩ = some (.int .i64 s) := by simp [World.cell?, HX.out]
                        have f0 := frozen_of_row wr bx 0 _ _ HX.out
                        have hifi : (i : Int) < (f : Int) := by omega
                        have HX7 : Hid ((wr.setCell ⟨bx, 0, none⟩ (.int .i64 (s + y))).drew.heap[bx]? = some (.cells #[.int .i64 (s + y), .int .i64 s] 45 (0, 0))) := Lib.hid (two_set (w := wr) HX.out (.int .i64 (s + y))).1
                        have HB7 : Hid (Below bx w5 (wr.setCell ⟨bx, 0, none⟩ (.int .i64 (s + y))).drew) := Lib.hid (below_drewN (HBr.out.setCell (p := ⟨bx, 0, none⟩) (Nat.le_refl _) (.int .i64 (s + y))) 1)
                        have HS7 : Hid (Below bx wr (wr.setCell ⟨bx, 0, none⟩ (.int .i64 (s + y))).drew) := Lib.hid (below_drewN ((Below.refl bx wr).setCell (p := ⟨bx, 0, none⟩) (Nat.le_refl _) (.int .i64 (s + y))) 1)
                        have HlO := Lib.hid (show bO < bx ∧ bW < bx from by
                          have h1 := (HCO3.out.get i hk1)
                          have h2 := (HCW3.out.get z hzw)
                          rw [HBxe.out]
                          exact ⟨World.block_lt_of_cell? w3 _ h1, World.block_lt_of_cell? w3 _ h2⟩)
                        go_wp2
                        refine wp_region_still_tail 11 (by kernel_rfl) (by kernel_rfl) ?_
                        simp only [List.take_succ_cons, List.take_zero, List.drop_succ_cons, List.drop_zero]
                        change wpStill _ _ (World.drew _) (fun a' => wpList _ _ _ _ a' (World.drew _)) _ _
                        repeat still_step
                        refine wpStill_nil ?_
                        go_wp2
                        generalize (wr.setCell ⟨bx, 0, none⟩ (.int .i64 (s + y))).drew = w7 at *
                        have cz7 := (HS7.out.cell (p := ⟨bO, oO + i, none⟩) HlO.out.1).trans cz
                        have cy7 := (HS7.out.cell (p := ⟨bW, oW + z, none⟩) HlO.out.2).trans cy
                        have u1 : w7.cell? ⟨bx, 1, none⟩ = some (.int .i64 s) := by simp [World.cell?, HX7.out]
                        have f1 := frozen_of_row w7 bx 1 _ _ HX7.out
                        have HX9 : Hid ((w7.setCell ⟨bx, 1, none⟩ (.int .i64 (s + y))).drew.heap[bx]? = some (.cells #[.int .i64 (s + y), .int .i64 (s + y)] 45 (0, 0))) := Lib.hid (two_set (w := w7) HX7.out (.int .i64 (s + y))).2
                        have HB9 : Hid (Below bx w5 (w7.setCell ⟨bx, 1, none⟩ (.int .i64 (s + y))).drew) := Lib.hid (below_drewN (HB7.out.setCell (p := ⟨bx, 1, none⟩) (Nat.le_refl _) (.int .i64 (s + y))) 1)
                        clear cz cy u0 f0
                        refine wp_region_still_tail 11 (by kernel_rfl) (by kernel_rfl) ?_
                        simp only [List.take_succ_cons, List.take_zero, List.drop_succ_cons, List.drop_zero]
                        change wpStill _ _ (World.drew _) (fun a' => wpList _ _ _ _ a' (World.drew _)) _ _
                        repeat still_step
                        refine wpStill_nil ?_
                        go_wp2
                        generalize (w7.setCell ⟨bx, 1, none⟩ (.int .i64 (s + y))).drew = w9 at *
                        go_wp2
                        go_roundw
                        case rel => exact ⟨i + 1, by omega, by go_num, HB9.out, by rw [HM2.out, HS.out]; exact HX9.out⟩
                        case measure => simp [intOf]; omega
                      · have hm1 : min i f = f := Nat.min_eq_right (by omega)
                        have hm2 : min (i + 1) f = f := Nat.min_eq_right (by omega)
                        rw [hm1] at HX
                        have HM2 := Lib.hid hm2; clear hm1 hm2
                        generalize ws[z] = y at *
                        generalize sumTo os ws i = s at *
                        obtain ⟨hy0, hy1⟩ := hy
                        obtain ⟨hs0, hs1⟩ := hs
                        have hwr : IntKind.i64.wrap (s + y) = s + y := IntWalk.i64_in _ (by omega)
                        have u1 : wr.cell? ⟨bx, 1, none⟩ = some (.int .i64 s) := by simp [World.cell?, HX.out]
                        have f1 := frozen_of_row wr bx 1 _ _ HX.out
                        have hifi : ¬ (i : Int) < (f : Int) := by omega
                        have HX9 : Hid ((wr.setCell ⟨bx, 1, none⟩ (.int .i64 (s + y))).drew.heap[bx]? = some (.cells #[.int .i64 (sumTo os ws f), .int .i64 (s + y)] 45 (0, 0))) := Lib.hid (two_set (w := wr) HX.out (.int .i64 (s + y))).2
                        have HB9 : Hid (Below bx w5 (wr.setCell ⟨bx, 1, none⟩ (.int .i64 (s + y))).drew) := Lib.hid (below_drewN (HBr.out.setCell (p := ⟨bx, 1, none⟩) (Nat.le_refl _) (.int .i64 (s + y))) 1)
                        go_wp2
                        refine wp_region_still_tail 11 (by kernel_rfl) (by kernel_rfl) ?_
                        simp only [List.take_succ_cons, List.take_zero, List.drop_succ_cons, List.drop_zero]
                        change wpStill _ _ (World.drew _) (fun a' => wpList _ _ _ _ a' (World.drew _)) _ _
                        repeat still_step
                        refine wpStill_nil ?_
                        go_wp2
                        generalize (wr.setCell ⟨bx, 1, none⟩ (.int .i64 (s + y))).drew = w9 at *
                        go_wp2
                        go_roundw
                        case rel => exact ⟨i + 1, by omega, by go_num, HB9.out, by rw [HM2.out, HS.out]; exact HX9.out⟩
                        case measure => simp [intOf]; omega
                    · obtain rfl : i = t := by omega
                      have hm1 : min i f = f := Nat.min_eq_right (by omega)
                      rw [hm1] at HX
                      clear hm1
                      have HB8b := Lib.hid (HB8.out.trans (HB3.out.mono HB8.out.size))
                      have HO9 := Lib.hid (HO8.out.below HB3.out (Nat.le_refl _))
                      have d0 : wr.cell? ⟨bx, 0, none⟩ = some (.int .i64 (sumTo os ws f)) := by simp [World.cell?, HX.out]
                      have d1 : wr.cell? ⟨bx, 1, none⟩ = some (.int .i64 (sumTo os ws i)) := by simp [World.cell?, HX.out]
                      have hiti : ¬ (i : Int) < (i : Int) := by omega
                      have HT2 := Lib.hid (show flatP ((L.take (j + 1)).map (colP os ws)) = flatP ((L.take j).map (colP os ws)) ++ [.int .i64 (sumTo os ws f), .int .i64 (sumTo os ws i)] from HT.out)
                      generalize sumTo os ws f = y0 at *
                      generalize sumTo os ws i = y1 at *
                      go_wp2_with (at_builtin; refine wpList_appN Try.elemPiece rfl (.tmp 103) (.tmp 105) rfl HO9.out HB8b.out.size (by omega) (by omega) #[.int .i64 y0, .int .i64 y1] rfl (by intro u hu; simp at hu; rcases hu with rfl | rfl <;> rfl) _ rfl rfl ?_)
                      intro a9 c9 w9 ho9 hg9 _
                      have HN9 : Hid (OwnP w2.heap.size w9 a9 (j + 1) c9 ((L.take (j + 1)).map (colP os ws))) := Lib.hid (by unfold OwnP; rw [HT2.out]; have h := ho9; simp only [List.map_take] at h ⊢; exact h)
                      have HB9 := Lib.hid (HB8b.out.trans (HO9.out.app hg9 HB8b.out.size))
                      clear ho9 hg9
                      go_wp2
                      go_roundw
                      case rel => exact ⟨j + 1, _, _, by omega, by go_num, rfl, HN9.out, HB9.out⟩
                      case measure => simp [intOf]; omega
                · obtain rfl : nV = j := by omega
                  have hji : ¬ (nV : Int) < (nV : Int) := by omega
                  have HRes : Hid (OwnP w.heap.size wr a8 nV c8 (colL os ws ps)) := Lib.hid (by
                    rw [HL.out]
                    have h := HO8.out
                    rw [List.take_of_length_le (by rw [HL9.out]; exact Nat.le_refl _)] at h
                    exact h.mono (by have := HB2.out.size; omega))
                  have HEnd := Lib.hid (below_sq HB2.out HB8.out)
                  go_wp2
                  go_ret2
                  exact ⟨_, _, _, by rw [HE.out]; rfl, HRes.out, HEnd.out⟩
end Go.Proofs.Ytkcdcgijbaepmaa
