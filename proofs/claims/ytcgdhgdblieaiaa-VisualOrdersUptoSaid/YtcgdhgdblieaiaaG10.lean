/-
  The walk of VisualOrders.
-/
import Derived.Test.YtcgdhgdblieaiaaG8
import Derived.Test.YtcgdhgdblieaiaaG9
set_option linter.unusedVariables false
namespace Go.Proofs.Ytcgdhgdblieaiaa
open Go.RowKit

set_option maxRecDepth 100000 in
set_option maxHeartbeats 8000000 in
theorem orders_walk (a : Option Addr) (n cap : Nat) (zs : List Int) (w : World) (h0 : ArgL .i8 w a n cap zs) :
    Calls Try.prog 10 #[.slice a n cap] w fun e w' => e = .returned (.bool true) ∧ Below w.heap.size w w' := by
  have H0 := Lib.hid h0; clear h0
  have hm := H0.out.le
  have HN := Lib.hid H0.out.len
  have HC := Lib.hid H0.out.ints
  go_enter Try.func10, Try.ntmps10
  go_wp2_with fail
  refine (beyond_walk a n cap w hm).mono ?_
  rintro e w' ⟨rfl, rfl⟩
  generalize decide (65536 < n) = by_ at *
  cases by_ with
  | true =>
    go_wp2_with fail
    refine (lives_walk _).mono ?_
    rintro e w1 ⟨rfl, hb⟩
    go_wp2
    go_ret
    exact ⟨rfl, hb⟩
  | false =>
  go_wp2_with fail
  refine (lent_walk a n cap zs w H0.out).mono ?_
  rintro e w1 ⟨g, c, rfl, ho, hb⟩
  have HG1 := Lib.hid ho; clear ho
  have HB1 := Lib.hid hb; clear hb
  have hnc : n + 1 ≤ c := HG1.out.cap.1
  have hnc0 : n ≤ c := by omega
  have HIG1 := Lib.hid HG1.out.ints.leftG
  have HIL1 := Lib.hid (HC.out.below HB1.out (Nat.le_refl _))
  by_cases hok : okL zs = true
  · have HK := Lib.hid hok; clear hok
    have HM0 := Lib.hid (show mayN zs = 0 from if_pos HK.out)
    go_wp2_with fail
    refine (Order_walk (some ⟨g, 0, none⟩) n c zs w1 HN.out hm HK.out HIG1.out).mono ?_
    rintro e w2 ⟨aO1, mO1, cO1, rfl, ho, hb⟩
    have HO1 := Lib.hid ho; clear ho
    have HB2 := Lib.hid hb; clear hb
    have HIG2 := Lib.hid (HIG1.out.below HB2.out (Nat.le_refl _))
    have HIL2 := Lib.hid (HIL1.out.below HB2.out (Nat.le_refl _))
    go_wp2_with fail
    refine (Order_walk a n cap zs w2 HN.out hm HK.out HIL2.out).mono ?_
    rintro e w3 ⟨aO2, mO2, cO2, rfl, ho, hb⟩
    have HO2 := Lib.hid ho; clear ho
    have HB3 := Lib.hid hb; clear hb
    have HIG3 := Lib.hid (HIG2.out.below HB3.out (Nat.le_refl _))
    have HIL3 := Lib.hid (HIL2.out.below HB3.out (Nat.le_refl _))
    go_wp2_with fail
    refine (Places_walk (some ⟨g, 0, none⟩) n c zs w3 HN.out hm HK.out HIG3.out).mono ?_
    rintro e w4 ⟨aP1, mP1, cP1, rfl, ho, hb⟩
    have HP1 := Lib.hid ho; clear ho
    have HB4 := Lib.hid hb; clear hb
    have HIG4 := Lib.hid (HIG3.out.below HB4.out (Nat.le_refl _))
    have HIL4 := Lib.hid (HIL3.out.below HB4.out (Nat.le_refl _))
    go_wp2_with fail
    refine (Places_walk a n cap zs w4 HN.out hm HK.out HIL4.out).mono ?_
    rintro e w5 ⟨aP2, mP2, cP2, rfl, ho, hb⟩
    have HP2 := Lib.hid ho; clear ho
    have HB5 := Lib.hid hb; clear hb
    have HIG5 := Lib.hid (HIG4.out.below HB5.out (Nat.le_refl _))
    have HIL5 := Lib.hid (HIL4.out.below HB5.out (Nat.le_refl _))
    go_wp2_with fail
    refine (Runs_walk (some ⟨g, 0, none⟩) n c zs w5 HN.out hm HK.out HIG5.out).mono ?_
    rintro e w6 ⟨aR1, mR1, cR1, rfl, ho, hb⟩
    have HR1 := Lib.hid ho; clear ho
    have HB6 := Lib.hid hb; clear hb
    have HIG6 := Lib.hid (HIG5.out.below HB6.out (Nat.le_refl _))
    have HIL6 := Lib.hid (HIL5.out.below HB6.out (Nat.le_refl _))
    go_wp2_with fail
    refine (Runs_walk a n cap zs w6 HN.out hm HK.out HIL6.out).mono ?_
    rintro e w7 ⟨aR2, mR2, cR2, rfl, ho, hb⟩
    have HR2 := Lib.hid ho; clear ho
    have HB7 := Lib.hid hb; clear hb
    have HIG7 := Lib.hid (HIG6.out.below HB7.out (Nat.le_refl _))
    have HIL7 := Lib.hid (HIL6.out.below HB7.out (Nat.le_refl _))
    have hO1 := Lib.hid HO1.out.lenI
    obtain rfl : mO1 = mO2 := by have := HO2.out.lenI; have := hO1.out; omega
    have hP1 := Lib.hid HP1.out.lenI
    obtain rfl : mP1 = mP2 := by have := HP2.out.lenI; have := hP1.out; omega
    obtain rfl : n = mP1 := by have := hP1.out; rw [placesL_length] at this; have := HN.out; omega
    have hR1 := Lib.hid HR1.out.len
    obtain rfl : mR1 = mR2 := by have := HR2.out.len; have := hR1.out; omega
    have hmO : mO1 ≤ n := by have := ord_le zs; have := hO1.out; have := HN.out; omega
    have hmR : mR1 ≤ n := by
      have h1 := hR1.out
      have h2 := (runsS_perm zs).length_eq
      have h3 := runsTo_length zs zs.length
      have := HN.out
      unfold runsL at h2
      omega
    go_wp2_with fail
    refine (Check_walk a n cap zs w7 HN.out hm HIL7.out).mono ?_
    rintro e w' ⟨rfl, rfl⟩
    rw [HM0.out]
    have HFull : Hid (Ints .i8 w7 (some ⟨g, 0, none⟩) (zs ++ [77])) := Lib.hid (HG1.out.ints.below (below_seq HB2.out (below_seq HB3.out (below_seq HB4.out (below_seq HB5.out (below_seq HB6.out HB7.out))))) (Nat.le_refl _))
    go_wp2_with fail
    refine (kept_walk g c a n cap zs w7 HN.out hm hnc HFull.out HIL7.out).mono ?_
    rintro e w8 ⟨rfl, hb⟩
    have HB8 := Lib.hid hb; clear hb
    have HIG8 := Lib.hid (HIG7.out.below HB8.out (Nat.le_refl _))
    have HIL8 := Lib.hid (HIL7.out.below HB8.out (Nat.le_refl _))
    go_wp2_with fail
    refine (rOrder_walk a n cap zs w8 HN.out hm HK.out HIL8.out).mono ?_
    rintro e w9 ⟨aRO, mRO, cRO, rfl, ho, hb⟩
    have HRO := Lib.hid ho; clear ho
    have HB9 := Lib.hid hb; clear hb
    have HIG9 := Lib.hid (HIG8.out.below HB9.out (Nat.le_refl _))
    have HIL9 := Lib.hid (HIL8.out.below HB9.out (Nat.le_refl _))
    go_wp2_with fail
    refine (rPlaces_walk a n cap zs w9 HN.out hm HK.out HIL9.out).mono ?_
    rintro e w10 ⟨aRP, mRP, cRP, rfl, ho, hb⟩
    have HRP := Lib.hid ho; clear ho
    have HB10 := Lib.hid hb; clear hb
    have HIG10 := Lib.hid (HIG9.out.below HB10.out (Nat.le_refl _))
    have HIL10 := Lib.hid (HIL9.out.below HB10.out (Nat.le_refl _))
    go_wp2_with fail
    refine (rRuns_walk a n cap zs w10 HN.out hm HK.out HIL10.out).mono ?_
    rintro e w11 ⟨aRR, mRR, cRR, rfl, ho, hb⟩
    have HRR := Lib.hid ho; clear ho
    have HB11 := Lib.hid hb; clear hb
    have HIG11 := Lib.hid (HIG10.out.below HB11.out (Nat.le_refl _))
    have HIL11 := Lib.hid (HIL10.out.below HB11.out (Nat.le_refl _))
    obtain rfl : mO1 = mRO := by have := HRO.out.lenI; have := hO1.out; omega
    obtain rfl : n = mRP := by have := HRP.out.lenI; have := hP1.out; omega
    obtain rfl : mR1 = mRR := by have := HRR.out.len; have := hR1.out; omega
    go_wp2_with fail
    refine (sameInts_self aO1 aRO mO1 cO1 mO1 cRO (ord zs) w11 hO1.out hO1.out (by omega) (HO1.out.ints.below ((below_seq HB3.out (below_seq HB4.out (below_seq HB5.out (below_seq HB6.out (below_seq HB7.out (below_seq HB8.out (below_seq HB9.out (below_seq HB10.out HB11.out))))))))) (Nat.le_refl _)) (HRO.out.ints.below ((below_seq HB10.out HB11.out)) (Nat.le_refl _))).mono ?_
    rintro e w12 ⟨rfl, hb⟩
    have HB12 := Lib.hid hb; clear hb
    go_wp2_with fail
    refine (sameInts_self aP1 aRP n cP1 n cRP (placesL zs) w12 hP1.out hP1.out (by omega) (HP1.out.ints.below ((below_seq HB5.out (below_seq HB6.out (below_seq HB7.out (below_seq HB8.out (below_seq HB9.out (below_seq HB10.out (below_seq HB11.out HB12.out)))))))) (Nat.le_refl _)) (HRP.out.ints.below ((below_seq HB11.out HB12.out)) (Nat.le_refl _))).mono ?_
    rintro e w13 ⟨rfl, hb⟩
    have HB13 := Lib.hid hb; clear hb
    have hrr : ((mR1 : Int) != (mR1 : Int)) = false := by simp
    clear HIG1 HIG2 HIG3 HIG4 HIG5 HIG6 HIG7 HIG8 HIG9 HIG10 HIG11 HIL1 HIL2 HIL3 HIL4 HIL5 HIL6 HIL7 HIL8 HIL9 HIL10 HIL11 HFull
    have XO10 := Lib.hid (HO1.out.below ((below_seq HB3.out (below_seq HB4.out (below_seq HB5.out (below_seq HB6.out (below_seq HB7.out (below_seq HB8.out (below_seq HB9.out (below_seq HB10.out (below_seq HB11.out (below_seq HB12.out HB13.out))))))))))) (Nat.le_refl _))
    have XO20 := Lib.hid (HO2.out.below ((below_seq HB4.out (below_seq HB5.out (below_seq HB6.out (below_seq HB7.out (below_seq HB8.out (below_seq HB9.out (below_seq HB10.out (below_seq HB11.out (below_seq HB12.out HB13.out)))))))))) (Nat.le_refl _))
    have XP10 := Lib.hid (HP1.out.below ((below_seq HB5.out (below_seq HB6.out (below_seq HB7.out (below_seq HB8.out (below_seq HB9.out (below_seq HB10.out (below_seq HB11.out (below_seq HB12.out HB13.out))))))))) (Nat.le_refl _))
    have XP20 := Lib.hid (HP2.out.below ((below_seq HB6.out (below_seq HB7.out (below_seq HB8.out (below_seq HB9.out (below_seq HB10.out (below_seq HB11.out (below_seq HB12.out HB13.out)))))))) (Nat.le_refl _))
    have XR10 := Lib.hid (HR1.out.below ((below_seq HB7.out (below_seq HB8.out (below_seq HB9.out (below_seq HB10.out (below_seq HB11.out (below_seq HB12.out HB13.out))))))) (Nat.le_refl _))
    have XR20 := Lib.hid (HR2.out.below ((below_seq HB8.out (below_seq HB9.out (below_seq HB10.out (below_seq HB11.out (below_seq HB12.out HB13.out)))))) (Nat.le_refl _))
    have XRO0 := Lib.hid (HRO.out.below ((below_seq HB10.out (below_seq HB11.out (below_seq HB12.out HB13.out)))) (Nat.le_refl _))
    have XRP0 := Lib.hid (HRP.out.below ((below_seq HB11.out (below_seq HB12.out HB13.out))) (Nat.le_refl _))
    have XRR0 := Lib.hid (HRR.out.below ((below_seq HB12.out HB13.out)) (Nat.le_refl _))
    have z2 : w1.heap.size ≤ w2.heap.size := HB2.out.size
    have z3 : w2.heap.size ≤ w3.heap.size := HB3.out.size
    have z4 : w3.heap.size ≤ w4.heap.size := HB4.out.size
    have z5 : w4.heap.size ≤ w5.heap.size := HB5.out.size
    have z6 : w5.heap.size ≤ w6.heap.size := HB6.out.size
    have z7 : w6.heap.size ≤ w7.heap.size := HB7.out.size
    have z8 : w7.heap.size ≤ w8.heap.size := HB8.out.size
    have z9 : w8.heap.size ≤ w9.heap.size := HB9.out.size
    have z10 : w9.heap.size ≤ w10.heap.size := HB10.out.size
    have z11 : w10.heap.size ≤ w11.heap.size := HB11.out.size
    have z12 : w11.heap.size ≤ w12.heap.size := HB12.out.size
    have z13 : w12.heap.size ≤ w13.heap.size := HB13.out.size
    have z1 : w.heap.size ≤ w1.heap.size := HB1.out.size
    have HW0 := Lib.hid ((below_seq HB1.out (below_seq HB2.out (below_seq HB3.out (below_seq HB4.out (below_seq HB5.out (below_seq HB6.out (below_seq HB7.out (below_seq HB8.out (below_seq HB9.out (below_seq HB10.out (below_seq HB11.out (below_seq HB12.out HB13.out)))))))))))))
    have AO1O2 := Lib.hid (rows_apart HO1.out HO2.out (by omega))
    have AO1P1 := Lib.hid (rows_apart HO1.out HP1.out (by omega))
    have AO1P2 := Lib.hid (rows_apart HO1.out HP2.out (by omega))
    have AO1R1 := Lib.hid (rows_apart HO1.out HR1.out (by omega))
    have AO1R2 := Lib.hid (rows_apart HO1.out HR2.out (by omega))
    have AO1RO := Lib.hid (rows_apart HO1.out HRO.out (by omega))
    have AO1RP := Lib.hid (rows_apart HO1.out HRP.out (by omega))
    have AO1RR := Lib.hid (rows_apart HO1.out HRR.out (by omega))
    have AP1O2 := Lib.hid (rows_apart HP1.out HO2.out (by omega))
    have AP1P2 := Lib.hid (rows_apart HP1.out HP2.out (by omega))
    have AP1R1 := Lib.hid (rows_apart HP1.out HR1.out (by omega))
    have AP1R2 := Lib.hid (rows_apart HP1.out HR2.out (by omega))
    have AP1RO := Lib.hid (rows_apart HP1.out HRO.out (by omega))
    have AP1RP := Lib.hid (rows_apart HP1.out HRP.out (by omega))
    have AP1RR := Lib.hid (rows_apart HP1.out HRR.out (by omega))
    have AR1O2 := Lib.hid (rows_apart HR1.out HO2.out (by omega))
    have AR1P2 := Lib.hid (rows_apart HR1.out HP2.out (by omega))
    have AR1R2 := Lib.hid (rows_apart HR1.out HR2.out (by omega))
    have AR1RO := Lib.hid (rows_apart HR1.out HRO.out (by omega))
    have AR1RP := Lib.hid (rows_apart HR1.out HRP.out (by omega))
    have AR1RR := Lib.hid (rows_apart HR1.out HRR.out (by omega))
    have Z := Lib.hid (And.intro z1 (And.intro z2 (And.intro z3 (And.intro z4 (And.intro z5 (And.intro z6 (And.intro z7 (And.intro z8 (And.intro z9 (And.intro z10 (And.intro z11 (And.intro z12 z13))))))))))))
    clear z1 z2 z3 z4 z5 z6 z7 z8 z9 z10 z11 z12 z13
    go_wp2
    go_loopw [20] (OvI w1.heap.size aO1 mO1 cO1 w13) (fun v _ => mO1 - (intOf v).toNat)
    case atStart => exact ⟨0, _, Nat.zero_le _, rfl, XO10.out, World.grownBy.refl _ _⟩
    case round =>
    obtain ⟨k, ys, hk, rfl, hown, hgr⟩ := hrel
    have HO := Lib.hid hown; clear hown
    have HG := Lib.hid hgr; clear hgr
    by_cases hlt : k < mO1
    · obtain ⟨q, ha, -, -, -, -⟩ := HO.out.at (by omega)
      subst ha
      have fz := HO.out.unfrozen k
      obtain ⟨v0, cz⟩ : ∃ v0, wr.cell? ⟨q, k, none⟩ = some v0 := ⟨_, HO.out.cell k (by rw [ivs_length, HO.out.lenI]; exact hlt)⟩
      have hki : (k : Int) < (mO1 : Int) := by omega
      go_wp2
      go_roundw
      case rel => exact ⟨k + 1, ys.set k (-9), hlt, by go_num, by rw [← ivs_set]; exact HO.out.store k _, grown_tr HG.out (grown_store wr q k _)⟩
      case measure => simp [intOf]; omega
    obtain ⟨x1, rfl⟩ : ∃ x1 : World, x1 = wr := ⟨_, rfl⟩
    have G1 := Lib.hid HG.out; clear HG
    have XO21 := Lib.hid (World.ownsRow.kept XO20.out G1.out AO1O2.out)
    have XP11 := Lib.hid (World.ownsRow.kept XP10.out G1.out AO1P1.out)
    have XP21 := Lib.hid (World.ownsRow.kept XP20.out G1.out AO1P2.out)
    have XR11 := Lib.hid (World.ownsRow.kept XR10.out G1.out AO1R1.out)
    have XR21 := Lib.hid (World.ownsRow.kept XR20.out G1.out AO1R2.out)
    have XRO1 := Lib.hid (World.ownsRow.kept XRO0.out G1.out AO1RO.out)
    have XRP1 := Lib.hid (World.ownsRow.kept XRP0.out G1.out AO1RP.out)
    have XRR1 := Lib.hid (World.ownsRow.kept XRR0.out G1.out AO1RR.out)
    have HW1 := Lib.hid (HW0.out.trans (Below.ofGrown G1.out HW0.out.size (fun q hq => by have := (World.ownsRow.lt HO1.out q hq).1; obtain ⟨z1, z2, z3, z4, z5, z6, z7, z8, z9, z10, z11, z12, z13⟩ := Z.out; omega)))
    go_wp2
    clear hlt hk
    go_loopw [21] (OvI w3.heap.size aP1 n cP1 x1) (fun v _ => n - (intOf v).toNat)
    case atStart => exact ⟨0, _, Nat.zero_le _, rfl, XP11.out, World.grownBy.refl _ _⟩
    case round =>
    obtain ⟨k, ys, hk, rfl, hown, hgr⟩ := hrel
    have HO := Lib.hid hown; clear hown
    have HG := Lib.hid hgr; clear hgr
    by_cases hlt : k < n
    · obtain ⟨q, ha, -, -, -, -⟩ := HO.out.at (by omega)
      subst ha
      have fz := HO.out.unfrozen k
      obtain ⟨v0, cz⟩ : ∃ v0, wr.cell? ⟨q, k, none⟩ = some v0 := ⟨_, HO.out.cell k (by rw [ivs_length, HO.out.lenI]; exact hlt)⟩
      have hki : (k : Int) < (n : Int) := by omega
      go_wp2
      go_roundw
      case rel => exact ⟨k + 1, ys.set k (-9), hlt, by go_num, by rw [← ivs_set]; exact HO.out.store k _, grown_tr HG.out (grown_store wr q k _)⟩
      case measure => simp [intOf]; omega
    obtain ⟨x2, rfl⟩ : ∃ x2 : World, x2 = wr := ⟨_, rfl⟩
    have G2 := Lib.hid HG.out; clear HG
    have XO22 := Lib.hid (World.ownsRow.kept XO21.out G2.out AP1O2.out)
    have XP22 := Lib.hid (World.ownsRow.kept XP21.out G2.out AP1P2.out)
    have XR12 := Lib.hid (World.ownsRow.kept XR11.out G2.out AP1R1.out)
    have XR22 := Lib.hid (World.ownsRow.kept XR21.out G2.out AP1R2.out)
    have XRO2 := Lib.hid (World.ownsRow.kept XRO1.out G2.out AP1RO.out)
    have XRP2 := Lib.hid (World.ownsRow.kept XRP1.out G2.out AP1RP.out)
    have XRR2 := Lib.hid (World.ownsRow.kept XRR1.out G2.out AP1RR.out)
    have HW2 := Lib.hid (HW1.out.trans (Below.ofGrown G2.out HW1.out.size (fun q hq => by have := (World.ownsRow.lt HP1.out q hq).1; obtain ⟨z1, z2, z3, z4, z5, z6, z7, z8, z9, z10, z11, z12, z13⟩ := Z.out; omega)))
    go_wp2
    clear hlt hk
    have q1 := neq_run
    have q2 := eqg_run
    go_loopw [22] (OvS w5.heap.size aR1 mR1 cR1 (runsS zs) x2) (fun v _ => mR1 - (intOf v).toNat)
    case atStart => exact ⟨0, _, Nat.zero_le _, rfl, XR12.out, rfl, World.grownBy.refl _ _⟩
    case round =>
    obtain ⟨k, xs, hk, rfl, hown, hdr, hgr⟩ := hrel
    have HO := Lib.hid hown; clear hown
    have HD := Lib.hid hdr; clear hdr
    have HG := Lib.hid hgr; clear hgr
    by_cases hlt : k < mR1
    · have hkr : k < (runsS zs).length := by rw [hR1.out]; exact hlt
      have XR : Hid (OwnR w10.heap.size wr aRR mR1 cRR (runsS zs)) := Lib.hid (World.ownsRow.kept XRR2.out HG.out AR1RR.out)
      obtain ⟨gR, ha, -, -, -, -⟩ := XR.out.at (by omega)
      subst ha
      obtain ⟨u0, u1, u2⟩ := XR.out.runs.get k hkr
      obtain ⟨q, ha, -, -⟩ := Any.at ⟨_, HO.out⟩ (by omega)
      subst ha
      obtain ⟨e0, e1, e2⟩ := flatR_get (runsS zs) k hkr
      have v0 := World.ownsRow.cellAt HO.out (k * 3) (by omega)
      have v1 := World.ownsRow.cellAt HO.out (k * 3 + 1) (by omega)
      have v2 := World.ownsRow.cellAt HO.out (k * 3 + 2) (by omega)
      rw [drop_get HD.out (k * 3) (Nat.le_refl _), e0] at v0
      rw [drop_get HD.out (k * 3 + 1) (by omega), e1] at v1
      rw [drop_get HD.out (k * 3 + 2) (by omega), e2] at v2
      clear e0 e1 e2
      generalize (runsS zs)[k] = r at *
      simp only [Nat.zero_add] at u0 u1 u2
      have hki : (k : Int) < (mR1 : Int) := by omega
      go_wp2
      go_quiet (fail)
      have HOd : Hid ((wr.drewN nq).ownsRow w5.heap.size 68 3 (.slice (some ⟨q, 0, none⟩) mR1 cR1) mR1 xs) := Lib.hid HO.out
      have HGd := Lib.hid (grown_tr HG.out (grown_drewN' wr nq _))
      clear u0 u1 u2 v0 v1 v2
      generalize wr.drewN nq = w20 at *
      obtain ⟨p0, p1, p2, b0, b1, b2, b3, b4, b5⟩ := there_three (Any.there ⟨_, HOd.out⟩ k hlt) (.int .i64 (-9)) (.int .i64 0)
      have HOs := Lib.hid (stored3 HOd.out k (.int .i64 (-9)) (.int .i64 0) (.int .i8 0))
      have HGs := Lib.hid (grown_tr HGd.out (grown3 w20 q k (.int .i64 (-9)) (.int .i64 0) (.int .i8 0)))
      have HDs : Hid (((((xs.set (k * 3) (.int .i64 (-9))).set (k * 3 + 1) (.int .i64 0)).set (k * 3 + 2) (.int .i8 0))).drop ((k + 1) * 3) = (flatR (runsS zs)).drop ((k + 1) * 3)) := Lib.hid (by rw [drop_set3]; exact drop_after HD.out (by omega))
      go_wp2
      go_roundw
      case rel => exact ⟨k + 1, _, hlt, by go_num, HOs.out, HDs.out, HGs.out⟩
      case measure => simp [intOf]; omega
    obtain ⟨x3, rfl⟩ : ∃ x3 : World, x3 = wr := ⟨_, rfl⟩
    have G3 := Lib.hid HG.out; clear HG
    clear HD HO
    have XO23 := Lib.hid (World.ownsRow.kept XO22.out G3.out AR1O2.out)
    have XP23 := Lib.hid (World.ownsRow.kept XP22.out G3.out AR1P2.out)
    have XR23 := Lib.hid (World.ownsRow.kept XR22.out G3.out AR1R2.out)
    have XRO3 := Lib.hid (World.ownsRow.kept XRO2.out G3.out AR1RO.out)
    have XRP3 := Lib.hid (World.ownsRow.kept XRP2.out G3.out AR1RP.out)
    have XRR3 := Lib.hid (World.ownsRow.kept XRR2.out G3.out AR1RR.out)
    have HW3 := Lib.hid (HW2.out.trans (Below.ofGrown G3.out HW2.out.size (fun q hq => by have := (World.ownsRow.lt HR1.out q hq).1; obtain ⟨z1, z2, z3, z4, z5, z6, z7, z8, z9, z10, z11, z12, z13⟩ := Z.out; omega)))
    go_wp2
    clear hlt hk
    go_loopw [23] (fun v wr => ∃ k : Nat, k ≤ mR1 ∧ v = .int .i64 k ∧ Below x3.heap.size x3 wr) (fun v _ => mR1 - (intOf v).toNat)
    case atStart => exact ⟨0, Nat.zero_le _, rfl, Below.refl _ _⟩
    case round =>
    obtain ⟨k, hk, rfl, hbel⟩ := hrel
    have HBk := Lib.hid hbel; clear hbel
    by_cases hlt : k < mR1
    · have hkr : k < (runsS zs).length := by rw [hR1.out]; exact hlt
      have XR : Hid (OwnR w10.heap.size wr aRR mR1 cRR (runsS zs)) := Lib.hid (OwnR.below XRR3.out HBk.out (Nat.le_refl _))
      have XS : Hid (OwnR w6.heap.size wr aR2 mR1 cR2 (runsS zs)) := Lib.hid (OwnR.below XR23.out HBk.out (Nat.le_refl _))
      obtain ⟨gR, ha, -, -, -, -⟩ := XR.out.at (by omega)
      subst ha
      obtain ⟨u0, u1, u2⟩ := XR.out.runs.get k hkr
      obtain ⟨gS, ha, -, -, -, -⟩ := XS.out.at (by omega)
      subst ha
      obtain ⟨v0, v1, v2⟩ := XS.out.runs.get k hkr
      generalize (runsS zs)[k] = r at *
      simp only [Nat.zero_add] at u0 u1 u2 v0 v1 v2
      have hki : (k : Int) < (mR1 : Int) := by omega
      go_wp2
      go_quiet (fail)
      have HBd := Lib.hid (below_drewN HBk.out nq)
      go_wp2
      go_roundw
      case rel => exact ⟨k + 1, hlt, by go_num, HBd.out⟩
      case measure => simp [intOf]; omega
    have IO2 := Lib.hid ((Own.ints XO23.out).below HBk.out (Nat.le_refl _))
    have IRO := Lib.hid ((Own.ints XRO3.out).below HBk.out (Nat.le_refl _))
    have IP2 := Lib.hid ((Own.ints XP23.out).below HBk.out (Nat.le_refl _))
    have IRP := Lib.hid ((Own.ints XRP3.out).below HBk.out (Nat.le_refl _))
    go_wp2_with fail
    refine (sameInts_self aO2 aRO mO1 cO2 mO1 cRO (ord zs) wr hO1.out hO1.out (by omega) IO2.out IRO.out).mono ?_
    rintro e w21 ⟨rfl, hb21⟩
    go_wp2_with fail
    refine (sameInts_self aP2 aRP n cP2 n cRP (placesL zs) w21 hP1.out hP1.out (by omega) (IP2.out.below hb21 (Nat.le_refl _)) (IRP.out.below hb21 (Nat.le_refl _))).mono ?_
    rintro e w22 ⟨rfl, hb22⟩
    go_wp2_with fail
    refine (lives_walk _).mono ?_
    rintro e w23 ⟨rfl, hb23⟩
    have HEnd := Lib.hid (below_seq HW3.out (below_seq HBk.out (below_seq hb21 (below_seq hb22 hb23))))
    go_wp2
    go_ret
    exact ⟨rfl, HEnd.out⟩
  · have hok2 : okL zs = false := by simpa using hok
    have HK := Lib.hid hok2; clear hok hok2
    have HM0 := Lib.hid (show mayN zs = 2 by unfold mayN; rw [HK.out]; rfl)
    go_wp2_with fail
    refine (Order_bad (some ⟨g, 0, none⟩) n c zs w1 HN.out hm HK.out HIG1.out).mono ?_
    rintro e w' ⟨rfl, rfl⟩
    go_wp2_with fail
    refine (Order_bad a n cap zs w1 HN.out hm HK.out HIL1.out).mono ?_
    rintro e w' ⟨rfl, rfl⟩
    go_wp2_with fail
    refine (Places_bad (some ⟨g, 0, none⟩) n c zs w1 HN.out hm HK.out HIG1.out).mono ?_
    rintro e w' ⟨rfl, rfl⟩
    go_wp2_with fail
    refine (Places_bad a n cap zs w1 HN.out hm HK.out HIL1.out).mono ?_
    rintro e w' ⟨rfl, rfl⟩
    go_wp2_with fail
    refine (Runs_bad (some ⟨g, 0, none⟩) n c zs w1 HN.out hm HK.out HIG1.out).mono ?_
    rintro e w2 ⟨rfl, hb⟩
    have HB2 := Lib.hid hb; clear hb
    have HIL2 := Lib.hid (HIL1.out.below HB2.out (Nat.le_refl _))
    go_wp2_with fail
    refine (Runs_bad a n cap zs w2 HN.out hm HK.out HIL2.out).mono ?_
    rintro e w3 ⟨rfl, hb⟩
    have HB3 := Lib.hid hb; clear hb
    have HIL3 := Lib.hid (HIL2.out.below HB3.out (Nat.le_refl _))
    go_wp2_with fail
    refine (Check_walk a n cap zs w3 HN.out hm HIL3.out).mono ?_
    rintro e w' ⟨rfl, rfl⟩
    rw [HM0.out]
    have HFull : Hid (Ints .i8 w3 (some ⟨g, 0, none⟩) (zs ++ [77])) := Lib.hid (HG1.out.ints.below (below_seq HB2.out HB3.out) (Nat.le_refl _))
    go_wp2_with fail
    refine (kept_walk g c a n cap zs w3 HN.out hm hnc HFull.out HIL3.out).mono ?_
    rintro e w4 ⟨rfl, hb⟩
    have HB4 := Lib.hid hb; clear hb
    go_wp2_with fail
    refine (lives_walk _).mono ?_
    rintro e w5 ⟨rfl, hb⟩
    have HEnd := Lib.hid (below_seq HB1.out (below_seq HB2.out (below_seq HB3.out (below_seq HB4.out hb))))
    go_wp2
    go_ret
    exact ⟨rfl, HEnd.out⟩
end Go.Proofs.Ytcgdhgdblieaiaa
