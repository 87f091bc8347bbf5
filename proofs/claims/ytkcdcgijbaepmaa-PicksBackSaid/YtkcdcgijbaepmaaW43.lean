/-
  The walk of PicksBack.
-/
import Derived.Test.YtkcdcgijbaepmaaV4
import Derived.Test.YtkcdcgijbaepmaaW25
set_option linter.unusedVariables false
set_option linter.unusedSimpArgs false
namespace Go.Proofs.Ytkcdcgijbaepmaa
open Go.RowKit

/-- the highest level so far -/
def HiR (w2 : World) (zs os : List Int) (N : Nat) (hv i : Value) (wr : World) : Prop :=
  ∃ (k : Nat) (h : Int), k ≤ N ∧ i = .int .i64 k ∧ hv = .int .i8 h ∧ 0 ≤ h ∧ h ≤ 126 ∧ (∀ x ∈ os.take k, zs.getD x.toNat 0 ≤ h) ∧ Below w2.heap.size w2 wr

set_option maxRecDepth 100000 in
set_option maxHeartbeats 1600000 in
theorem picksBack_walk (a : Option Addr) (n c : Nat) (zs : List Int) (b : Option Addr) (n2 c2 : Nat) (ps : List PD) (w : World) (hn : zs.length = n) (hc : Ints .i8 w a zs) (hn2 : ps.length = n2) (hc2 : PiecesAt w b ps) (hnone2 : b = none → c2 = 0) :
    Calls Try.prog 8 #[.slice a n c, .slice b n2 c2] w fun e w' => e = .returned (.bool true) ∧ Below w.heap.size w w' := by
  have HN := Lib.hid hn; clear hn
  have HC := Lib.hid hc; clear hc
  have HN2 := Lib.hid hn2; clear hn2
  have HC2 := Lib.hid hc2; clear hc2
  have HZ2 := Lib.hid hnone2; clear hnone2
  by_cases h6 : 600 < n ∨ 600 < n2
  · have hd : (600 : Int) < (n : Int) ∨ (¬ (600 : Int) < (n : Int) ∧ (600 : Int) < (n2 : Int)) := by omega
    clear h6
    rcases hd with h6i | ⟨h6i, h6j⟩
    all_goals
      go_enter Try.func8, Try.ntmps8
      go_wp2_with fail
      refine (awake_walk _).mono ?_
      rintro e w1 ⟨rfl, hb⟩
      have HB := Lib.hid hb; clear hb
      go_wp2
      go_ret
      exact ⟨rfl, HB.out⟩
  · have h6i : ¬ (600 : Int) < (n : Int) := by omega
    have h6j : ¬ (600 : Int) < (n2 : Int) := by omega
    have hn6 : n ≤ 600 := by omega
    have hn7 : n2 ≤ 600 := by omega
    clear h6
    by_cases hok : okL zs = true
    · have HK := Lib.hid hok; clear hok
      have HOrd := Lib.hid (ord_orderB zs (by have := HN.out; omega))
      have HMem := Lib.hid (fun i (hi : i < (ord zs).length) => shownIdx_nonneg zs (ord zs) (ord_perm zs) i hi)
      have HNd := Lib.hid (nodup_ord zs)
      have HPos := Lib.hid (fun x (hx : x ∈ ord zs) => show 0 ≤ x ∧ x < (n : Int) from by have := (mem_ord zs x).1 hx; have := HN.out; omega)
      have HHi := Lib.hid (fun (h : Int) (h0 : 0 ≤ h) hx => high_le (zs := zs) (h := h) h0 hx)
      have HOne := Lib.hid (fun hw h1 => one_le (zs := zs) (ps := ps) (by have := HN.out; omega) hw h1)
      have HHp := Lib.hid (high_pos zs)
      have hle := ord_le zs
      have hle2 : (ord zs).length ≤ 600 := by have := HN.out; omega
      clear hle
      go_enter Try.func8, Try.ntmps8
      go_wp2_with fail
      refine (Order_walk a n c zs w HN.out (by omega) HK.out HC.out).mono ?_
      rintro e w1 ⟨aO, N, cO, rfl, hown, hb⟩
      have hNo := hown.lenI
      generalize high zs = hh at *
      generalize ord zs = os at *
      have HNO := Lib.hid hNo
      have HCO := Lib.hid hown.ints
      have HB1 := Lib.hid hb
      have hN6 : N ≤ 600 := by omega
      clear hown hb hNo hle2
      go_wp2_with fail
      refine (Visual_walk aO N cO os b n2 c2 ps w1 HNO.out (by omega) HCO.out HN2.out (by omega) (HC2.out.below HB1.out (Nat.le_refl _)) HZ2.out).mono ?_
      rintro e w2 ⟨aV, nV, cV, rfl, ho, hb⟩
      by_cases hw : Any_wrong ps = true
      · obtain ⟨e1, e2⟩ := visL_bad HOrd.out hw
        rw [e2] at ho
        rw [e1]
        have hl := ho.len
        simp at hl
        subst hl
        have HB2 := Lib.hid (below_sq HB1.out hb)
        clear ho hb hw e1 e2
        go_wp2_with fail
        refine (awake_walk _).mono ?_
        rintro e w3 ⟨rfl, hb⟩
        have HB3 := Lib.hid (below_sq HB2.out hb); clear hb
        go_wp2
        go_ret
        exact ⟨rfl, HB3.out⟩
      · have hwf : Any_wrong ps = false := by simpa using hw
        obtain ⟨e1, -⟩ := visL_eq HOrd.out hwf
        rw [e1]
        have HW := Lib.hid hwf
        have HV := Lib.hid ho.pieces
        have HLV := Lib.hid ho.len
        have HV0 := Lib.hid (show aV = none → cV = 0 from fun h => by
          rcases ho.form with ⟨-, -, h2⟩ | ⟨g, h2, -⟩
          · exact h2
          · rw [h2] at h; cases h)
        have hnV : nV ≤ 600 := by
          have h1 := ho.len
          rw [(visL_eq HOrd.out hwf).2] at h1
          have h2 := joinL_length (shL os ps os.length)
          have h3 := shL_length os ps os.length
          have := HNO.out
          omega
        have HB2 := Lib.hid (below_sq HB1.out hb)
        have HCO2 := Lib.hid (HCO.out.below hb (Nat.le_refl _))
        clear ho hb hw hwf e1
        go_wp2
        go_loopw [8, 9] (HiR w2 zs os N) (fun _ i _ => N - (intOf i).toNat)
        case atStart => exact ⟨0, 0, Nat.zero_le _, rfl, rfl, by omega, by omega, fun x hx => by simp at hx, Below.refl _ _⟩
        case round =>
          obtain ⟨k, h, hk, rfl, rfl, hh0, hh1, hall, hbr⟩ := hrel
          have HBr := Lib.hid hbr; clear hbr
          have HAl := Lib.hid hall; clear hall
          by_cases hkN : k < N
          · have hko : k < os.length := by rw [HNO.out]; exact hkN
            obtain ⟨x, hx, hxz⟩ := HMem.out k hko
            have hxn : x < n := by rw [← HN.out]; exact hxz
            obtain ⟨b0, o0, ha⟩ := HCO2.out.some (by omega)
            subst ha
            have c1 := (HCO2.out.below HBr.out (Nat.le_refl _)).get k hko
            rw [hx] at c1
            have HB2r := Lib.hid (below_sq HB2.out HBr.out)
            obtain ⟨b1, o1, ha⟩ := HC.out.some (by omega)
            subst ha
            have c2' := (HC.out.below HB2r.out (Nat.le_refl _)).get x hxz
            have hIn := visL_in HOrd.out HW.out k hko
            rw [show os.getD k 0 = (x : Int) by simp [hko, hx]] at hIn
            have HIn := Lib.hid hIn; clear hIn
            have HStp := Lib.hid (show ∀ y ∈ os.take (k + 1), zs.getD y.toNat 0 ≤ max h zs[x] from fun y hy => by
              rw [List.take_succ_eq_append_getElem hko] at hy
              rcases List.mem_append.1 hy with hy | hy
              · have := HAl.out y hy; omega
              · rw [List.mem_singleton] at hy
                subst hy
                rw [hx]
                simp [hxz]
                omega)
            have hz := okL_get zs HK.out x hxz
            clear hx hko
            generalize zs[x] = z at *
            have HHa := Lib.hid (fun d' => (in_walk aV nV cV (visL os ps) (k : Int) (wr.drewN d') HLV.out (by omega) ((HV.out.below HBr.out (Nat.le_refl _)).below (below_drewN (Below.refl _ _) d') (Nat.le_refl _))).mono (fun e w' (h : e = .returned (.bool (covB (visL os ps) (k : Int))) ∧ wr.drewN d' = w') => And.intro h.1 h.2.symm))
            have HHb := Lib.hid (fun d' => (in_walk b n2 c2 ps (x : Int) (wr.drewN d') HN2.out (by omega) ((HC2.out.below HB2r.out (Nat.le_refl _)).below (below_drewN (Below.refl _ _) d') (Nat.le_refl _))).mono (fun e w' (h : e = .returned (.bool (covB ps (x : Int))) ∧ wr.drewN d' = w') => And.intro h.1 h.2.symm))
            rw [HIn.out] at HHa
            generalize covB ps (x : Int) = u at *
            have hki : (k : Int) < (N : Int) := by omega
            have hxi : (x : Int) < (n : Int) := by omega
            have hxx : (0 : Int) ≤ (x : Int) := by omega
            cases u
            all_goals
              go_wp2
              refine wp_region_quiet_lit (by kernel_rfl) (by kernel_rfl) ?_
              iterate 2 (quiet_step (fail))
              quiet_step ((go_at_call 29; exact Calls.quiet_of_same (HHa.out _)))
              iterate 5 (quiet_step (fail))
              quiet_step ((go_at_call 29; exact Calls.quiet_of_same (HHb.out _)))
              iterate 1 (quiet_step (fail))
              refine wpQuiet_nil ?_
              intro _ hw'
              obtain ⟨nq, hw''⟩ := hw'
              subst hw''
              go_wp2
              exact ⟨⟨k + 1, max h z, by omega, by go_num, rfl, by omega, by omega, HStp.out, below_drewN HBr.out nq⟩, by simp [intOf]; omega⟩
          · obtain rfl : k = N := by omega
            have hki : ¬ (k : Int) < (k : Int) := by omega
            have hta : os.take k = os := List.take_of_length_le (by have := HNO.out; omega)
            rw [hta] at HAl
            have HFin := Lib.hid (HHi.out h hh0 HAl.out)
            obtain ⟨le1, le2⟩ := logE_vis HOrd.out HW.out
            have HL1 := Lib.hid le1; clear le1
            have HL2 := Lib.hid le2; clear le2 hta HAl HMem
            go_wp2_with fail
            refine (Logical_walk aO k cO os aV nV cV (visL os ps) wr HNO.out (by omega) (HCO2.out.below HBr.out (Nat.le_refl _)) HLV.out (by omega) (HV.out.below HBr.out (Nat.le_refl _)) HV0.out).mono ?_
            rintro e w3 ⟨aL, nL, cL, rfl, ho, hb⟩
            rw [HL1.out]
            rw [HL2.out] at ho
            have HBs := Lib.hid (below_sq HBr.out hb)
            have HL := Lib.hid ho.pieces
            have HLL := Lib.hid ho.len
            have HL0 := Lib.hid (show aL = none → cL = 0 from fun h => by
              rcases ho.form with ⟨-, -, h2⟩ | ⟨g, h2, -⟩
              · exact h2
              · rw [h2] at h; cases h)
            have hnL : nL ≤ 600 := by
              have h1 := ho.len
              have h2 := logL_length os (visL os ps)
              have := HNO.out
              omega
            have HB3 := Lib.hid (below_sq HB2.out HBs.out)
            clear ho hb HL1 HL2
            go_wp2
            go_loop [11] (fun i => ∃ j : Nat, j ≤ k ∧ i = .int .i64 j) (fun i => k - (intOf i).toNat)
            case atStart => exact ⟨0, Nat.zero_le _, rfl⟩
            case round =>
              obtain ⟨j, hj, rfl⟩ := hrel
              by_cases hjk : j < k
              · have hjo : j < os.length := by rw [HNO.out]; exact hjk
                obtain ⟨b0, o0, ha⟩ := HCO2.out.some (by omega)
                subst ha
                have c1 := (HCO2.out.below HBs.out (Nat.le_refl _)).get j hjo
                have hIn := log_in HNd.out (visL os ps) j hjo
                rw [show os.getD j 0 = os[j] by simp [hjo]] at hIn
                have HIn := Lib.hid hIn; clear hIn
                generalize os[j] = x at *
                have hji : (j : Int) < (k : Int) := by omega
                go_wp2_with fail
                refine (in_walk aL nL cL (logL os (visL os ps)) x w3 HLL.out (by omega) HL.out).mono ?_
                rintro e w4 ⟨rfl, rfl⟩
                go_wp2_with fail
                refine (in_walk aV nV cV (visL os ps) (j : Int) w3 HLV.out (by omega) (HV.out.below HBs.out (Nat.le_refl _))).mono ?_
                rintro e w4 ⟨rfl, rfl⟩
                rw [HIn.out]
                generalize covB (visL os ps) (j : Int) = u at *
                cases u
                all_goals
                  go_wp2
                  go_round
                  case rel => exact ⟨j + 1, by omega, by go_num⟩
                  case measure => simp [intOf]; omega
              · obtain rfl : j = k := by omega
                clear hj hjk
                obtain ⟨e3, e4⟩ := visL_eq HOrd.out (log_right HNd.out (fun x hx => (HPos.out x hx).1) (visL os ps))
                have HBk := Lib.hid (back_eq HOrd.out HNd.out (fun x hx => (HPos.out x hx).1) HW.out)
                have HE3 := Lib.hid e3; clear e3 e4
                go_wp2_with fail
                refine (Visual_walk aO j cO os aL nL cL (logL os (visL os ps)) w3 HNO.out (by omega) (HCO2.out.below HBs.out (Nat.le_refl _)) HLL.out (by omega) HL.out HL0.out).mono ?_
                rintro e w5 ⟨aK, nK, cK, rfl, ho, hb⟩
                rw [HE3.out]
                rw [HBk.out] at ho
                have HBs5 := Lib.hid (below_sq HBs.out hb)
                have HK5 := Lib.hid ho.pieces
                have HKL := Lib.hid ho.len
                have HB5 := Lib.hid (below_sq HB3.out hb)
                clear ho hb HE3 HBk
                go_wp2_with fail
                have HA6 := Lib.hid (pieces_lit w5 [⟨0, (n : Int)⟩] #[.int .i64 0, .int .i64 (n : Nat)] rfl)
                have HB6a := Lib.hid ((Below.refl w5.heap.size w5).alloc (Nat.le_refl _) (.cells #[.int .i64 0, .int .i64 (n : Nat)] 45))
                generalize (w5.alloc (.cells #[.int .i64 0, .int .i64 (n : Nat)] 45)) = w6 at *
                have HB6 := Lib.hid (below_sq HB5.out HB6a.out)
                have HBs6 := Lib.hid (below_sq HBs5.out HB6a.out)
                refine (Visual_walk aO j cO os (some ⟨w5.heap.size, 0, none⟩) 1 1 [⟨0, (n : Int)⟩] w6 HNO.out (by omega) (HCO2.out.below HBs6.out (Nat.le_refl _)) rfl (by decide) HA6.out (fun h => by cases h)).mono ?_
                rintro e w7 ⟨aW, nW, cW, rfl, ho, hb⟩
                rw [(visL_eq HOrd.out (whole_right n)).1]
                rw [whole_eq HOrd.out HPos.out, HNO.out] at ho
                have HBs7 := Lib.hid (below_sq HBs6.out hb)
                have HK7 := Lib.hid ((HK5.out.below HB6a.out (Nat.le_refl _)).below hb (Nat.le_refl _))
                have HB7 := Lib.hid (below_sq HB6.out hb)
                have HV7 := Lib.hid (HV.out.below HBs7.out (Nat.le_refl _))
                have HP7 := Lib.hid ho.pieces
                have hlw := ho.len
                clear ho hb HA6 HB6a HB6 HBs6 HBs5 HBs HB5 HB3 HK5
                have q1 := neq_piece
                have q2 := eqg_piece
                by_cases hj0 : j = 0
                · subst hj0
                  simp at hlw
                  subst hlw
                  go_wp2_with fail
                  refine (same_walk aK nK cK (visL os ps) aV nV cV (visL os ps) w7 HKL.out HLV.out (by have := HKL.out; have := HLV.out; omega) HK7.out HV7.out).mono ?_
                  rintro e w8 ⟨rfl, hb⟩
                  rw [decide_eq_true rfl]
                  have HB8 := Lib.hid (below_sq HB7.out hb)
                  clear hb
                  by_cases hp : n2 = 1
                  · have hle : (nV : Int) ≤ 2 * h + 1 := by
                      have h2 := HOne.out HW.out (by rw [HN2.out]; exact hp)
                      rw [HLV.out] at h2
                      have h3 := HFin.out
                      have h4 := HHp.out
                      rcases h2 with h2 | h2 <;> omega
                    have hpi : (n2 : Int) = 1 := by omega
                    clear hp HOne HFin HHp
                    go_wp2_with fail
                    refine (awake_walk _).mono ?_
                    rintro e w9 ⟨rfl, hb⟩
                    have HB9 := Lib.hid (below_sq HB8.out hb); clear hb
                    go_wp2
                    go_ret
                    exact ⟨rfl, HB9.out⟩
                  · have hpi : ((n2 : Int) != 1) = true := by simp; omega
                    have hpj : ¬ (n2 : Int) = 1 := by omega
                    clear hp HOne HFin HHp
                    go_wp2_with fail
                    refine (awake_walk _).mono ?_
                    rintro e w9 ⟨rfl, hb⟩
                    have HB9 := Lib.hid (below_sq HB8.out hb); clear hb
                    go_wp2
                    go_ret
                    exact ⟨rfl, HB9.out⟩
                · have hj1 : (0 : Int) < (j : Int) := by omega
                  rw [if_neg hj0] at HP7 hlw
                  simp at hlw
                  subst hlw
                  obtain ⟨b3, o3, ha⟩ := HP7.out.some (by simp)
                  subst ha
                  go_wp2_with fail
                  refine (same_walk aK nK cK (visL os ps) aV nV cV (visL os ps) w7 HKL.out HLV.out (by have := HKL.out; have := HLV.out; omega) HK7.out HV7.out).mono ?_
                  rintro e w8 ⟨rfl, hb⟩
                  rw [decide_eq_true rfl]
                  have HB8 := Lib.hid (below_sq HB7.out hb)
                  have hP8 := (HP7.out.below hb (Nat.le_refl _)).get 0 (by simp)
                  simp only [Nat.zero_mul, Nat.add_zero, List.getElem_cons_zero] at hP8
                  obtain ⟨p0, p1⟩ := hP8
                  clear hb
                  by_cases hp : n2 = 1
                  · have hle : (nV : Int) ≤ 2 * h + 1 := by
                      have h2 := HOne.out HW.out (by rw [HN2.out]; exact hp)
                      rw [HLV.out] at h2
                      have h3 := HFin.out
                      have h4 := HHp.out
                      rcases h2 with h2 | h2 <;> omega
                    have hpi : (n2 : Int) = 1 := by omega
                    clear hp HOne HFin HHp
                    go_wp2_with fail
                    refine (awake_walk _).mono ?_
                    rintro e w9 ⟨rfl, hb⟩
                    have HB9 := Lib.hid (below_sq HB8.out hb); clear hb
                    go_wp2
                    go_ret
                    exact ⟨rfl, HB9.out⟩
                  · have hpi : ((n2 : Int) != 1) = true := by simp; omega
                    have hpj : ¬ (n2 : Int) = 1 := by omega
                    clear hp HOne HFin HHp
                    go_wp2_with fail
                    refine (awake_walk _).mono ?_
                    rintro e w9 ⟨rfl, hb⟩
                    have HB9 := Lib.hid (below_sq HB8.out hb); clear hb
                    go_wp2
                    go_ret
                    exact ⟨rfl, HB9.out⟩
    · have hkf : okL zs = false := by simpa using hok
      have HK := Lib.hid hkf; clear hok hkf
      go_enter Try.func8, Try.ntmps8
      go_wp2_with fail
      refine (Order_bad a n c zs w HN.out (by omega) HK.out HC.out).mono ?_
      rintro e w1 ⟨rfl, rfl⟩
      go_wp2_with fail
      refine (awake_walk _).mono ?_
      rintro e w2 ⟨rfl, hb⟩
      have HB := Lib.hid hb; clear hb
      go_wp2
      go_ret
      exact ⟨rfl, HB.out⟩
end Go.Proofs.Ytkcdcgijbaepmaa
