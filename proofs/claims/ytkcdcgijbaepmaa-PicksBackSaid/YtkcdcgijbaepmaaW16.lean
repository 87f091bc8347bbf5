/-
  The walk of the document's Shown.
-/
import Derived.Test.YtkcdcgijbaepmaaW15
set_option linter.unusedVariables false
namespace Go.Proofs.Ytkcdcgijbaepmaa
open Go.RowKit

set_option maxRecDepth 100000 in
set_option maxHeartbeats 2000000 in
theorem rShown_walk (aO : Option Addr) (nO cO : Nat) (os : List Int) (a : Option Addr) (n c : Nat) (ps : List PD) (w : World) (hnO : os.length = nO) (hltO : nO ≤ 65536) (hcO : Ints .i64 w aO os) (hn : ps.length = n) (hlt : n ≤ 65536) (hc : PiecesAt w a ps) :
    Calls Try.prog 18 #[.slice aO nO cO, .slice a n c] w fun e w' => ∃ a' m c', e = .returned (.tuple #[.slice a' m c', .int .i64 (visE os ps)]) ∧ OwnP w.heap.size w' a' m c' (visL os ps) ∧ Below w.heap.size w w' := by
  have HNO := Lib.hid hnO; clear hnO
  have HN := Lib.hid hn; clear hn
  have HCO := Lib.hid hcO; clear hcO
  have HC := Lib.hid hc; clear hc
  go_enter Try.func18, Try.ntmps18
  go_wp2_with fail
  refine (ordered_walk aO nO cO os w HNO.out hltO HCO.out).mono ?_
  rintro e w1 ⟨rfl, hb⟩
  have HB1 := Lib.hid hb; clear hb
  by_cases h1 : orderB os = false
  · have HE := Lib.hid (show visE os ps = 261 from if_pos h1)
    have HL := Lib.hid (show visL os ps = [] from if_pos h1)
    rw [h1]
    clear h1
    go_wp2
    go_ret2
    exact ⟨_, _, _, by rw [HE.out]; rfl, by rw [HL.out]; exact OwnP.nil _ _, HB1.out⟩
  · have h1t : orderB os = true := by simpa using h1
    rw [h1t]
    have H1 := Lib.hid h1; clear h1 h1t
    have HC1 := Lib.hid (HC.out.below HB1.out (Nat.le_refl _))
    go_wp2_with fail
    refine (rwrong_walk a n c ps (-1) w1 HN.out (by omega) HC1.out).mono ?_
    rintro e w2 ⟨rfl, hb⟩
    rw [badB_neg]
    have HB2 := Lib.hid hb; clear hb
    by_cases h2 : Any_wrong ps = true
    · have HE := Lib.hid (show visE os ps = 260 by unfold visE; rw [if_neg H1.out, if_pos h2])
      have HL := Lib.hid (show visL os ps = [] by unfold visL; rw [if_neg H1.out, if_pos h2])
      have HBb := Lib.hid (below_sq HB1.out HB2.out)
      rw [h2]
      clear h2
      go_wp2
      go_ret2
      exact ⟨_, _, _, by rw [HE.out]; rfl, by rw [HL.out]; exact OwnP.nil _ _, HBb.out⟩
    · have HE := Lib.hid (show visE os ps = 0 by unfold visE; rw [if_neg H1.out, if_neg h2])
      have HL := Lib.hid (show visL os ps = joinL (shL os ps nO) by unfold visL; rw [if_neg H1.out, if_neg h2, HNO.out])
      have h2f : Any_wrong ps = false := by simpa using h2
      rw [h2f]
      clear h2 h2f
      have HC2 := Lib.hid (HC1.out.below HB2.out (Nat.le_refl _))
      have HB3 := Lib.hid (below_sq HB1.out HB2.out)
      have HCO3 := Lib.hid (HCO.out.below HB3.out (Nat.le_refl _))
      obtain ⟨w3, hw3⟩ : ∃ w3 : World, w3 = w2 := ⟨_, rfl⟩
      subst hw3
      go_wp2
      go_loopw [6, 7] (VisR w3 nO os ps) (fun _ i _ => nO - (intOf i).toNat)
      case atStart => exact ⟨0, none, 0, 0, Nat.zero_le _, rfl, rfl, OwnP.nil _ _, Below.refl _ _⟩
      case round =>
        obtain ⟨k, a', m, c', hk, rfl, rfl, hown, hbel⟩ := hrel
        have hm : m ≤ k := by have := hown.len; have := shL_length os ps k; omega
        have HO := Lib.hid hown; clear hown
        have HB := Lib.hid hbel; clear hbel
        by_cases hkn : k < nO
        · have hk1 : k < os.length := by rw [HNO.out]; exact hkn
          obtain ⟨b, o, ha⟩ := HCO3.out.some (by omega)
          subst ha
          have cz := (HCO3.out.below HB.out (Nat.le_refl _)).get k hk1
          have HG : Hid (os.getD k 0 = os[k]) := Lib.hid (by simp [hk1])
          have HY := Lib.hid (fun h => shL_yes (os := os) (ps := ps) (k := k) h)
          have HNn := Lib.hid (fun h => shL_no (os := os) (ps := ps) (k := k) h)
          rw [HG.out] at HY HNn
          clear HG
          generalize os[k] = z at *
          have hki : (k : Int) < (nO : Int) := by omega
          go_wp2_with fail
          refine (Has_walk a n c ps z wr HN.out (by omega) (HC2.out.below HB.out (Nat.le_refl _))).mono ?_
          rintro e w5 ⟨rfl, rfl⟩
          have HB5 := Lib.hid HB.out
          have HO5 := Lib.hid HO.out
          by_cases hv : covB ps z = true
          · have HE1 := Lib.hid (HY.out hv)
            rw [hv]
            clear hv HY HNn
            go_wp2_with (at_builtin; refine wpList_appN Try.elemPiece rfl (.tmp 25) (.tmp 30) rfl HO5.out HB5.out.size (by omega) (by omega) #[.int .i64 (k : Nat), .int .i64 ((k : Int) + 1)] rfl (by intro u hu; simp at hu; rcases hu with rfl | rfl <;> rfl) _ rfl rfl ?_)
            intro a9 c9 w9 ho9 hg9 _
            have HN9 : Hid (OwnP w3.heap.size w9 a9 (m + 1) c9 (shL os ps (k + 1))) := Lib.hid (by rw [HE1.out]; unfold OwnP; rw [flatP_push]; exact ho9)
            have HB9 := Lib.hid (HB5.out.trans (HO5.out.app hg9 HB5.out.size))
            clear ho9 hg9
            go_wp2
            go_roundw
            case rel => exact ⟨k + 1, _, _, _, by omega, by go_num, rfl, HN9.out, HB9.out⟩
            case measure => simp [intOf]; omega
          · have hvf : covB ps z = false := by simpa using hv
            have HE1 := Lib.hid (HNn.out hvf)
            rw [hvf]
            clear hv hvf HY HNn
            go_wp2
            go_roundw
            case rel => exact ⟨k + 1, _, _, _, by omega, by go_num, rfl, by rw [HE1.out]; exact HO5.out, HB5.out⟩
            case measure => simp [intOf]; omega
        · obtain rfl : nO = k := by omega
          have HNo : Hid (a' = none → c' = 0) := Lib.hid (fun e => by
            rcases HO.out.2 with ⟨h, _⟩ | ⟨g, cap', cur, h, _⟩
            · simp at h; exact h.2.2
            · rw [e] at h; simp at h)
          have HLs := Lib.hid HO.out.len
          go_wp2_with fail
          refine (rJoin_walk a' m c' (shL os ps nO) wr HLs.out (by omega) HO.out.pieces).mono ?_
          rintro e w6 ⟨aR, nR, cR, rfl, hoR, hb⟩
          have HRes : Hid (OwnP w.heap.size w6 aR nR cR (visL os ps)) := Lib.hid (by rw [HL.out]; exact hoR.mono (by have := HB3.out.size; have := HB.out.size; omega))
          have HEnd := Lib.hid (below_sq HB3.out (below_sq HB.out hb))
          clear hoR hb
          go_wp2
          go_ret2
          exact ⟨_, _, _, by rw [HE.out]; rfl, HRes.out, HEnd.out⟩
end Go.Proofs.Ytkcdcgijbaepmaa
