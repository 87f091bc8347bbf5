/-
  The walk of PicksTurns.
-/
import Derived.Test.YtkcdcgijbaepmaaW26
import Derived.Test.YtkcdcgijbaepmaaW28
set_option linter.unusedVariables false
set_option linter.unusedSimpArgs false
namespace Go.Proofs.Ytkcdcgijbaepmaa
open Go.RowKit

theorem OwnP.none {B : Nat} {w : World} {a : Option Addr} {n c : Nat} {rs : List PD} (h : OwnP B w a n c rs) : a = Option.none → c = 0 := fun e => by
  rcases h.form with ⟨_, _, h⟩ | ⟨g, h, _⟩
  · exact h
  · rw [e] at h; cases h
theorem turnL_length (a b : List PD) : (turnL a b).length ≤ a.length + b.length := by
  unfold turnL
  have h1 := joinL_length (pairsL (sortI (bothE a b)))
  rw [pairsL_length, (sortI_perm _).length_eq, bothE_length] at h1
  have h2 := joinL_length a
  have h3 := joinL_length b
  omega
def RevR (w3 : World) (n : Nat) (ps : List PD) (v i : Value) (wr : World) : Prop :=
  ∃ (k : Nat) (a' : Option Addr) (c' : Nat), k ≤ n ∧ i = .int .i64 ((n : Int) - 1 - k) ∧ v = .slice a' k c' ∧ OwnP w3.heap.size wr a' k c' (ps.reverse.take k) ∧ Below w3.heap.size w3 wr
def ChkR (w3 : World) (n : Nat) (i : Value) (wr : World) : Prop := ∃ k : Nat, k ≤ n ∧ i = .int .i64 k ∧ Below w3.heap.size w3 wr

set_option maxRecDepth 100000 in
set_option maxHeartbeats 8000000 in
theorem picksTurns_walk (a : Option Addr) (n c : Nat) (ps : List PD) (b : Option Addr) (n2 c2 : Nat) (qs : List PD) (w : World) (hn : ps.length = n) (hc : PiecesAt w a ps) (hnone : a = none → c = 0) (hn2 : qs.length = n2) (hc2 : PiecesAt w b qs) (hnone2 : b = none → c2 = 0) :
    Calls Try.prog 6 #[.slice a n c, .slice b n2 c2] w fun e w' => e = .returned (.bool true) ∧ Below w.heap.size w w' := by
  have HN := Lib.hid hn; clear hn
  have HC := Lib.hid hc; clear hc
  have HZ := Lib.hid hnone; clear hnone
  have HN2 := Lib.hid hn2; clear hn2
  have HC2 := Lib.hid hc2; clear hc2
  have HZ2 := Lib.hid hnone2; clear hnone2
  by_cases h6 : 600 < n ∨ 600 < n2
  · have hd : (600 : Int) < (n : Int) ∨ (¬ (600 : Int) < (n : Int) ∧ (600 : Int) < (n2 : Int)) := by omega
    clear h6
    rcases hd with h6i | ⟨h6i, h6j⟩
    all_goals
      go_enter Try.func6, Try.ntmps6
      go_wp2_with fail
      refine (awake_walk _).mono ?_
      rintro e w1 ⟨rfl, hb⟩
      have HB := Lib.hid hb; clear hb
      go_wp2
      go_ret
      exact ⟨rfl, HB.out⟩
  · have h6i : ¬ (600 : Int) < (n : Int) := by omega
    have h6j : ¬ (600 : Int) < (n2 : Int) := by omega
    have hn6 : n ≤ 600 := by omega
    have hn7 : n2 ≤ 600 := by omega
    clear h6
    go_enter Try.func6, Try.ntmps6
    go_wp2_with fail
    refine (Join_walk a n c ps w HN.out (by omega) HC.out HZ.out).mono ?_
    rintro e w1 ⟨aJ, nJ, cJ, rfl, hoJ, hb⟩
    have hnJ : nJ ≤ 600 := by have := hoJ.len; have := joinL_length ps; have := HN.out; omega
    have HJl := Lib.hid hoJ.len
    have HJ := Lib.hid hoJ.pieces
    have HJz := Lib.hid hoJ.none
    have HB1 := Lib.hid hb; clear hoJ hb
    go_wp2_with fail
    refine (Join_walk b n2 c2 qs w1 HN2.out (by omega) (HC2.out.below HB1.out (Nat.le_refl _)) HZ2.out).mono ?_
    rintro e w2 ⟨aK, nK, cK, rfl, hoK, hb⟩
    have hnK : nK ≤ 600 := by have := hoK.len; have := joinL_length qs; have := HN2.out; omega
    have HKl := Lib.hid hoK.len
    have HK := Lib.hid hoK.pieces
    have HJ2 := Lib.hid (HJ.out.below hb (Nat.le_refl _))
    have HB2 := Lib.hid (below_sq HB1.out hb); clear hoK hb
    have HC2a := Lib.hid (HC.out.below HB2.out (Nat.le_refl _))
    go_wp2
    go_loopw [7, 8] (RevR w2 n ps) (fun _ i _ => (intOf i + 1).toNat)
    case atStart => exact ⟨0, none, 0, Nat.zero_le _, by simp, rfl, OwnP.nil _ _, Below.refl _ _⟩
    case round =>
      obtain ⟨k, a', c', hk, rfl, rfl, hown, hbel⟩ := hrel
      have HO := Lib.hid hown; clear hown
      have HB := Lib.hid hbel; clear hbel
      by_cases hkn : k < n
      · have hkr : k < ps.reverse.length := by rw [List.length_reverse, HN.out]; exact hkn
        obtain ⟨i, hi⟩ : ∃ i : Nat, i + 1 + k = n := ⟨n - 1 - k, by omega⟩
        have hii : (n : Int) - 1 - (k : Int) = (i : Int) := by omega
        have hil : i < ps.length := by rw [HN.out]; omega
        have HE := Lib.hid (show ps.reverse.take (k + 1) = ps.reverse.take k ++ [ps[i]] by
          rw [List.take_succ_eq_append_getElem hkr, List.getElem_reverse]
          congr 2
          have := HN.out
          simp only [show ps.length - 1 - k = i by omega])
        obtain ⟨b0, o0, ha⟩ := HC2a.out.some (by omega)
        subst ha
        obtain ⟨k1, k2⟩ := (HC2a.out.below HB.out (Nat.le_refl _)).get i hil
        generalize ps[i] = p at *
        rw [hii]
        have hin : i < n := by omega
        have HI := Lib.hid hi; clear hi
        have HII := Lib.hid hii; clear hii
        have hini : (i : Int) < (n : Int) := by omega
        go_wp2_with (at_builtin; refine wpList_appN Try.elemPiece rfl (.tmp 31) (.tmp 36) rfl HO.out HB.out.size (by omega) (by omega) #[.int .i64 p.f, .int .i64 p.t] rfl (by intro u hu; simp at hu; rcases hu with rfl | rfl <;> rfl) _ rfl rfl ?_)
        intro a9 c9 w9 ho9 hg9 _
        have HN9 : Hid (OwnP w2.heap.size w9 a9 (k + 1) c9 (ps.reverse.take (k + 1))) := Lib.hid (by rw [HE.out]; unfold OwnP; rw [flatP_push]; exact ho9)
        have HB9 := Lib.hid (HB.out.trans (HO.out.app hg9 HB.out.size))
        clear ho9 hg9
        go_wp2
        go_roundw
        case rel => exact ⟨k + 1, _, _, by omega, by have := HII.out; congr 1; omega, rfl, HN9.out, HB9.out⟩
        case measure => simp [intOf]
      · obtain rfl : k = n := by omega
        have hii : (k : Int) - 1 - (k : Int) = -1 := by omega
        rw [hii]
        have HRv := Lib.hid (show OwnP w2.heap.size wr a' k c' ps.reverse from by have := HO.out; rwa [List.take_of_length_le (by rw [List.length_reverse, HN.out]; exact Nat.le_refl _)] at this)
        have HB3 := Lib.hid (below_sq HB2.out HB.out)
        have HJ3 := Lib.hid (HJ2.out.below HB.out (Nat.le_refl _))
        have HK3 := Lib.hid (HK.out.below HB.out (Nat.le_refl _))
        have HNF := Lib.hid (joinL_ok ps).1
        clear hii
        go_wp2
        obtain ⟨wo, rfl⟩ : ∃ wo : World, wo = wr := ⟨_, rfl⟩
        go_loopw [9] (ChkR wo nJ) (fun i _ => nJ - (intOf i).toNat)
        case atStart => exact ⟨0, Nat.zero_le _, rfl, Below.refl _ _⟩
        case round =>
          obtain ⟨j, hj, rfl, hbel⟩ := hrel
          have HBc := Lib.hid hbel; clear hbel
          by_cases hjn : j < nJ
          · have hjl : j < (joinL ps).length := by rw [HJl.out]; exact hjn
            obtain ⟨b0, o0, ha⟩ := HJ3.out.some (by omega)
            subst ha
            obtain ⟨k1, k2⟩ := (HJ3.out.below HBc.out (Nat.le_refl _)).get j hjl
            have hpos := HNF.out.pos _ (List.getElem_mem hjl)
            have d1 : decide ((joinL ps)[j].t ≤ (joinL ps)[j].f) = false := decide_eq_false (by omega)
            have hji : (j : Int) < (nJ : Int) := by omega
            by_cases hj0 : j = 0
            · have d2 : ¬ (0 : Int) < (j : Int) := by omega
              have d3 : decide (0 < j) = false := by simp; omega
              clear hj0
              generalize (joinL ps)[j] = p at *
              go_wp2
              go_quiet (fail)
              go_wp2
              go_roundw
              case rel => exact ⟨j + 1, by omega, by go_num, below_drewN HBc.out _⟩
              case measure => simp [intOf]; omega
            · have d2 : (0 : Int) < (j : Int) := by omega
              have d3 : decide (0 < j) = true := by simp; omega
              obtain ⟨i, hi⟩ : ∃ i, j = i + 1 := ⟨j - 1, by omega⟩
              have hil : i < (joinL ps).length := by omega
              obtain ⟨l1, l2⟩ := (HJ3.out.below HBc.out (Nat.le_refl _)).get i hil
              have hgap := List.pairwise_iff_getElem.1 HNF.out.gap i j hil hjl (by omega)
              have d4 : decide ((joinL ps)[j].f ≤ (joinL ps)[i].t) = false := decide_eq_false (by omega)
              have hji1 : (j : Int) - 1 = (i : Int) := by omega
              have HI := Lib.hid hi; clear hi
              have HJI := Lib.hid hji1
              have hw1 : IntKind.i64.wrap ((j : Int) - 1) = (j : Int) - 1 := IntWalk.i64_in _ (by omega)
              clear hj0 hgap
              generalize (joinL ps)[j] = p at *
              generalize (joinL ps)[i] = q at *
              go_wp2
              go_quiet (fail)
              go_wp2
              go_roundw
              case rel => exact ⟨j + 1, by omega, by go_num, below_drewN HBc.out _⟩
              case measure => simp [intOf]; omega
          · obtain rfl : j = nJ := by omega
            have hji : ¬ (j : Int) < (j : Int) := by omega
            have HB4 := Lib.hid (below_sq HB3.out HBc.out)
            have HJ4 := Lib.hid (HJ3.out.below HBc.out (Nat.le_refl _))
            have HK4 := Lib.hid (HK3.out.below HBc.out (Nat.le_refl _))
            have HRv4 := Lib.hid (HRv.out.below HBc.out (Nat.le_refl _))
            have HRp := Lib.hid HRv4.out.pieces
            have HRz := Lib.hid HRv4.out.none
            have HRl := Lib.hid HRv4.out.len
            go_wp2_with fail
            refine (Turn_walk a k c ps b n2 c2 qs wr HN.out (by omega) (HC.out.below HB4.out (Nat.le_refl _)) HZ.out HN2.out (by omega) (HC2.out.below HB4.out (Nat.le_refl _)) HZ2.out).mono ?_
            rintro e w5 ⟨aT, nT, cT, rfl, hoT, hb⟩
            have hnT : nT ≤ 1200 := by have := hoT.len; have := turnL_length ps qs; have := HN.out; have := HN2.out; omega
            have HTl := Lib.hid hoT.len
            have HTp := Lib.hid hoT.pieces
            have HTz := Lib.hid hoT.none
            have HB5 := Lib.hid (below_sq HB4.out hb)
            have HJ5 := Lib.hid (HJ4.out.below hb (Nat.le_refl _))
            have HK5 := Lib.hid (HK4.out.below hb (Nat.le_refl _))
            have HR5 := Lib.hid (HRp.out.below hb (Nat.le_refl _))
            clear hoT hb
            -- joined again
            go_wp2_with fail
            refine (Join_walk aJ j cJ (joinL ps) w5 HJl.out (by omega) HJ5.out HJz.out).mono ?_
            rintro e w6 ⟨a6, n6, c6, rfl, ho, hb⟩
            rw [joinL_again] at ho
            have HL6 := Lib.hid ho.len
            have hn6 : n6 ≤ 600 := by have := ho.len; have := HJl.out; omega
            have HP6 := Lib.hid ho.pieces
            have HB6 := Lib.hid (below_sq HB5.out hb)
            have HJ6 := Lib.hid (HJ5.out.below hb (Nat.le_refl _))
            have HK6 := Lib.hid (HK5.out.below hb (Nat.le_refl _))
            have HR6 := Lib.hid (HR5.out.below hb (Nat.le_refl _))
            have HT6 := Lib.hid (HTp.out.below hb (Nat.le_refl _))
            clear ho hb
            go_wp2_with fail
            refine (same_walk a6 n6 c6 (joinL ps) aJ j cJ (joinL ps) w6 HL6.out HJl.out (by omega) HP6.out HJ6.out).mono ?_
            rintro e w7 ⟨rfl, hb⟩
            rw [show decide (joinL ps = joinL ps) = true from decide_eq_true rfl]
            have HB7 := Lib.hid (below_sq HB6.out hb)
            have HJ7 := Lib.hid (HJ6.out.below hb (Nat.le_refl _))
            have HK7 := Lib.hid (HK6.out.below hb (Nat.le_refl _))
            have HR7 := Lib.hid (HR6.out.below hb (Nat.le_refl _))
            have HT7 := Lib.hid (HT6.out.below hb (Nat.le_refl _))
            clear hb
            -- in another order
            go_wp2_with fail
            refine (Join_walk a' k c' ps.reverse w7 HRl.out (by omega) HR7.out HRz.out).mono ?_
            rintro e w8 ⟨a8, n8, c8, rfl, ho, hb⟩
            rw [joinL_perm (List.reverse_perm ps)] at ho
            have HL8 := Lib.hid ho.len
            have hn8 : n8 ≤ 600 := by have := ho.len; have := HJl.out; omega
            have HP8 := Lib.hid ho.pieces
            have HB8 := Lib.hid (below_sq HB7.out hb)
            have HJ8 := Lib.hid (HJ7.out.below hb (Nat.le_refl _))
            have HK8 := Lib.hid (HK7.out.below hb (Nat.le_refl _))
            have HT8 := Lib.hid (HT7.out.below hb (Nat.le_refl _))
            clear ho hb
            go_wp2_with fail
            refine (same_walk a8 n8 c8 (joinL ps) aJ j cJ (joinL ps) w8 HL8.out HJl.out (by omega) HP8.out HJ8.out).mono ?_
            rintro e w9 ⟨rfl, hb⟩
            rw [show decide (joinL ps = joinL ps) = true from decide_eq_true rfl]
            have HB9 := Lib.hid (below_sq HB8.out hb)
            have HJ9 := Lib.hid (HJ8.out.below hb (Nat.le_refl _))
            have HK9 := Lib.hid (HK8.out.below hb (Nat.le_refl _))
            have HT9 := Lib.hid (HT8.out.below hb (Nat.le_refl _))
            clear hb
            -- turned by itself
            go_wp2_with fail
            refine (Turn_walk a k c ps a k c ps w9 HN.out (by omega) (HC.out.below HB9.out (Nat.le_refl _)) HZ.out HN.out (by omega) (HC.out.below HB9.out (Nat.le_refl _)) HZ.out).mono ?_
            rintro e w10 ⟨a10, n10, c10, rfl, ho, hb⟩
            rw [turnL_self] at ho
            obtain rfl : n10 = 0 := by have := ho.len; simpa using this.symm
            have HB10 := Lib.hid (below_sq HB9.out hb)
            have HJ10 := Lib.hid (HJ9.out.below hb (Nat.le_refl _))
            have HK10 := Lib.hid (HK9.out.below hb (Nat.le_refl _))
            have HT10 := Lib.hid (HT9.out.below hb (Nat.le_refl _))
            clear ho hb
            -- turned twice
            go_wp2_with fail
            refine (Turn_walk a k c ps aT nT cT (turnL ps qs) w10 HN.out (by omega) (HC.out.below HB10.out (Nat.le_refl _)) HZ.out HTl.out (by omega) HT10.out HTz.out).mono ?_
            rintro e w11 ⟨a11, n11, c11, rfl, ho, hb⟩
            rw [turnL_twice] at ho
            have HL11 := Lib.hid ho.len
            have hn11 : n11 ≤ 600 := by have := ho.len; have := HKl.out; omega
            have HP11 := Lib.hid ho.pieces
            have HB11 := Lib.hid (below_sq HB10.out hb)
            have HJ11 := Lib.hid (HJ10.out.below hb (Nat.le_refl _))
            have HK11 := Lib.hid (HK10.out.below hb (Nat.le_refl _))
            have HT11 := Lib.hid (HT10.out.below hb (Nat.le_refl _))
            clear ho hb
            go_wp2_with fail
            refine (same_walk a11 n11 c11 (joinL qs) aK nK cK (joinL qs) w11 HL11.out HKl.out (by omega) HP11.out HK11.out).mono ?_
            rintro e w12 ⟨rfl, hb⟩
            rw [show decide (joinL qs = joinL qs) = true from decide_eq_true rfl]
            have HB12 := Lib.hid (below_sq HB11.out hb)
            have HJ12 := Lib.hid (HJ11.out.below hb (Nat.le_refl _))
            have HT12 := Lib.hid (HT11.out.below hb (Nat.le_refl _))
            clear hb
            -- the other way round
            go_wp2_with fail
            refine (Turn_walk b n2 c2 qs a k c ps w12 HN2.out (by omega) (HC2.out.below HB12.out (Nat.le_refl _)) HZ2.out HN.out (by omega) (HC.out.below HB12.out (Nat.le_refl _)) HZ.out).mono ?_
            rintro e w13 ⟨a13, n13, c13, rfl, ho, hb⟩
            rw [turnL_comm] at ho
            have HL13 := Lib.hid ho.len
            have hn13 : n13 ≤ 1200 := by have := ho.len; have := HTl.out; omega
            have HP13 := Lib.hid ho.pieces
            have HB13 := Lib.hid (below_sq HB12.out hb)
            have HJ13 := Lib.hid (HJ12.out.below hb (Nat.le_refl _))
            have HT13 := Lib.hid (HT12.out.below hb (Nat.le_refl _))
            clear ho hb
            go_wp2_with fail
            refine (same_walk a13 n13 c13 (turnL ps qs) aT nT cT (turnL ps qs) w13 HL13.out HTl.out (by omega) HP13.out HT13.out).mono ?_
            rintro e w14 ⟨rfl, hb⟩
            rw [show decide (turnL ps qs = turnL ps qs) = true from decide_eq_true rfl]
            have HB14 := Lib.hid (below_sq HB13.out hb)
            have HJ14 := Lib.hid (HJ13.out.below hb (Nat.le_refl _))
            clear hb
            -- with nothing
            go_wp2_with fail
            refine (Turn_walk a k c ps none 0 0 [] w14 HN.out (by omega) (HC.out.below HB14.out (Nat.le_refl _)) HZ.out rfl (by omega) (PiecesAt.nil _ _) (fun _ => rfl)).mono ?_
            rintro e w15 ⟨a15, n15, c15, rfl, ho, hb⟩
            rw [turnL_nil] at ho
            have HL15 := Lib.hid ho.len
            have hn15 : n15 ≤ 600 := by have := ho.len; have := HJl.out; omega
            have HP15 := Lib.hid ho.pieces
            have HB15 := Lib.hid (below_sq HB14.out hb)
            have HJ15 := Lib.hid (HJ14.out.below hb (Nat.le_refl _))
            clear ho hb
            go_wp2_with fail
            refine (same_walk a15 n15 c15 (joinL ps) aJ j cJ (joinL ps) w15 HL15.out HJl.out (by omega) HP15.out HJ15.out).mono ?_
            rintro e w16 ⟨rfl, hb⟩
            rw [show decide (joinL ps = joinL ps) = true from decide_eq_true rfl]
            have HB16 := Lib.hid (below_sq HB15.out hb)
            clear hb
            go_wp2_with fail
            refine (awake_walk _).mono ?_
            rintro e w17 ⟨rfl, hb⟩
            have HB17 := Lib.hid (below_sq HB16.out hb); clear hb
            go_wp2
            go_ret
            exact ⟨rfl, HB17.out⟩
end Go.Proofs.Ytkcdcgijbaepmaa
