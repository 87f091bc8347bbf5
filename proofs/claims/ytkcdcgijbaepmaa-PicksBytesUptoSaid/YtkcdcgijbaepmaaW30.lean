/-
  The walk of PicksBytes.
-/
import Derived.Test.YtkcdcgijbaepmaaW29
import Derived.Test.YtkcdcgijbaepmaaJ7
set_option linter.unusedVariables false
set_option linter.unusedSimpArgs false
namespace Go.Proofs.Ytkcdcgijbaepmaa
open Go.RowKit

theorem runes_len (s : ByteArray) (w : World) (hs : s.size ≤ 1048576) :
    ∃ a c w', Below w.heap.size w w' ∧ (convert 9 47 (.string s)).run Try.prog w = .ok (.slice a (begL s).length c) w' := by
  have hl : (Conv.runesFrom s s.size 0 #[]).size = (begL s).length := by
    rw [← Array.length_toList, runesFrom_beg]
    simp [begL]
  have hle := begL_le s
  have hr := run_runes_of_string (P := Try.prog) w 9 47 21 s Try.underlying9 Try.underlying47 Try.underlying21 (by omega)
  rw [hl] at hr
  exact ⟨_, _, _, ((below_drewN (Below.refl w.heap.size w) 1)).alloc (by simp) _, hr⟩
def BytR (w : World) (s : ByteArray) (ps : List PD) (gi : Nat) (want left k at_ : Value) (wr : World) : Prop :=
  ∃ r : Nat, r ≤ (begL s).length + 1 ∧ want = .string (textP s (fun i => covB ps (i : Int)) (r - 1)) ∧ left = .string (textP s (fun i => !covB ps (i : Int)) (r - 1)) ∧ k = .int .i64 r ∧ at_ = .int .i64 (atN s (r - 1) : Nat) ∧
    wr.heap[gi]? = some (.stringIter (dotS s) (atN (dotS s) r)) ∧ Below w.heap.size w wr

set_option maxRecDepth 100000 in
set_option maxHeartbeats 8000000 in
theorem picksBytes_walk (s : ByteArray) (a : Option Addr) (n c : Nat) (ps : List PD) (w : World) (hs : s.size ≤ 1048576) (hn : ps.length = n) (hm : n ≤ 1048576) (hc : PiecesAt w a ps) (hnone : a = none → c = 0) :
    Calls Try.prog 7 #[.string s, .slice a n c] w fun e w' => e = .returned (.bool true) ∧ Below w.heap.size w w' := by
  have HN := Lib.hid hn; clear hn
  have HC := Lib.hid hc; clear hc
  have HZ := Lib.hid hnone; clear hnone
  by_cases h6 : 600 < n
  · have h6i : (600 : Int) < (n : Int) := by omega
    go_enter Try.func7, Try.ntmps7
    go_wp2_with fail
    refine (awake_walk _).mono ?_
    rintro e w1 ⟨rfl, hb⟩
    have HB := Lib.hid hb; clear hb
    go_wp2
    go_ret
    exact ⟨rfl, HB.out⟩
  · have h6i : ¬ (600 : Int) < (n : Int) := by omega
    have hle := begL_le s
    obtain ⟨m, hm'⟩ : ∃ m, m = (begL s).length := ⟨_, rfl⟩
    obtain ⟨aR, cR, w1, hb1, hr⟩ := runes_len s w hs
    rw [← hm'] at hr hle
    have HM := Lib.hid hm'; clear hm'
    have HB1 := Lib.hid hb1; clear hb1
    have HA2 := Lib.hid (pieces_lit w1 [⟨0, (m : Int)⟩] #[.int .i64 0, .int .i64 (m : Nat)] rfl)
    have HB2 := Lib.hid (below_sq HB1.out ((Below.refl w1.heap.size w1).alloc (Nat.le_refl _) (.cells #[.int .i64 0, .int .i64 (m : Nat)] 45)))
    have HAE := Lib.hid (all_txtE s)
    have HAS := Lib.hid (all_txtS s)
    rw [← HM.out] at HAE HAS
    obtain ⟨gA, hgA⟩ : ∃ gA, gA = w1.heap.size := ⟨_, rfl⟩
    go_enter Try.func7, Try.ntmps7
    go_wp2_with fail
    clear hr
    rw [← hgA] at HA2 ⊢
    generalize (w1.alloc (.cells #[.int .i64 0, .int .i64 (m : Nat)] 45)) = w2 at *
    have HGA := Lib.hid hgA; clear hgA
    refine (Text_walk s (some ⟨gA, 0, none⟩) 1 1 [⟨0, (m : Int)⟩] w2 hs rfl (by decide) HA2.out (fun h => by cases h)).mono ?_
    rintro e w3 ⟨rfl, hb⟩
    rw [HAE.out, HAS.out]
    have HB3 := Lib.hid (below_sq HB2.out hb)
    have HA3 := Lib.hid (HA2.out.below hb (Nat.le_refl _))
    clear hb
    go_wp2_with fail
    refine (Text_walk s a n c ps w3 hs HN.out (by omega) (HC.out.below HB3.out (Nat.le_refl _)) HZ.out).mono ?_
    rintro e w4 ⟨rfl, hb⟩
    have HB4 := Lib.hid (below_sq HB3.out hb)
    have HA4 := Lib.hid (HA3.out.below hb (Nat.le_refl _))
    clear hb
    have b1 : (s != s) = false := by unfold bne; rw [(MapKept.bytes_beq s s).2 rfl]; rfl
    by_cases h1 : Any_text m ps = true
    · have HE := Lib.hid (show txtE s ps = 260 by unfold txtE; rw [← HM.out, if_pos h1])
      have HX := Lib.hid (show txtS s ps = ByteArray.empty by unfold txtS; rw [← HM.out, if_pos h1])
      rw [HE.out, HX.out]
      clear h1
      go_wp2_with fail
      refine (awake_walk _).mono ?_
      rintro e w5 ⟨rfl, hb⟩
      have HB5 := Lib.hid (below_sq HB4.out hb); clear hb
      go_wp2
      go_ret
      exact ⟨rfl, HB5.out⟩
    · have HE := Lib.hid (show txtE s ps = 0 by unfold txtE; rw [← HM.out, if_neg h1])
      have HIn := Lib.hid (any_text_in h1)
      have HX := Lib.hid (show txtS s ps = textP s (fun i => covB ps (i : Int)) m by unfold txtS; rw [← HM.out, if_neg h1]; rfl)
      rw [HE.out, HX.out]
      clear h1
      go_wp2_with fail
      refine (Join_walk a n c ps w4 HN.out (by omega) (HC.out.below HB4.out (Nat.le_refl _)) HZ.out).mono ?_
      rintro e w5 ⟨aJ, nJ, cJ, rfl, hoJ, hb⟩
      have hnJ : nJ ≤ 600 := by have := hoJ.len; have := joinL_length ps; have := HN.out; omega
      have HJl := Lib.hid hoJ.len
      have HJ := Lib.hid hoJ.pieces
      have HJz := Lib.hid hoJ.none
      have HB5 := Lib.hid (below_sq HB4.out hb)
      have HA5 := Lib.hid (HA4.out.below hb (Nat.le_refl _))
      clear hoJ hb
      go_wp2_with fail
      refine (Turn_walk (some ⟨gA, 0, none⟩) 1 1 [⟨0, (m : Int)⟩] aJ nJ cJ (joinL ps) w5 rfl (by decide) HA5.out (fun h => by cases h) HJl.out (by omega) HJ.out HJz.out).mono ?_
      rintro e w6 ⟨aT, nT, cT, rfl, hoT, hb⟩
      have HTe := Lib.hid (show turnL [⟨0, (m : Int)⟩] (joinL ps) = restL m ps from rfl)
      rw [HTe.out] at hoT
      have hnT : nT ≤ 1000 := by have := hoT.len; have h2 := turnL_length [⟨0, (m : Int)⟩] (joinL ps); have := HTe.out; rw [HTe.out] at h2; have := HJl.out; simp at h2; omega
      have HTl := Lib.hid hoT.len
      have HT := Lib.hid hoT.pieces
      have HTz := Lib.hid hoT.none
      have HB6 := Lib.hid (below_sq HB5.out hb)
      clear hoT hb
      have HRE := Lib.hid (rest_txtE s ps (by rw [← HM.out]; exact HIn.out))
      have HRS := Lib.hid (rest_txtS s ps (by rw [← HM.out]; exact HIn.out))
      rw [← HM.out] at HRE HRS
      go_wp2_with fail
      refine (Text_walk s aT nT cT (restL m ps) w6 hs HTl.out (by omega) HT.out HTz.out).mono ?_
      rintro e w7 ⟨rfl, hb⟩
      rw [HRE.out, HRS.out]
      have HB7 := Lib.hid (below_sq HB6.out hb); clear hb
      obtain ⟨gi, hgi⟩ : ∃ gi, gi = w7.heap.size := ⟨_, rfl⟩
      have HIt : Hid ((w7.iter (dotS s) 0).heap[gi]? = some (.stringIter (dotS s) 0) ∧ Below w7.heap.size w7 (w7.iter (dotS s) 0) ∧ (w7.iter (dotS s) 0).heap.size = gi + 1) := Lib.hid (by
        rw [hgi]; exact ⟨World.iter_heap w7 _ 0, (Below.refl _ _).alloc (Nat.le_refl _) _, by simp [World.iter]⟩)
      have HDs := Lib.hid (show s ++ { data := #[46] } = dotS s from rfl)
      go_wp2
      rw [HDs.out, ← hgi]
      generalize w7.iter (dotS s) 0 = w8 at *
      have HGi := Lib.hid hgi; clear hgi
      have hgi8 : w8.heap.size = gi + 1 := HIt.out.2.2
      have HB8 := Lib.hid (below_sq HB7.out HIt.out.2.1)
      have HDz := Lib.hid (dot_size s)
      have HDl := Lib.hid (dot_len s)
      rw [← HM.out] at HDl
      clear b1
      go_loopw [14, 15, 16, 17] (BytR w s ps gi) (fun _ _ _ _ wr => (dotS s).size - posOf wr gi)
      case atStart => exact ⟨0, Nat.zero_le _, rfl, rfl, rfl, by rw [Nat.zero_sub, atN_zero]; rfl, by rw [atN_zero]; exact HIt.out.1, HB8.out⟩
      case round =>
        obtain ⟨r, hr, rfl, rfl, rfl, rfl, hit, hbel⟩ := hrel
        rw [← HM.out] at hr
        have HI := Lib.hid hit
        have HBl := Lib.hid hbel; clear hbel
        have hgilt := (Array.getElem?_eq_some_iff.1 hit).1
        clear hit
        by_cases hrm : r < m + 1
        · have hrl : r < (begL (dotS s)).length := by rw [HDl.out]; exact hrm
          have hp := atN_lt (dotS s) r hrl
          have HAn := Lib.hid (atN_succ (dotS s) r hrl)
          have hwd := decode_pos (dotS s) (atN (dotS s) r) hp
          have HAs := Lib.hid (dot_at s r (by rw [← HM.out]; omega)).2
          have HM0 := Lib.hid (show posOf wr gi = atN (dotS s) r by unfold posOf; rw [HI.out])
          have hnx : ∀ ty, (Instr.next (.pointer (some ⟨gi, 0, none⟩)) true ty).run Try.prog wr = _ := fun ty => run_next_at wr gi (dotS s) _ ty HI.out hp
          have HPo := Lib.hid (show Below w.heap.size w (wr.putObj gi (.stringIter (dotS s) (atN (dotS s) r + (Utf8.decode (dotS s) (atN (dotS s) r)).2))) from HBl.out.grown (grownBy_putObj' wr gi _) HBl.out.size (fun k e => by cases e; rw [HGi.out]; exact HB7.out.size))
          have HI9 := Lib.hid (show (wr.putObj gi (.stringIter (dotS s) (atN (dotS s) r + (Utf8.decode (dotS s) (atN (dotS s) r)).2))).heap[gi]? = some (.stringIter (dotS s) (atN (dotS s) (r + 1))) by rw [HAn.out]; exact World.putObj_heap_same hgilt)
          have HM1 := Lib.hid (show posOf (wr.putObj gi (.stringIter (dotS s) (atN (dotS s) r + (Utf8.decode (dotS s) (atN (dotS s) r)).2))) gi = atN (dotS s) r + (Utf8.decode (dotS s) (atN (dotS s) r)).2 by unfold posOf; rw [HI9.out, HAn.out])
          generalize (wr.putObj gi (.stringIter (dotS s) (atN (dotS s) r + (Utf8.decode (dotS s) (atN (dotS s) r)).2))) = w9 at *
          rw [HAs.out] at hnx hp HM0 HM1 hwd
          by_cases hr0 : r = 0
          · subst hr0
            have hz : atN s 0 = 0 := atN_zero s
            rw [hz] at hnx
            go_wp2
            go_roundw
            case rel => exact ⟨1, by omega, rfl, rfl, rfl, by rw [show 1 - 1 = 0 from rfl, hz]; rfl, HI9.out, HPo.out⟩
            case measure => rw [HM1.out, HM0.out]; omega
          · obtain ⟨q, rfl⟩ : ∃ q, r = q + 1 := ⟨r - 1, by omega⟩
            have hqm : q < m := by omega
            have hqb : q + 1 ≤ (begL s).length := by rw [← HM.out]; omega
            have hps := dot_pos s (q + 1) (by omega) hqb
            have hmo := atN_mono s q (q + 1) (by omega) hqb
            have hle1 := atN_le s (q + 1) hqb
            have HSz1 := Lib.hid (textP_size s (fun i => covB ps (i : Int)) q (by omega))
            have HSz2 := Lib.hid (textP_size s (fun i => !covB ps (i : Int)) q (by omega))
            have HY := Lib.hid (fun h => textP_yes (s := s) (P := fun i => covB ps (i : Int)) (k := q) h)
            have HNn := Lib.hid (fun h => textP_no (s := s) (P := fun i => covB ps (i : Int)) (k := q) h)
            have HY2 := Lib.hid (fun h => textP_yes (s := s) (P := fun i => !covB ps (i : Int)) (k := q) h)
            have HN2 := Lib.hid (fun h => textP_no (s := s) (P := fun i => !covB ps (i : Int)) (k := q) h)
            have HSub := Lib.hid (show subS s q (q + 1) = s.extract (atN s q) (atN s (q + 1)) from rfl)
            rw [show q + 1 - 1 = q from rfl]
            have hkk : IntKind.i64.wrap (((q + 1 : Nat) : Int) - 1) = (q : Int) := by rw [IntWalk.i64_in _ (by omega)]; omega
            have ht1 : (textP s (fun i => covB ps (i : Int)) q).size ≤ 1048576 := by have := HSz1.out; omega
            have ht2 : (textP s (fun i => !covB ps (i : Int)) q).size ≤ 1048576 := by have := HSz2.out; omega
            have HRel := Lib.hid (show ∀ (t1 t2 : ByteArray), t1 = textP s (fun i => covB ps (i : Int)) (q + 1) → t2 = textP s (fun i => !covB ps (i : Int)) (q + 1) → BytR w s ps gi (.string t1) (.string t2) (.int .i64 ((q + 1 : Nat) + 1 : Nat)) (.int .i64 (atN s (q + 1) : Nat)) w9 from fun t1 t2 e1 e2 => ⟨q + 1 + 1, by rw [← HM.out]; omega, by rw [e1]; rfl, by rw [e2]; rfl, rfl, rfl, HI9.out, HPo.out⟩)
            generalize textP s (fun i => covB ps (i : Int)) q = t at *
            generalize textP s (fun i => !covB ps (i : Int)) q = u at *
            generalize atN s (q + 1) = A1 at *
            generalize atN s q = A0 at *
            have a0i : (0 : Int) < (A1 : Int) := by omega
            have a1i : (A0 : Int) ≤ (A1 : Int) := by omega
            have a2i : (A1 : Int) ≤ (s.size : Int) := by omega
            have d0 : decide (0 < A1) = true := by simp; omega
            clear hr0 hqb
            go_wp2_with fail
            refine (in_walk a n c ps (q : Int) w9 HN.out (by omega) (HC.out.below HPo.out (Nat.le_refl _))).mono ?_
            rintro e w10 ⟨rfl, rfl⟩
            cases hcv : covB ps (q : Int)
            · have HT1 := Lib.hid (HNn.out hcv)
              have HT2 := Lib.hid (HY2.out (by simp [hcv]))
              clear hcv HY HNn HY2 HN2
              go_wp2
              go_roundw
              case rel => have := HRel.out t (u ++ s.extract A0 A1) HT1.out.symm (by rw [HT2.out, HSub.out]); simpa using this
              case measure => rw [HM1.out, HM0.out]; omega
            · have HT1 := Lib.hid (HY.out hcv)
              have HT2 := Lib.hid (HN2.out (by simp [hcv]))
              clear hcv HY HNn HY2 HN2
              go_wp2
              go_roundw
              case rel => have := HRel.out (t ++ s.extract A0 A1) u (by rw [HT1.out, HSub.out]) HT2.out.symm; simpa using this
              case measure => rw [HM1.out, HM0.out]; omega
        · obtain rfl : r = m + 1 := by omega
          have hp : ¬ atN (dotS s) (m + 1) < (dotS s).size := by rw [← HDl.out, atN_last]; omega
          have hnx : ∀ ty, (Instr.next (.pointer (some ⟨gi, 0, none⟩)) true ty).run Try.prog wr = _ := fun ty => run_next_over wr gi (dotS s) _ ty HI.out hp
          have HPs := Lib.hid (show (textP s (fun i => covB ps (i : Int)) m).size + (textP s (fun i => !covB ps (i : Int)) m).size = s.size by rw [parts_size s _ m (by rw [HM.out]; exact Nat.le_refl _), HM.out, atN_last])
          rw [show m + 1 - 1 = m from rfl]
          generalize textP s (fun i => covB ps (i : Int)) m = t at *
          generalize textP s (fun i => !covB ps (i : Int)) m = u at *
          have b1 : (t == t) = true := (MapKept.bytes_beq t t).2 rfl
          have b2 : (u == u) = true := (MapKept.bytes_beq u u).2 rfl
          have b3 : (((t.size : Int) + (u.size : Int)) == (s.size : Int)) = true := by have := HPs.out; simp; omega
          have b4 : t.size ≤ 1048576 := by have := HPs.out; omega
          have b5 : u.size ≤ 1048576 := by have := HPs.out; omega
          go_wp2_with fail
          refine (awake_walk _).mono ?_
          rintro e w9 ⟨rfl, hb⟩
          have HB9 := Lib.hid (below_sq HBl.out hb); clear hb
          clear hnx
          go_wp2
          go_ret
          exact ⟨rfl, HB9.out⟩
end Go.Proofs.Ytkcdcgijbaepmaa
