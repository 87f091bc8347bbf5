/-
  The walk of the document's Text.
-/
import Derived.Test.YtkcdcgijbaepmaaW16
import Derived.Test.YtkcdcgijbaepmaaW18
set_option linter.unusedVariables false
namespace Go.Proofs.Ytkcdcgijbaepmaa
open Go.RowKit

def txtE (s : ByteArray) (ps : List PD) : Int := if Any_text (begL s).length ps = true then 260 else 0
def txtS (s : ByteArray) (ps : List PD) : ByteArray := if Any_text (begL s).length ps = true then ByteArray.empty else textP s (covB ps ∘ Int.ofNat) (begL s).length
def RtR (s : ByteArray) (ps : List PD) (v i : Value) : Prop := ∃ k : Nat, k ≤ (begL s).length ∧ i = .int .i64 k ∧ v = .string (textP s (covB ps ∘ Int.ofNat) k)
theorem textP_yes {s : ByteArray} {P : Nat → Bool} {k : Nat} (h : P k = true) : textP s P (k + 1) = textP s P k ++ subS s k (k + 1) := by rw [textP, if_pos h]
theorem textP_no {s : ByteArray} {P : Nat → Bool} {k : Nat} (h : P k = false) : textP s P (k + 1) = textP s P k := by rw [textP, h]; rfl

set_option maxRecDepth 100000 in
set_option maxHeartbeats 2000000 in
theorem rText_walk (s : ByteArray) (a : Option Addr) (n c : Nat) (ps : List PD) (w : World) (hs : s.size ≤ 1048576) (hn : ps.length = n) (hlt : n ≤ 65536) (hc : PiecesAt w a ps) :
    Calls Try.prog 13 #[.string s, .slice a n c] w fun e w' => e = .returned (.tuple #[.string (txtS s ps), .int .i64 (txtE s ps)]) ∧ Below w.heap.size w w' := by
  have HN := Lib.hid hn; clear hn
  have HC := Lib.hid hc; clear hc
  have hle := begL_le s
  go_enter Try.func13, Try.ntmps13
  go_wp2_with fail
  refine (Spots_walk s w hs).mono ?_
  rintro e w1 ⟨aS, cS, rfl, hsp, hb⟩
  have HB1 := Lib.hid hb; clear hb
  have HS1 := Lib.hid hsp; clear hsp
  obtain ⟨m, hm⟩ : ∃ m, m = (begL s).length := ⟨_, rfl⟩
  rw [← hm] at HS1 hle ⊢
  have HM := Lib.hid hm; clear hm
  have HC1 := Lib.hid (HC.out.below HB1.out (Nat.le_refl _))
  go_wp2_with fail
  refine (rwrong_walk a n c ps m w1 HN.out (by omega) HC1.out).mono ?_
  rintro e w2 ⟨rfl, hb⟩
  rw [badB_nat]
  have HB2 := Lib.hid hb; clear hb
  by_cases h1 : Any_text m ps = true
  · have HE := Lib.hid (show txtE s ps = 260 by unfold txtE; rw [← HM.out, if_pos h1])
    have HT := Lib.hid (show txtS s ps = ByteArray.empty by unfold txtS; rw [← HM.out, if_pos h1])
    have HBb := Lib.hid (below_sq HB1.out HB2.out)
    rw [h1]
    clear h1
    go_wp2
    go_ret2
    exact ⟨by rw [HE.out, HT.out]; rfl, HBb.out⟩
  · have HE := Lib.hid (show txtE s ps = 0 by unfold txtE; rw [← HM.out, if_neg h1])
    have HT := Lib.hid (show txtS s ps = textP s (covB ps ∘ Int.ofNat) m by unfold txtS; rw [← HM.out, if_neg h1])
    have h1f : Any_text m ps = false := by simpa using h1
    rw [h1f]
    clear h1 h1f
    have HC2 := Lib.hid (HC1.out.below HB2.out (Nat.le_refl _))
    have HS2 := Lib.hid (HS1.out.below HB2.out (Nat.le_refl _))
    have HB3 := Lib.hid (below_sq HB1.out HB2.out)
    obtain ⟨w3, hw3⟩ : ∃ w3 : World, w3 = w2 := ⟨_, rfl⟩
    subst hw3
    go_wp2
    go_loopw [7, 8] (fun v i wr => RtR s ps v i ∧ ∃ q, wr = w3.drewN q) (fun _ i _ => m - (intOf i).toNat)
    case atStart => exact ⟨⟨0, Nat.zero_le _, rfl, rfl⟩, 0, rfl⟩
    case round =>
      obtain ⟨⟨k, hk, rfl, rfl⟩, q, rfl⟩ := hrel
      rw [← HM.out] at hk
      have HSk := Lib.hid (textP_size s (covB ps ∘ Int.ofNat) k (by rw [← HM.out]; exact hk))
      have HAl := Lib.hid (atN_le s k (by rw [← HM.out]; exact hk))
      have hts : (textP s (covB ps ∘ Int.ofNat) k).size ≤ 1048576 := by have := HSk.out; have := HAl.out; omega
      by_cases hkn : k < m
      · have hkb : k < (begL s).length := by rw [← HM.out]; exact hkn
        obtain ⟨b, o, ha, -⟩ := HS2.out k hkn
        subst ha
        obtain ⟨c0, c1⟩ := HS2.out.get k hkn
        have hat := atN_lt s k hkb
        have HAn := Lib.hid (atN_succ s k hkb)
        have hin := decode_in s (atN s k) hat
        have hki : (k : Int) < (m : Int) := by omega
        have HY := Lib.hid (fun h => textP_yes (s := s) (P := covB ps ∘ Int.ofNat) (k := k) h)
        have HNn := Lib.hid (fun h => textP_no (s := s) (P := covB ps ∘ Int.ofNat) (k := k) h)
        have HSub := Lib.hid (show subS s k (k + 1) = s.extract (atN s k) (atN s k + (Utf8.decode s (atN s k)).2) by unfold subS; rw [HAn.out])
        go_wp2_with fail
        refine (Has_walk a n c ps (k : Int) _ HN.out (by omega) (HC2.out.below (below_drewN (Below.refl _ _) _) (Nat.le_refl _))).mono ?_
        rintro e w4 ⟨rfl, rfl⟩
        cases hcv : covB ps (k : Int)
        · have HT1 := Lib.hid (HNn.out hcv)
          clear hcv HY HNn
          go_wp2
          go_roundw
          case rel => exact ⟨⟨k + 1, by rw [← HM.out]; omega, by go_num, by rw [HT1.out]⟩, _, rfl⟩
          case measure => simp [intOf]; omega
        · have HT1 := Lib.hid (HY.out hcv)
          clear hcv HY HNn
          rw [HSub.out] at HT1
          generalize textP s (covB ps ∘ Int.ofNat) k = t at *
          generalize (Utf8.decode s (atN s k)).2 = wd at *
          generalize atN s k = at0 at *
          go_wp2
          go_quiet (fail)
          go_wp2
          go_roundw
          case rel => exact ⟨⟨k + 1, by rw [← HM.out]; omega, by go_num, by rw [HT1.out]⟩, _, rfl⟩
          case measure => simp [intOf]; omega
      · obtain rfl : k = m := by omega
        go_wp2
        go_ret2
        exact ⟨by rw [HE.out, HT.out]; rfl, HB3.out.trans (below_drewN (Below.refl _ _) _)⟩
end Go.Proofs.Ytkcdcgijbaepmaa
