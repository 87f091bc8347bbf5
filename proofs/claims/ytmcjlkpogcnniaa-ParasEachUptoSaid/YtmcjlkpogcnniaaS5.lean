/-
  The walk of ParasSplits.
-/
import Derived.Test.YtmcjlkpogcnniaaS4
import Derived.Test.YtmcjlkpogcnniaaBase5
set_option linter.unusedVariables false
namespace Go.Proofs.Ytmcjlkpogcnniaa
open Go.RowKit

def splitOk (l cl : List Int) : Prop := l.length = 0 ∨ l.length = cl.length
instance (l cl : List Int) : Decidable (splitOk l cl) := by unfold splitOk; infer_instance
def splitE (l cl : List Int) : Int := if splitOk l cl then 0 else 2
def splitP (l cl : List Int) : List (Nat × Nat) := if splitOk l cl then splitL l cl else []
theorem Split_any (a1 : Option Addr) (n1 cap1 : Nat) (a : Option Addr) (n cap : Nat) (l cl : List Int) (w : World) (hl : l.length = n1) (hn : cl.length = n) (hm : n ≤ 4194304) (hcl : Ints .i32 w a1 l) (hc : Ints .u8 w a cl) :
    Calls Try.prog 24 #[.slice a1 n1 cap1, .slice a n cap] w fun e w' => ∃ a' m' c', e = .returned (.tuple #[.slice a' m' c', .int .i64 (splitE l cl)]) ∧ Own2 w.heap.size 46 w' a' m' c' (splitP l cl) ∧ Below w.heap.size w w' := by
  unfold splitE splitP
  by_cases h : splitOk l cl
  · rw [if_pos h, if_pos h]
    exact Split_walk a1 n1 cap1 a n cap l cl w hl hn hm hcl hc (by unfold splitOk at h; omega)
  · rw [if_neg h, if_neg h]
    refine (Split_bad a1 n1 cap1 a n cap w (by unfold splitOk at h; omega) (by unfold splitOk at h; omega)).mono ?_
    rintro e w' ⟨rfl, rfl⟩
    exact ⟨_, _, _, rfl, Own2.nil _ _ _, Below.refl _ _⟩
theorem rSplit_any (a1 : Option Addr) (n1 cap1 : Nat) (a : Option Addr) (n cap : Nat) (l cl : List Int) (w : World) (hl : l.length = n1) (hn : cl.length = n) (hm : n ≤ 4194304) (hcl : Ints .i32 w a1 l) (hc : Ints .u8 w a cl) :
    Calls Try.prog 25 #[.slice a1 n1 cap1, .slice a n cap] w fun e w' => ∃ a' m' c', e = .returned (.tuple #[.slice a' m' c', .int .i64 (splitE l cl)]) ∧ Own2 w.heap.size 46 w' a' m' c' (splitP l cl) ∧ Below w.heap.size w w' := by
  unfold splitE splitP
  by_cases h : splitOk l cl
  · rw [if_pos h, if_pos h]
    exact rSplit_walk a1 n1 cap1 a n cap l cl w hl hn hm hcl hc (by unfold splitOk at h; omega)
  · rw [if_neg h, if_neg h]
    refine (rSplit_bad a1 n1 cap1 a n cap w (by unfold splitOk at h; omega) (by unfold splitOk at h; omega)).mono ?_
    rintro e w' ⟨rfl, rfl⟩
    exact ⟨_, _, _, rfl, Own2.nil _ _ _, Below.refl _ _⟩
theorem splitP_le (l cl : List Int) : (splitP l cl).length ≤ cl.length + 1 := by
  unfold splitP splitL
  have := splitTo_le l cl cl.length
  split
  · split
    · simp; omega
    · omega
  · simp

def SpsR (w : World) (s1 s2 s3 : Nat) (a3 a4 a5 : Option Addr) (m c3 c4 c5 : Nat) (P : List (Nat × Nat)) (i : Value) (wr : World) : Prop :=
  ∃ k : Nat, k ≤ m ∧ i = .int .i64 k ∧ Any 2 s1 46 wr a3 m c3 ∧ Own2 s2 46 wr a4 m c4 P ∧ Own2 s3 46 wr a5 m c5 P ∧ Below w.heap.size w wr

set_option maxRecDepth 100000 in
set_option maxHeartbeats 4000000 in
theorem splits_walk (a : Option Addr) (n cap : Nat) (l : List Int) (b : Option Addr) (m capb : Nat) (cl : List Int) (w : World) (h : ArgL .i32 w a n cap l) (h2 : ArgL .u8 w b m capb cl) :
    Calls Try.prog 4 #[.slice a n cap, .slice b m capb] w fun e w' => e = .returned (.bool true) ∧ Below w.heap.size w w' := by
  have HA := Lib.hid h; clear h
  have HA2 := Lib.hid h2; clear h2
  have hle := HA.out.le
  have hle2 := HA2.out.le
  obtain ⟨P, hP⟩ : ∃ P, P = splitP l cl := ⟨_, rfl⟩
  obtain ⟨x, hx⟩ : ∃ x, x = splitE l cl := ⟨_, rfl⟩
  have HP := Lib.hid hP
  have HPl := Lib.hid (show P.length ≤ m + 1 by rw [hP, ← HA2.out.len]; exact splitP_le l cl)
  clear hP
  have HX := Lib.hid hx; clear hx
  go_enter Try.func4, Try.ntmps4
  go_wp2_with fail
  refine (lentRunes_walk a n cap l _ HA.out.len (by omega) HA.out.none_ HA.out.ints).mono ?_
  rintro e w1 ⟨a1, c1, rfl, hc1, ho, hb⟩
  obtain ⟨g, ha, hg1, hg2, _, hcm1⟩ := ho.at (by omega)
  subst ha
  have HF1 := Lib.hid ho.ints; clear ho
  have HB1 := Lib.hid hb; clear hb
  go_wp2_with fail
  refine (lent_walk b m capb cl _ HA2.out.len (by omega) HA2.out.none_ (HA2.out.below HB1.out (Nat.le_refl _)).ints).mono ?_
  rintro e w2 ⟨a2, c2, rfl, hc2, ho, hb⟩
  obtain ⟨g2, ha, hg21, hg22, _, hcm2⟩ := ho.at (by omega)
  subst ha
  have HG2 := Lib.hid ho.ints; clear ho
  have HF2 := Lib.hid (HF1.out.below hb (Nat.le_refl _))
  have HB2 := Lib.hid (below_seq HB1.out hb); clear hb
  go_wp2_with fail
  refine (Split_any (some ⟨g, 0, none⟩) n c1 (some ⟨g2, 0, none⟩) m c2 l cl w2 HA.out.len HA2.out.len (by omega) HF2.out.front HG2.out.front).mono ?_
  rintro e w3 ⟨a3, m3, c3, rfl, ho, hb⟩
  rw [← HX.out]
  rw [← HP.out] at ho
  have hm3 := ho.len
  have HO3 := Lib.hid ho; clear ho
  have HF3 := Lib.hid (HF2.out.below hb (Nat.le_refl _))
  have HG3 := Lib.hid (HG2.out.below hb (Nat.le_refl _))
  have HS23 := Lib.hid hb.size
  have HB3 := Lib.hid (below_seq HB2.out hb); clear hb
  go_wp2_with fail
  refine (Split_any (some ⟨g, 0, none⟩) n c1 (some ⟨g2, 0, none⟩) m c2 l cl w3 HA.out.len HA2.out.len (by omega) HF3.out.front HG3.out.front).mono ?_
  rintro e w4 ⟨a4, m4, c4, rfl, ho, hb⟩
  rw [← HX.out]
  rw [← HP.out] at ho
  obtain rfl : m4 = m3 := by rw [← hm3]; exact ho.len.symm
  have HO4 := Lib.hid ho; clear ho
  have HO34 := Lib.hid (HO3.out.below hb (Nat.le_refl _))
  have HF4 := Lib.hid (HF3.out.below hb (Nat.le_refl _))
  have HG4 := Lib.hid (HG3.out.below hb (Nat.le_refl _))
  have HS34 := Lib.hid hb.size
  have HB4 := Lib.hid (below_seq HB3.out hb); clear hb
  go_wp2_with fail
  refine (rSplit_any a n cap b m capb l cl w4 HA.out.len HA2.out.len (by omega) (HA.out.below HB4.out (Nat.le_refl _)).ints (HA2.out.below HB4.out (Nat.le_refl _)).ints).mono ?_
  rintro e w5 ⟨a5, m5, c5, rfl, ho, hb⟩
  rw [← HX.out]
  rw [← HP.out] at ho
  obtain rfl : m5 = m4 := by rw [← hm3]; exact ho.len.symm
  have HO5 := Lib.hid ho; clear ho
  have HO35 := Lib.hid (HO34.out.below hb (Nat.le_refl _))
  have HO45 := Lib.hid (HO4.out.below hb (Nat.le_refl _))
  have HF5 := Lib.hid (HF4.out.below hb (Nat.le_refl _))
  have HG5 := Lib.hid (HG4.out.below hb (Nat.le_refl _))
  have HB5 := Lib.hid (below_seq HB4.out hb); clear hb
  have hxx : (x != x) = false := by simp
  have HM3 := Lib.hid hm3; clear hm3
  have hm5 : m5 ≤ m + 1 := by rw [← HM3.out]; exact HPl.out
  go_wp2_with fail
  refine (samePieces_walk a3 a5 m5 c3 c5 P w5 HM3.out (by omega) HO35.out.pairs HO5.out.pairs).mono ?_
  rintro e w6 ⟨rfl, hb⟩
  have HO36 := Lib.hid (HO35.out.below hb (Nat.le_refl _))
  have HO46 := Lib.hid (HO45.out.below hb (Nat.le_refl _))
  have HO56 := Lib.hid (HO5.out.below hb (Nat.le_refl _))
  have HF6 := Lib.hid (HF5.out.below hb (Nat.le_refl _))
  have HG6 := Lib.hid (HG5.out.below hb (Nat.le_refl _))
  have HB6 := Lib.hid (below_seq HB5.out hb); clear hb
  go_wp2_with fail
  refine (keptRunes_walk g n c1 a cap l w6 HA.out.len (by omega) hc1 hcm1 HF6.out (HA.out.below HB6.out (Nat.le_refl _)).ints).mono ?_
  rintro e w7 ⟨rfl, hb⟩
  have HO37 := Lib.hid (HO36.out.below hb (Nat.le_refl _))
  have HO47 := Lib.hid (HO46.out.below hb (Nat.le_refl _))
  have HO57 := Lib.hid (HO56.out.below hb (Nat.le_refl _))
  have HG7 := Lib.hid (HG6.out.below hb (Nat.le_refl _))
  have HB7 := Lib.hid (below_seq HB6.out hb); clear hb
  go_wp2_with fail
  refine (kept_walk g2 m c2 b capb cl w7 HA2.out.len (by omega) hc2 hcm2 HG7.out (HA2.out.below HB7.out (Nat.le_refl _)).ints).mono ?_
  rintro e w8 ⟨rfl, hb⟩
  have HO38 := Lib.hid (HO37.out.below hb (Nat.le_refl _))
  have HO48 := Lib.hid (HO47.out.below hb (Nat.le_refl _))
  have HO58 := Lib.hid (HO57.out.below hb (Nat.le_refl _))
  have HB8 := Lib.hid (below_seq HB7.out hb); clear hb
  have HL3 : Hid (∀ g, a3 = some ⟨g, 0, none⟩ → w2.heap.size ≤ g ∧ g < w3.heap.size) := Lib.hid (fun g hg => World.ownsRow.lt HO3.out g (by rw [hg]; rfl))
  have HS02 := Lib.hid (show w.heap.size ≤ w2.heap.size from HB2.out.size)
  clear HO36 HO46 HO56 HO37 HO47 HO57 HO35 HO45 HO34
  go_wp2
  go_loopw [13] (SpsR w w2.heap.size w3.heap.size w4.heap.size a3 a4 a5 m5 c3 c4 c5 P) (fun i _ => m5 - (intOf i).toNat)
  case atStart => exact ⟨0, Nat.zero_le _, rfl, ⟨_, HO38.out⟩, HO48.out, HO58.out, HB8.out⟩
  case round =>
    obtain ⟨k, hk, rfl, hany, ho4, ho5, hbl⟩ := hrel
    have HY := Lib.hid hany; clear hany
    have HO49 := Lib.hid ho4; clear ho4
    have HO59 := Lib.hid ho5; clear ho5
    have HB9 := Lib.hid hbl; clear hbl
    by_cases hlt : k < m5
    · obtain ⟨g3, ha, -, -⟩ := HY.out.at (by omega)
      subst ha
      obtain ⟨hl1, hl2⟩ := HL3.out g3 rfl
      have HT := Lib.hid (HY.out.there k hlt)
      have HY' := Lib.hid (HY.out.setCells (k * 2) [.int .i64 (-1), .int .i64 (-1)])
      have HO4' := Lib.hid (HO49.out.setLow g3 (k * 2) [.int .i64 (-1), .int .i64 (-1)] hl2)
      have HO5' := Lib.hid (HO59.out.setLow g3 (k * 2) [.int .i64 (-1), .int .i64 (-1)] (by have := HS34.out; omega))
      have HB' := Lib.hid (below_setCells HB9.out g3 (k * 2) [.int .i64 (-1), .int .i64 (-1)] (by have := HS02.out; omega))
      obtain ⟨u0, u1, q0, f0, q1, f1⟩ := there_two HT.out (.int .i64 (-1))
      go_wp2
      go_roundw
      case rel => exact ⟨k + 1, by omega, by go_num, HY'.out, HO4'.out, HO5'.out, HB'.out⟩
      case measure => simp [intOf]; omega
    · obtain rfl : k = m5 := by omega
      go_wp2_with fail
      refine (samePieces_walk a4 a5 k c4 c5 P _ HM3.out (by omega) HO49.out.pairs HO59.out.pairs).mono ?_
      rintro e w10 ⟨rfl, hb⟩
      have HB10 := Lib.hid (below_seq HB9.out hb); clear hb
      go_wp2_with fail
      refine (awake_walk _).mono ?_
      rintro e w11 ⟨rfl, hb⟩
      have HB11 := Lib.hid (below_seq HB10.out hb); clear hb
      go_wp2
      go_ret
      exact ⟨rfl, HB11.out⟩
end Go.Proofs.Ytmcjlkpogcnniaa
