/-
  The walk of ParasMatches.
-/
import Derived.Test.YtmcjlkpogcnniaaS2
set_option linter.unusedVariables false
namespace Go.Proofs.Ytmcjlkpogcnniaa
open Go.RowKit

theorem Own.setLow {B : Nat} {E : TypeId} {w : World} {a : Option Addr} {n cap : Nat} {xs : List Value} (h : Own B E w a n cap xs) (g j : Nat) (u : Value) (hg : g < B) : Own B E (w.setCell ⟨g, j, none⟩ u) a n cap xs :=
  h.grown (grown_store w g j u) (h.blockAt hg)

/-- the first k have been overwritten -/
def over (k : Nat) (x : Int) (l : List Int) : List Int := List.replicate k x ++ l.drop k
theorem over_zero (x : Int) (l : List Int) : over 0 x l = l := by simp [over]
theorem over_len (k : Nat) (x : Int) (l : List Int) (h : k ≤ l.length) : (over k x l).length = l.length := by simp [over]; omega
theorem over_get (k : Nat) (x : Int) (l : List Int) (h : k < l.length) : (over k x l)[k]'(by rw [over_len _ _ _ (by omega)]; exact h) = l[k] := by
  simp [over]
theorem over_set (k : Nat) (x : Int) (l : List Int) (h : k < l.length) : (over k x l).set k x = over (k + 1) x l := by
  unfold over
  rw [List.set_append_right _ _ (by simp), List.drop_eq_getElem_cons h, List.length_replicate, Nat.sub_self, List.set_cons_zero, List.replicate_succ', List.append_assoc]
  rfl

structure MchSt (w : World) (s1 s2 s3 : Nat) (a2 a3 a4 : Option Addr) (n c2 c3 c4 : Nat) (M : List Int) (k : Nat) (wr : World) : Prop where
  o2 : Own s1 3 wr a2 n c2 (ivs .i64 (over k (-5) M))
  o3 : Own s2 3 wr a3 n c3 (ivs .i64 M)
  o4 : Own s3 3 wr a4 n c4 (ivs .i64 M)
  below : Below w.heap.size w wr
def MchR (w : World) (s1 s2 s3 : Nat) (a2 a3 a4 : Option Addr) (n c2 c3 c4 : Nat) (M : List Int) (i : Value) (wr : World) : Prop :=
  ∃ k : Nat, k ≤ n ∧ i = .int .i64 k ∧ MchSt w s1 s2 s3 a2 a3 a4 n c2 c3 c4 M k wr
def MchQ (w : World) (s2 s3 : Nat) (a3 a4 : Option Addr) (n c3 c4 : Nat) (M : List Int) (i : Value) (wr : World) : Prop :=
  ∃ k : Nat, k ≤ n ∧ i = .int .i64 k ∧ Own s2 3 wr a3 n c3 (ivs .i64 M) ∧ Own s3 3 wr a4 n c4 (ivs .i64 M) ∧ Below w.heap.size w wr

set_option maxHeartbeats 4000000 in
theorem matches_walk (a : Option Addr) (n cap : Nat) (cl : List Int) (w : World) (h : ArgL .u8 w a n cap cl) :
    Calls Try.prog 5 #[.slice a n cap] w fun e w' => e = .returned (.bool true) ∧ Below w.heap.size w w' := by
  have HA := Lib.hid h; clear h
  have hle := HA.out.le
  obtain ⟨M, hM⟩ : ∃ M, M = matchL cl := ⟨_, rfl⟩
  have HMl := Lib.hid (show M.length = n by rw [hM, matchL_len, HA.out.len])
  have HM := Lib.hid hM; clear hM
  go_enter Try.func5, Try.ntmps5
  go_wp2_with fail
  refine (lent_walk a n cap cl _ HA.out.len (by omega) HA.out.none_ HA.out.ints).mono ?_
  rintro e w1 ⟨a1, c1, rfl, hc1, ho, hb⟩
  obtain ⟨g, ha, hg1, hg2, _, hcm⟩ := ho.at (by omega)
  subst ha
  have HF1 := Lib.hid ho.ints; clear ho
  have HB1 := Lib.hid hb; clear hb
  go_wp2_with fail
  refine (Match_walk (some ⟨g, 0, none⟩) n c1 cl w1 HA.out.len (by omega) HF1.out.front).mono ?_
  rintro e w2 ⟨a2, c2, rfl, ho, hb⟩
  rw [← HM.out] at ho
  have HO2 := Lib.hid ho; clear ho
  have HF2 := Lib.hid (HF1.out.below hb (Nat.le_refl _))
  have HB2 := Lib.hid (below_seq HB1.out hb); clear hb
  go_wp2_with fail
  refine (Match_walk (some ⟨g, 0, none⟩) n c1 cl w2 HA.out.len (by omega) HF2.out.front).mono ?_
  rintro e w3 ⟨a3, c3, rfl, ho, hb⟩
  rw [← HM.out] at ho
  have HO3 := Lib.hid ho; clear ho
  have HO23 := Lib.hid (HO2.out.below hb (Nat.le_refl _))
  have HF3 := Lib.hid (HF2.out.below hb (Nat.le_refl _))
  have HB3 := Lib.hid (below_seq HB2.out hb)
  have HS23 := Lib.hid hb.size; clear hb
  go_wp2_with fail
  refine (rMatch_walk a n cap cl w3 HA.out.len (by omega) (HA.out.below HB3.out (Nat.le_refl _)).ints).mono ?_
  rintro e w4 ⟨a4, c4, rfl, ho, hb⟩
  rw [← HM.out] at ho
  have HO4 := Lib.hid ho; clear ho
  have HO24 := Lib.hid (HO23.out.below hb (Nat.le_refl _))
  have HO34 := Lib.hid (HO3.out.below hb (Nat.le_refl _))
  have HF4 := Lib.hid (HF3.out.below hb (Nat.le_refl _))
  have HB4 := Lib.hid (below_seq HB3.out hb)
  clear hb
  have hnn : ((n : Int) != (n : Int)) = false := by simp
  go_wp2_with fail
  refine (kept_walk g n c1 a cap cl w4 HA.out.len (by omega) hc1 hcm HF4.out (HA.out.below HB4.out (Nat.le_refl _)).ints).mono ?_
  rintro e w5 ⟨rfl, hb⟩
  have HO25 := Lib.hid (HO24.out.below hb (Nat.le_refl _))
  have HO35 := Lib.hid (HO34.out.below hb (Nat.le_refl _))
  have HO45 := Lib.hid (HO4.out.below hb (Nat.le_refl _))
  have HB5 := Lib.hid (below_seq HB4.out hb); clear hb
  have HL2 : Hid (∀ g, a2 = some ⟨g, 0, none⟩ → w1.heap.size ≤ g ∧ g < w2.heap.size) := Lib.hid (fun g hg => by
    have := World.ownsRow.lt HO2.out g (by rw [hg]; rfl)
    exact this)
  have HS12 := Lib.hid (show w.heap.size ≤ w1.heap.size from HB1.out.size)
  go_wp2
  go_loopw [7] (MchR w w1.heap.size w2.heap.size w3.heap.size a2 a3 a4 n c2 c3 c4 M) (fun i _ => n - (intOf i).toNat)
  case atStart => exact ⟨0, Nat.zero_le _, rfl, ⟨by rw [over_zero]; exact HO25.out, HO35.out, HO45.out, HB5.out⟩⟩
  case round =>
    obtain ⟨k, hk, rfl, hst⟩ := hrel
    have HST := Lib.hid hst; clear hst
    by_cases hlt : k < n
    · have hkl : k < M.length := by rw [HMl.out]; exact hlt
      obtain ⟨g2, ha, -, -, -, -⟩ := HST.out.o2.at (by omega)
      subst ha
      obtain ⟨g4, ha, -, -, -, -⟩ := HST.out.o4.at (by omega)
      subst ha
      obtain ⟨hl1, hl2⟩ := HL2.out g2 rfl
      have k2 := HST.out.o2.ints.get k (by rw [over_len _ _ _ (by omega)]; exact hkl)
      rw [over_get _ _ _ hkl] at k2
      have k4 := HST.out.o4.ints.get k hkl
      simp only [Nat.zero_add] at k2 k4
      have hxx : (M[k] != M[k]) = false := by simp
      have fr := HST.out.o2.unfrozen k
      have hO := HST.out.o2.store k (.int .i64 (-5))
      rw [ivs_set, over_set _ _ _ hkl] at hO
      have HO := Lib.hid hO; clear hO
      have HO3' := Lib.hid (HST.out.o3.setLow g2 k (.int .i64 (-5)) hl2)
      have HO4' := Lib.hid (HST.out.o4.setLow g2 k (.int .i64 (-5)) (by have := HS23.out; omega))
      generalize M[k] = x at *
      go_wp2
      go_quiet (fail)
      go_wp2
      go_roundw
      case rel => exact ⟨k + 1, by omega, by go_num, ⟨HO.out, HO3'.out, HO4'.out, (below_drewN HST.out.below _).setCell (p := ⟨g2, k, none⟩) (by have := HS12.out; simp; omega) _⟩⟩
      case measure => simp [intOf]; omega
    · obtain rfl : k = n := by omega
      have HO36 := Lib.hid HST.out.o3
      have HO46 := Lib.hid HST.out.o4
      have HB6 := Lib.hid HST.out.below
      clear HST
      go_wp2
      go_loopw [8] (MchQ w w2.heap.size w3.heap.size a3 a4 k c3 c4 M) (fun i _ => k - (intOf i).toNat)
      case atStart => exact ⟨0, Nat.zero_le _, rfl, HO36.out, HO46.out, HB6.out⟩
      case round =>
        obtain ⟨j, hk, rfl, ho3, ho4, hbl⟩ := hrel
        have HO37 := Lib.hid ho3; clear ho3
        have HO47 := Lib.hid ho4; clear ho4
        have HB7 := Lib.hid hbl; clear hbl
        by_cases hlt : j < k
        · have hkl : j < M.length := by rw [HMl.out]; exact hlt
          obtain ⟨g3, ha, -, -, -, -⟩ := HO37.out.at (by omega)
          subst ha
          obtain ⟨g4, ha, -, -, -, -⟩ := HO47.out.at (by omega)
          subst ha
          have k3 := HO37.out.ints.get j hkl
          have k4 := HO47.out.ints.get j hkl
          simp only [Nat.zero_add] at k3 k4
          have hxx : (M[j] != M[j]) = false := by simp
          generalize M[j] = x at *
          go_wp2
          go_quiet (fail)
          go_wp2
          go_roundw
          case rel => exact ⟨j + 1, by omega, by go_num, HO37.out, HO47.out, below_drewN HB7.out _⟩
          case measure => simp [intOf]; omega
        · obtain rfl : j = k := by omega
          go_wp2_with fail
          refine (awake_walk _).mono ?_
          rintro e w8 ⟨rfl, hb⟩
          have HB8 := Lib.hid (below_seq HB7.out hb); clear hb
          go_wp2
          go_ret
          exact ⟨rfl, HB8.out⟩
end Go.Proofs.Ytmcjlkpogcnniaa
