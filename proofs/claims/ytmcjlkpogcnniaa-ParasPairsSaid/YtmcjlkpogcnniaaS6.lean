/-
  The walk of ParasPairs.
-/
import Derived.Test.YtmcjlkpogcnniaaS2
import Derived.Test.YtmcjlkpogcnniaaP4
set_option linter.unusedVariables false
namespace Go.Proofs.Ytmcjlkpogcnniaa
open Go.RowKit

def PrR (n : Nat) (w2 : World) (i : Value) (wr : World) : Prop := ∃ k : Nat, k ≤ n ∧ i = .int .i64 k ∧ Below w2.heap.size w2 wr
def PrQ (i m : Nat) (w2 : World) (v : Value) (wr : World) : Prop := ∃ k : Nat, i < k ∧ k ≤ m ∧ v = .int .i64 k ∧ Below w2.heap.size w2 wr
def PrE (i : Nat) (w2 : World) (v : Value) (wr : World) : Prop := v = .int .i64 ((i : Int) + 1) ∧ Below w2.heap.size w2 wr
theorem begins_drew (c : Int) (b : Bool) (h : decide (begC c) = b) (w : World) : ∀ d, Calls Try.prog 34 #[.int .u8 c] (w.drewN d) fun e w' => e = .returned (.bool b) ∧ w' = w.drewN d := fun d => by
  subst h
  exact (Begins_walk c (w.drewN d)).mono (fun e w' h => ⟨h.1, h.2.symm⟩)

set_option maxRecDepth 100000 in
set_option maxHeartbeats 4000000 in
theorem pairs_walk (a : Option Addr) (n cap : Nat) (cl : List Int) (w : World) (hn : cl.length = n) (hmax : n ≤ 9223372036854775807) (hc : Ints .u8 w a cl) :
    Calls Try.prog 9 #[.slice a n cap] w fun e w' => e = .returned (.bool true) ∧ Below w.heap.size w w' := by
  have HN := Lib.hid hn; clear hn
  have HC := Lib.hid hc; clear hc
  go_enter Try.func9, Try.ntmps9
  go_wp2_with fail
  refine (awake_walk w).mono ?_
  rintro e w1 ⟨rfl, hb⟩
  have HB1 := Lib.hid hb; clear hb
  by_cases hbig : (300 : Int) < (n : Int)
  · go_wp2
    go_ret
    exact ⟨rfl, HB1.out⟩
  · have hsm : n ≤ 300 := by omega
    clear hmax
    have HC1 := Lib.hid (HC.out.below HB1.out (Nat.le_refl _))
    go_wp2_with fail
    refine (Match_walk a n cap cl w1 HN.out (by omega) HC1.out).mono ?_
    rintro e w2 ⟨a2, c2, rfl, ho, hb⟩
    have HO := Lib.hid ho.ints; clear ho
    have HB2 := Lib.hid (below_seq HB1.out hb)
    have HC2 := Lib.hid (HC1.out.below hb (Nat.le_refl _)); clear hb
    have HM := Lib.hid (matchL_len cl)
    have hnn : ((n : Int) != (n : Int)) = false := by simp
    go_wp2
    go_loopw [5] (PrR n w2) (fun i _ => n - (intOf i).toNat)
    case atStart => exact ⟨0, Nat.zero_le _, rfl, Below.refl _ _⟩
    case round =>
      obtain ⟨i, hk, rfl, hbl⟩ := hrel
      have HB3 := Lib.hid hbl
      have HC3 := Lib.hid (HC2.out.below hbl (Nat.le_refl _))
      have HO3 := Lib.hid (HO.out.below hbl (Nat.le_refl _)); clear hbl
      by_cases hlt : i < n
      · have hil : i < cl.length := by rw [HN.out]; exact hlt
        have hiM : i < (matchL cl).length := by rw [HM.out]; exact hil
        have hlt' : (i : Int) < (n : Int) := by omega
        obtain ⟨b, o, ha⟩ := HC.out.some (by omega)
        subst ha
        obtain ⟨g, o2, ha⟩ := HO.out.some (by omega)
        subst ha
        have c1 := HC3.out.get i hil
        have c2 := HO3.out.get i hiM
        have HD := Lib.hid (getD_at cl i hil)
        have HE := Lib.hid (getD_at (matchL cl) i hiM)
        generalize cl[i] = c at *
        go_wp2_with fail
        refine (Begins_walk c _).mono ?_
        rintro e w' ⟨rfl, rfl⟩
        by_cases hb : begC c
        · rw [show (decide (begC c)) = true by simp [hb]]
          have hbc : begC (cl.getD i 0) := by rw [HD.out]; exact hb
          obtain ⟨m, hm1, hm2, hm3, hm4⟩ := match_beg cl i hil hbc
          have hme : (matchL cl)[i] = (m : Int) := by rw [← HE.out]; exact hm1
          rw [hme] at c2
          have HMi := Lib.hid hm1
          have HBc := Lib.hid hbc
          clear hb hbc hme
          have hmn' : m ≤ n := by rw [← HN.out]; exact hm3
          have n1 : ¬ ((m : Int) ≤ (i : Int)) := by omega
          have n2 : ¬ ((n : Int) < (m : Int)) := by omega
          by_cases hmn : m < n
          · have hml : m < cl.length := by rw [HN.out]; exact hmn
            have hmM : m < (matchL cl).length := by rw [HM.out]; exact hml
            obtain ⟨e1, e2⟩ := hm4 hml
            rw [getD_at _ _ hml] at e1
            rw [getD_at _ _ hmM] at e2
            have c3 := HC3.out.get m hml
            have c4 := HO3.out.get m hmM
            rw [e1] at c3
            rw [e2] at c4
            have hmn2 : (m : Int) < (n : Int) := by omega
            have hii : ((i : Int) != (i : Int)) = false := by simp
            have hex : i < m := hm2
            clear e1 e2 hm4 hm1
            go_wp2
            clear c1 c3 c4
            go_loopw [6] (PrQ i m w2) (fun v _ => m - (intOf v).toNat)
            case atStart => exact ⟨i + 1, by omega, by omega, by go_num, HB3.out⟩
            case round =>
              obtain ⟨k, hk1, hk2, rfl, hbl⟩ := hrel
              have HB4 := Lib.hid hbl
              have HC4 := Lib.hid (HC2.out.below hbl (Nat.le_refl _))
              have HO4 := Lib.hid (HO.out.below hbl (Nat.le_refl _)); clear hbl
              have c5 := HO4.out.get i hiM
              rw [show (matchL cl)[i] = (m : Int) by rw [← HE.out]; exact HMi.out] at c5
              by_cases hkm : k < m
              · have hkl : k < cl.length := by omega
                have hkM : k < (matchL cl).length := by rw [HM.out]; exact hkl
                have c6 := HC4.out.get k hkl
                have c7 := HO4.out.get k hkM
                obtain ⟨p1, p2, p3⟩ := pairs_in cl i m k hil HBc.out HMi.out hml hk1 hkm
                rw [getD_at _ _ hkl] at p1 p2 p3
                rw [getD_at _ _ hkM] at p2 p3
                generalize cl[k] = x at *
                generalize (matchL cl)[k] = y at *
                have x11 : (x == 11) = false := by simpa using p1
                have hkm' : (k : Int) < (m : Int) := by omega
                have hkn : (k : Int) < (n : Int) := by omega
                by_cases hbx : begC x
                · have hy : decide ((m : Int) ≤ y) = false := by have := p2 hbx; simp; omega
                  have x23 : (x == 23) = false := by unfold begC at hbx; simp; omega
                  have HBg := Lib.hid (fun w => begins_drew x true (by simp [hbx]) w)
                  clear p1 p2 p3 hbx
                  go_wp2
                  go_quiet ((go_at_call 34; exact Calls.quiet_of_same (HBg.out _ _)))
                  go_wp2
                  go_roundw
                  case rel => exact ⟨k + 1, by omega, by omega, by go_num, below_drewN HB4.out _⟩
                  case measure => simp [intOf]; omega
                · have HBg := Lib.hid (fun w => begins_drew x false (by simp [hbx]) w)
                  clear hbx
                  by_cases h23 : x = 23
                  · subst h23
                    have hy : decide (y ≤ (i : Int)) = false := by have := p3 rfl; simp; omega
                    clear p1 p2 p3
                    go_wp2
                    go_quiet ((go_at_call 34; exact Calls.quiet_of_same (HBg.out _ _)))
                    go_wp2
                    go_roundw
                    case rel => exact ⟨k + 1, by omega, by omega, by go_num, below_drewN HB4.out _⟩
                    case measure => simp [intOf]; omega
                  · have x23 : (x == 23) = false := by simpa using h23
                    clear p1 p2 p3 h23
                    go_wp2
                    go_quiet ((go_at_call 34; exact Calls.quiet_of_same (HBg.out _ _)))
                    go_wp2
                    go_roundw
                    case rel => exact ⟨k + 1, by omega, by omega, by go_num, below_drewN HB4.out _⟩
                    case measure => simp [intOf]; omega
              · obtain rfl : k = m := by omega
                go_wp2
                go_roundw
                case rel => exact ⟨i + 1, by omega, by go_num, HB4.out⟩
                case measure => simp [intOf]; omega
          · obtain rfl : m = n := by omega
            clear hm4 hm1
            go_wp2
            clear c1 c2
            go_loopw [6] (PrE i w2) (fun v _ => 0)
            case atStart => exact ⟨by go_num, HB3.out⟩
            case round =>
              obtain ⟨rfl, hbl⟩ := hrel
              have HB4 := Lib.hid hbl
              have HO4 := Lib.hid (HO.out.below hbl (Nat.le_refl _)); clear hbl
              have c5 := HO4.out.get i hiM
              rw [show (matchL cl)[i] = (m : Int) by rw [← HE.out]; exact HMi.out] at c5
              by_cases hx : (i : Int) + 1 < (m : Int)
              all_goals
                go_wp2
                go_roundw
                case rel => exact ⟨i + 1, by omega, by go_num, HB4.out⟩
                case measure => simp [intOf]; omega
        · rw [show (decide (begC c)) = false by simp [hb]]
          rcases pairs_other cl i hil (by rw [HD.out]; exact hb) with h1 | ⟨h23, m, h1, h2, h3⟩
          · rw [HE.out] at h1
            rw [h1] at c2
            clear h1 hb
            go_wp2
            go_roundw
            case rel => exact ⟨i + 1, by omega, by go_num, HB3.out⟩
            case measure => simp [intOf]; omega
          · rw [HE.out] at h1
            rw [h1] at c2
            rw [HD.out] at h23
            subst h23
            have hmM : m < (matchL cl).length := by omega
            rw [getD_at _ _ hmM] at h3
            have c4 := HO3.out.get m hmM
            rw [h3] at c4
            have n1 : ((m : Int) != -1) = true := bne_iff_ne.2 (by omega)
            have n2 : ¬ ((m : Int) < 0) := by omega
            have n3 : ¬ ((i : Int) ≤ (m : Int)) := by omega
            have hii : ((i : Int) != (i : Int)) = false := by simp
            have hmn : (m : Int) < (n : Int) := by omega
            clear h1 h3 hb
            go_wp2
            go_roundw
            case rel => exact ⟨i + 1, by omega, by go_num, HB3.out⟩
            case measure => simp [intOf]; omega
      · obtain rfl : i = n := by omega
        go_wp2
        go_ret
        exact ⟨rfl, HB2.out.trans (HB3.out.mono HB2.out.size)⟩
end Go.Proofs.Ytmcjlkpogcnniaa
