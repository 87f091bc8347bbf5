/-
  The walk of ParasCut.
-/
import Derived.Test.YtmcjlkpogcnniaaS5
import Derived.Test.YtmcjlkpogcnniaaP5
set_option linter.unusedVariables false
namespace Go.Proofs.Ytmcjlkpogcnniaa
open Go.RowKit

def CutR (m : Nat) (ps : List (Nat × Nat)) (w2 : World) (a i : Value) (wr : World) : Prop := ∃ k : Nat, k ≤ m ∧ a = .int .i64 (endAt ps k : Nat) ∧ i = .int .i64 k ∧ wr = w2
def CutQ (p q : Nat) (w2 : World) (v : Value) (wr : World) : Prop := ∃ k : Nat, p ≤ k ∧ k ≤ q ∧ v = .int .i64 k ∧ wr = w2

set_option maxRecDepth 100000 in
set_option maxHeartbeats 4000000 in
theorem cut_walk (a : Option Addr) (n cap : Nat) (l : List Int) (b : Option Addr) (m capb : Nat) (cl : List Int) (w : World) (h : ArgL .i32 w a n cap l) (h2 : ArgL .u8 w b m capb cl) :
    Calls Try.prog 8 #[.slice a n cap, .slice b m capb] w fun e w' => e = .returned (.bool true) ∧ Below w.heap.size w w' := by
  have HA := Lib.hid h; clear h
  have HA2 := Lib.hid h2; clear h2
  have hle := HA.out.le
  have hle2 := HA2.out.le
  by_cases hok : splitOk l cl
  · have HF := Lib.hid (cut_facts l cl)
    obtain ⟨ps, hps⟩ : ∃ ps, ps = splitL l cl := ⟨_, rfl⟩
    have HPl := Lib.hid (show ps.length ≤ m + 1 by rw [hps, ← HA2.out.len]; have := splitP_le l cl; rw [splitP, if_pos hok] at this; exact this)
    have HSp := Lib.hid (Split_walk a n cap b m capb l cl w HA.out.len HA2.out.len (by omega) HA.out.ints HA2.out.ints (by have := HA.out.len; have := HA2.out.len; unfold splitOk at hok; omega))
    rw [← hps] at HF HSp
    have HOk := Lib.hid hok
    clear hps hok
    go_enter Try.func8, Try.ntmps8
    go_wp2_with fail
    refine HSp.out.mono ?_
    rintro e w1 ⟨a1, m1, c1, rfl, ho, hb⟩
    have HM1 := Lib.hid ho.len
    have hm1 : m1 ≤ m + 1 := by rw [← HM1.out]; exact HPl.out
    have HP := Lib.hid ho.pairs; clear ho
    have HL1 := Lib.hid (HA.out.below hb (Nat.le_refl _)).ints
    have HC1 := Lib.hid (HA2.out.below hb (Nat.le_refl _)).ints
    have HB1 := Lib.hid hb; clear hb
    go_wp2
    go_loopw [7, 8] (CutR m1 ps w1) (fun _ i _ => m1 - (intOf i).toNat)
    case atStart => exact ⟨0, Nat.zero_le _, rfl, rfl, rfl⟩
    case round =>
      obtain ⟨i, hi, rfl, rfl, rfl⟩ := hrel
      by_cases hlt : i < m1
      · have hil : i < ps.length := by rw [HM1.out]; exact hlt
        obtain ⟨f1, f2, f3, f4, f5⟩ := HF.out.one i hil
        have HE := Lib.hid (endAt_succ ps i hil)
        obtain ⟨g, o, ha⟩ := HP.out.some (by omega)
        subst ha
        obtain ⟨c1', c2'⟩ := HP.out.get i hil
        rw [← f1]
        generalize hp : ps[i] = p at *
        obtain ⟨p1, p2⟩ := p
        simp only at f1 f2 f3 f4 f5 c1' c2' HE
        obtain ⟨q, rfl⟩ : ∃ q, p2 = q + 1 := ⟨p2 - 1, by omega⟩
        have F5 := Lib.hid f5; clear f5 f1
        have hqm : q < m := by have := HA2.out.len; omega
        have hql : q < cl.length := by omega
        clear f3
        simp only [Nat.add_sub_cancel] at f4
        rw [getD_at _ _ hql] at f4
        obtain ⟨bb, ob, ha⟩ := HC1.out.some (by omega)
        subst ha
        have c3 := HC1.out.get q hql
        have n1 : ((p1 : Int) != (p1 : Int)) = false := by simp
        have n2 : ¬ ((q + 1 : Nat) : Int) ≤ (p1 : Int) := by omega
        have n3 : ¬ (m : Int) < ((q + 1 : Nat) : Int) := by omega
        have hqm2 : (q : Int) < (m : Int) := by omega
        have hc3 : (cl[q] != 11) = false ∨ ((cl[q] != 11) = true ∧ ¬ (i : Int) + 1 < (m1 : Int)) := by
          by_cases hx : cl[q] = 11
          · left; simp [hx]
          · right
            refine ⟨by simp [hx], fun hh => hx (f4 (by have := HM1.out; omega))⟩
        clear f4
        generalize cl[q] = x at *
        rcases hc3 with hx | ⟨hx, hx2⟩
        all_goals
          go_wp2
          clear hx c3 c1' c2'
          try clear hx2
          go_loopw [9] (CutQ p1 q wr) (fun v _ => q - (intOf v).toNat)
          case atStart => exact ⟨p1, Nat.le_refl _, by omega, rfl, rfl⟩
          case round =>
            obtain ⟨k, h1, h2, rfl, rfl⟩ := hrel
            by_cases hkq : k < q
            · have hkl : k < cl.length := by omega
              have d1 := HC1.out.get k hkl
              have hkm : (k : Int) < (m : Int) := by omega
              by_cases hy : cl[k] = 11
              · obtain ⟨e1, e2, e3, e4⟩ := not_cut l cl k q hkq (fun j h3 h4 => F5.out j (by omega) (by omega)) (by rw [getD_at _ _ hkl]; exact hy)
                rw [hy] at d1
                obtain ⟨ba, oa, ha⟩ := HL1.out.some (by omega)
                subst ha
                have d2 := HL1.out.get k (by omega)
                have d3 := HL1.out.get (k + 1) e1
                rw [getD_at _ _ (by omega)] at e2
                rw [getD_at _ _ e1] at e3
                rw [e2] at d2
                rw [e3] at d3
                have hn1 : (k : Int) + 1 < (n : Int) := by have := HA.out.len; omega
                have HQ := Lib.hid e4
                clear e1 e2 e3 e4 hy h2 f2 hqm hql n2 n3
                have hkq' : (k : Int) < (q : Int) := by omega
                have hkk : ((k : Int) == (q : Int) + 1 - 2) = true := by have := HQ.out; rw [beq_iff_eq]; omega
                clear hkq
                go_wp2
                go_roundw
                case rel => exact ⟨k + 1, by omega, by omega, by go_num, rfl⟩
                case measure => have := HQ.out; simp [intOf]; omega
              · have hy' : (cl[k] == 11) = false := by simpa using hy
                generalize cl[k] = y at *
                clear hy
                go_wp2
                go_roundw
                case rel => exact ⟨k + 1, by omega, by omega, by go_num, rfl⟩
                case measure => simp [intOf]; omega
            · obtain rfl : k = q := by omega
              go_wp2
              go_roundw
              case rel => exact ⟨i + 1, by omega, by rw [HE.out]; go_num, by go_num, rfl⟩
              case measure => simp [intOf]; omega
      · obtain rfl : i = m1 := by omega
        have hend : endAt ps i = m := by rw [← HM1.out, HF.out.last, HA2.out.len]
        rw [hend]
        clear hend
        go_wp2_with fail
        refine (awake_walk _).mono ?_
        rintro e w2 ⟨rfl, hb⟩
        have HB2 := Lib.hid (below_seq HB1.out hb); clear hb
        go_wp2
        go_ret
        exact ⟨rfl, HB2.out⟩
  · have h1 : 0 < n := by have := HA.out.len; unfold splitOk at hok; omega
    have h2 : n ≠ m := by have := HA.out.len; have := HA2.out.len; unfold splitOk at hok; omega
    have h1' : (0 : Int) < (n : Int) := by omega
    have h2' : ((n : Int) != (m : Int)) = true := bne_iff_ne.2 (by omega)
    go_enter Try.func8, Try.ntmps8
    go_wp2_with fail
    refine (Split_bad a n cap b m capb w h1 h2).mono ?_
    rintro e w1 ⟨rfl, rfl⟩
    clear h2 hok
    go_wp2_with fail
    refine (awake_walk _).mono ?_
    rintro e w2 ⟨rfl, hb⟩
    go_wp2
    go_ret
    exact ⟨rfl, hb⟩
end Go.Proofs.Ytmcjlkpogcnniaa
