/-
  The walks of a paragraph's level.
-/
import Derived.Test.YtmcjlkpogcnniaaW5
set_option linter.unusedVariables false
namespace Go.Proofs.Ytmcjlkpogcnniaa
open Go.RowKit

def autoL (cl : List Int) : Int := match firstAt cl (matchL cl) cl.length 0 with
  | some j => if cl.getD j 0 = 1 then 0 else 1
  | none => 0
def levelV (cl : List Int) (b : Int) : Value :=
  .tuple #[.int .i8 (if b = 0 then 0 else if b = 1 then 1 else if b = -1 then autoL cl else 0), .int .i64 (if b = 0 ∨ b = 1 ∨ b = -1 then 0 else 2)]

theorem firstV_all {cl : List Int} {n : Nat} (h : cl.length = n) : firstV cl 0 (n : Int) = optV (firstAt cl (matchL cl) cl.length 0) := by
  have := firstV_ok (cl := cl) (f := 0) (t := n) (Nat.zero_le _) (by omega)
  rw [h]
  exact this

set_option maxHeartbeats 2000000 in
theorem Level_walk (a : Option Addr) (n cap : Nat) (cl : List Int) (b : Int) (w : World) (hn : cl.length = n) (hlt : n ≤ 4194304) (hc : Ints .u8 w a cl) :
    Calls Try.prog 32 #[.slice a n cap, .int .i8 b] w fun e w' => e = .returned (levelV cl b) ∧ Below w.heap.size w w' := by
  have HN := Lib.hid hn; clear hn
  have HC := Lib.hid hc; clear hc
  by_cases h0 : b = 0
  · subst h0
    go_enter Try.func32, Try.ntmps32
    go_wp2
    go_ret2
    exact ⟨rfl, Below.refl _ _⟩
  · have b0 : (b == 0) = false := by simpa using h0
    by_cases h1 : b = 1
    · subst h1
      go_enter Try.func32, Try.ntmps32
      go_wp2
      go_ret2
      exact ⟨rfl, Below.refl _ _⟩
    · have b1 : (b == 1) = false := by simpa using h1
      by_cases h2 : b = -1
      · subst h2
        clear h0 h1 b0 b1
        have HV := Lib.hid (show levelV cl (-1) = .tuple #[.int .i8 (autoL cl), .int .i64 0] from rfl)
        have HFi := Lib.hid (First_walk a n cap cl 0 n w HN.out hlt HC.out (by omega) (by omega))
        rw [firstV_all HN.out] at HFi
        go_enter Try.func32, Try.ntmps32
        go_wp2_with fail
        refine HFi.out.mono ?_
        rintro e w1 ⟨rfl, hb1⟩
        have HB1 := Lib.hid hb1; clear hb1
        cases hf : firstAt cl (matchL cl) cl.length 0 with
        | none =>
          have HA := Lib.hid (show autoL cl = 0 by unfold autoL; rw [hf])
          clear hf
          simp only [optV]
          go_wp2
          go_ret2
          exact ⟨by rw [HV.out, HA.out]; rfl, HB1.out⟩
        | some j =>
          obtain ⟨_, hj, hs⟩ := firstAt_some _ _ _ _ _ hf
          have hjn : (j : Int) < (n : Int) := by rw [← HN.out]; omega
          obtain ⟨bc, o, ha⟩ := HC.out.some (by omega)
          subst ha
          have c1 := (HC.out.below HB1.out (Nat.le_refl _)).get j hj
          have hd : cl.getD j 0 = cl[j] := by simp [hj]
          simp only [optV]
          by_cases hx : cl[j] = 1
          · have HA := Lib.hid (show autoL cl = 0 by unfold autoL; rw [hf]; simp only [hd, if_pos hx])
            rw [hx] at c1
            clear hf hd hs hx
            go_wp2
            go_ret2
            exact ⟨by rw [HV.out, HA.out]; rfl, HB1.out⟩
          · have HA := Lib.hid (show autoL cl = 1 by unfold autoL; rw [hf]; simp only [hd, if_neg hx])
            have hx2 : (cl[j] != 1) = true := by simpa using hx
            generalize cl[j] = x at *
            clear hf hd hs hx
            go_wp2
            go_ret2
            exact ⟨by rw [HV.out, HA.out]; rfl, HB1.out⟩
      · have b2 : (b == -1) = false := by simpa using h2
        have HV := Lib.hid (show levelV cl b = .tuple #[.int .i8 0, .int .i64 2] by unfold levelV; simp [h0, h1, h2])
        clear h0 h1 h2
        go_enter Try.func32, Try.ntmps32
        go_wp2
        go_ret2
        exact ⟨by rw [HV.out]; rfl, Below.refl _ _⟩

set_option maxHeartbeats 2000000 in
theorem rLevel_walk (a : Option Addr) (n cap : Nat) (cl : List Int) (b : Int) (w : World) (hn : cl.length = n) (hlt : n ≤ 4194304) (hc : Ints .u8 w a cl) :
    Calls Try.prog 33 #[.slice a n cap, .int .i8 b] w fun e w' => e = .returned (levelV cl b) ∧ Below w.heap.size w w' := by
  have HN := Lib.hid hn; clear hn
  have HC := Lib.hid hc; clear hc
  by_cases h0 : b = 0
  · subst h0
    go_enter Try.func33, Try.ntmps33
    go_wp2
    go_ret2
    exact ⟨rfl, Below.refl _ _⟩
  · have b0 : (b == 0) = false := by simpa using h0
    by_cases h1 : b = 1
    · subst h1
      go_enter Try.func33, Try.ntmps33
      go_wp2
      go_ret2
      exact ⟨rfl, Below.refl _ _⟩
    · have b1 : (b == 1) = false := by simpa using h1
      by_cases h2 : b = -1
      · subst h2
        clear h0 h1 b0 b1
        have HV := Lib.hid (show levelV cl (-1) = .tuple #[.int .i8 (autoL cl), .int .i64 0] from rfl)
        have HFi := Lib.hid (rFirst_walk a n cap cl 0 n w HN.out hlt HC.out (by omega) (by omega))
        rw [firstV_all HN.out] at HFi
        go_enter Try.func33, Try.ntmps33
        go_wp2_with fail
        refine HFi.out.mono ?_
        rintro e w1 ⟨rfl, hb1⟩
        have HB1 := Lib.hid hb1; clear hb1
        cases hf : firstAt cl (matchL cl) cl.length 0 with
        | none =>
          have HA := Lib.hid (show autoL cl = 0 by unfold autoL; rw [hf])
          clear hf
          simp only [optV]
          go_wp2
          go_ret2
          exact ⟨by rw [HV.out, HA.out]; rfl, HB1.out⟩
        | some j =>
          obtain ⟨_, hj, hs⟩ := firstAt_some _ _ _ _ _ hf
          have hjn : (j : Int) < (n : Int) := by rw [← HN.out]; omega
          obtain ⟨bc, o, ha⟩ := HC.out.some (by omega)
          subst ha
          have c1 := (HC.out.below HB1.out (Nat.le_refl _)).get j hj
          have hd : cl.getD j 0 = cl[j] := by simp [hj]
          simp only [optV]
          by_cases hx : cl[j] = 1
          · have HA := Lib.hid (show autoL cl = 0 by unfold autoL; rw [hf]; simp only [hd, if_pos hx])
            rw [hx] at c1
            clear hf hd hs hx
            go_wp2
            go_ret2
            exact ⟨by rw [HV.out, HA.out]; rfl, HB1.out⟩
          · have HA := Lib.hid (show autoL cl = 1 by unfold autoL; rw [hf]; simp only [hd, if_neg hx])
            have hx2 : (cl[j] != 1) = true := by simpa using hx
            generalize cl[j] = x at *
            clear hf hd hs hx
            go_wp2
            go_ret2
            exact ⟨by rw [HV.out, HA.out]; rfl, HB1.out⟩
      · have b2 : (b == -1) = false := by simpa using h2
        have HV := Lib.hid (show levelV cl b = .tuple #[.int .i8 0, .int .i64 2] by unfold levelV; simp [h0, h1, h2])
        clear h0 h1 h2
        go_enter Try.func33, Try.ntmps33
        go_wp2
        go_ret2
        exact ⟨by rw [HV.out]; rfl, Below.refl _ _⟩
end Go.Proofs.Ytmcjlkpogcnniaa
