/-
  The walks of the first strong one.
-/
import Derived.Test.YtmcjlkpogcnniaaW3
import Derived.WalkMore
set_option linter.unusedVariables false
namespace Go.Proofs.Ytmcjlkpogcnniaa
open Go.RowKit

def optV (o : Option Nat) : Value := match o with
  | some j => .tuple #[.int .i64 (j : Nat), .bool true, .int .i64 0]
  | none => .tuple #[.int .i64 0, .bool false, .int .i64 0]
def firstV (cl : List Int) (f t : Int) : Value :=
  if f < 0 ∨ t < f ∨ (cl.length : Int) < t then .tuple #[.int .i64 0, .bool false, .int .i64 2]
  else optV (firstAt cl (matchL cl) t.toNat f.toNat)
theorem firstV_bad {cl : List Int} {f t : Int} (h : f < 0 ∨ t < f ∨ (cl.length : Int) < t) : firstV cl f t = .tuple #[.int .i64 0, .bool false, .int .i64 2] := if_pos h
theorem firstV_ok {cl : List Int} {f t : Nat} (h1 : f ≤ t) (h2 : t ≤ cl.length) : firstV cl f t = optV (firstAt cl (matchL cl) t f) := by
  unfold firstV
  rw [if_neg (by omega)]
  simp
def FirR (cl : List Int) (f t : Nat) (s v : Value) : Prop :=
  ∃ i k : Nat, f ≤ i ∧ i ≤ t ∧ s = .int .i64 k ∧ v = .int .i64 i ∧ firstAt cl (matchL cl) t f = firstAt cl (matchL cl) t (max i k)
def FirV (cl : List Int) (f t : Nat) (v : Value) : Prop :=
  ∃ i : Nat, f ≤ i ∧ v = .int .i64 i ∧ i ≤ cl.length + 1 ∧ firstAt cl (matchL cl) t f = firstAt cl (matchL cl) t i

theorem match_at {cl : List Int} {i m : Nat} (hi : i < cl.length) (h : (matchL cl).getD i 0 = (m : Int)) : ∃ h' : i < (matchL cl).length, (matchL cl)[i] = (m : Int) := by
  refine ⟨by rw [matchL_len]; exact hi, ?_⟩
  rw [List.getD_eq_getElem?_getD, List.getElem?_eq_getElem (by rw [matchL_len]; exact hi), Option.getD_some] at h
  exact h

set_option maxRecDepth 100000 in
set_option maxHeartbeats 2000000 in
theorem First_walk (a : Option Addr) (n cap : Nat) (cl : List Int) (f t : Int) (w : World) (hn : cl.length = n) (hlt : n ≤ 4194304) (hc : Ints .u8 w a cl) (hf : -9223372036854775808 ≤ f ∧ f ≤ 9223372036854775807) (ht : -9223372036854775808 ≤ t ∧ t ≤ 9223372036854775807) :
    Calls Try.prog 30 #[.slice a n cap, .agg #[.int .i64 f, .int .i64 t]] w fun e w' => e = .returned (firstV cl f t) ∧ Below w.heap.size w w' := by
  have HN := Lib.hid hn; clear hn
  have HC := Lib.hid hc; clear hc
  by_cases hf0 : f < 0
  · have HR := Lib.hid (firstV_bad (cl := cl) (f := f) (t := t) (.inl hf0))
    go_enter Try.func30, Try.ntmps30
    go_wp2
    go_step3
    go_wp2
    try rw [Exit.noGoto_ret]
    go_ret3
    exact ⟨by rw [HR.out]; rfl, by go_grown⟩
  · by_cases htf : t < f
    · have HR := Lib.hid (firstV_bad (cl := cl) (f := f) (t := t) (.inr (.inl htf)))
      go_enter Try.func30, Try.ntmps30
      go_wp2
      go_step3
      go_wp2
      try rw [Exit.noGoto_ret]
      go_ret3
      exact ⟨by rw [HR.out]; rfl, by go_grown⟩
    · by_cases htn : (n : Int) < t
      · have HR := Lib.hid (firstV_bad (cl := cl) (f := f) (t := t) (.inr (.inr (by rw [HN.out]; exact htn))))
        go_enter Try.func30, Try.ntmps30
        go_wp2
        go_step3
        go_wp2
        try rw [Exit.noGoto_ret]
        go_ret3
        exact ⟨by rw [HR.out]; rfl, by go_grown⟩
      · obtain ⟨f, rfl⟩ := Int.eq_ofNat_of_zero_le (show 0 ≤ f by omega)
        obtain ⟨t, rfl⟩ := Int.eq_ofNat_of_zero_le (show 0 ≤ t by omega)
        have h1 : f ≤ t := by omega
        have h2 : t ≤ n := by omega
        have HV := Lib.hid (firstV_ok (cl := cl) (f := f) (t := t) h1 (by rw [HN.out]; exact h2))
        clear hf0 htf htn hf ht
        have HA : Hid (Below w.heap.size w (w.alloc (.cells #[.int .i64 f, .int .i64 t] 46))) := Lib.hid ((Below.refl _ w).alloc (Nat.le_refl _) _)
        have HBx : Hid (∀ w' : World, Below (w.alloc (.cells #[.int .i64 f, .int .i64 t] 46)).heap.size (w.alloc (.cells #[.int .i64 f, .int .i64 t] 46)) w' → w'.heap[w.heap.size]? = some (.cells #[.int .i64 f, .int .i64 t] 46 (0, 0)) ∧ Below w.heap.size w w') := by
          refine Lib.hid (fun w' hb => ⟨?_, HA.out.trans (hb.mono (by simp))⟩)
          rw [hb.block w.heap.size (by simp)]
          exact heap_alloc_new w _
        go_enter Try.func30, Try.ntmps30
        go_wp2
        go_step3
        go_wp2_with fail
        refine (Match_walk a n cap cl _ HN.out hlt (HC.out.below HA.out (Nat.le_refl _))).mono ?_
        rintro e w1 ⟨a', c', rfl, hm, hb1⟩
        obtain ⟨hblk, hb⟩ := HBx.out w1 hb1
        have HM := Lib.hid hm.ints; clear hm
        have HB1 := Lib.hid hb; clear hb hb1
        have r0 := cell_of_row w1 w.heap.size 0 _ _ (0, 0) hblk
        have r1 := cell_of_row w1 w.heap.size 1 _ _ (0, 0) hblk
        simp at r0 r1
        clear hblk
        have HC1 := Lib.hid (HC.out.below HB1.out (Nat.le_refl _))
        go_wp2
        go_step3
        go_wp2
        go_loop [8, 9] (FirR cl f t) (fun _ v => t - (intOf v).toNat)
        case atStart => exact ⟨f, f, Nat.le_refl _, h1, rfl, rfl, by rw [Nat.max_self]⟩
        case round =>
          obtain ⟨i, k, hfi, hit, rfl, rfl, hfe⟩ := hrel
          have HF := Lib.hid hfe; clear hfe
          by_cases hlt2 : i < t
          · by_cases hik : i < k
            · have HF2 := Lib.hid (show firstAt cl (matchL cl) t f = firstAt cl (matchL cl) t (max (i + 1) k) by rw [HF.out]; congr 1; omega)
              go_wp2
              go_round
              case rel => exact ⟨i + 1, k, by omega, by omega, rfl, by go_num, HF2.out⟩
              case measure => simp [intOf]; omega
            · have HF2 := Lib.hid (show firstAt cl (matchL cl) t f = firstAt cl (matchL cl) t i by rw [HF.out]; congr 1; omega)
              have hil : i < cl.length := by rw [HN.out]; omega
              have hin : (i : Int) < (n : Int) := by omega
              obtain ⟨b, o, ha⟩ := HC1.out.some (by omega)
              subst ha
              have c1 := HC1.out.get i hil
              have HD := Lib.hid (show cl.getD i 0 = cl[i] by simp [hil])
              generalize cl[i] = c at *
              by_cases hs : strC c
              · have HR := Lib.hid (show firstV cl f t = .tuple #[.int .i64 (i : Nat), .bool true, .int .i64 0] by
                  rw [HV.out, HF2.out, firstAt_str _ _ _ _ hlt2 (by rw [HD.out]; exact hs)]; rfl)
                have hc3 : c = 1 ∨ c = 2 ∨ c = 3 := by unfold strC at hs; omega
                clear hs
                rcases hc3 with rfl | rfl | rfl
                all_goals
                  go_wp2
                  try rw [Exit.noGoto_ret]
                  go_ret3
                  exact ⟨by rw [HR.out]; rfl, HB1.out⟩
              · have b1 : (c == 1) = false := by have : c ≠ 1 := by unfold strC at hs; omega
                                                 simpa using this
                have b2 : (c == 2) = false := by have : c ≠ 2 := by unfold strC at hs; omega
                                                 simpa using this
                have b3 : (c == 3) = false := by have : c ≠ 3 := by unfold strC at hs; omega
                                                 simpa using this
                go_wp2_with fail
                refine (begins_walk c _).mono ?_
                rintro e w' ⟨rfl, rfl⟩
                by_cases hb : begC c
                · rw [show (decide (begC c)) = true by simp [hb]]
                  obtain ⟨m, hm1, hm2, hm3, hm4⟩ := match_beg cl i hil (by rw [HD.out]; exact hb)
                  obtain ⟨hil2, hm5⟩ := match_at hil hm1
                  have HF3 := Lib.hid (show firstAt cl (matchL cl) t f = firstAt cl (matchL cl) t (max (i + 1) m) by
                    rw [HF2.out, firstAt_beg _ _ _ _ hlt2 (by rw [HD.out]; exact hb) hm1 hm2, ← firstAt_land cl t i m (by rw [HN.out]; exact h2) (fun h => (hm4 h).1)]
                    congr 1; omega)
                  obtain ⟨bM, oM, ha⟩ := HM.out.some (by omega)
                  subst ha
                  have c2 := HM.out.get i hil2
                  rw [hm5] at c2
                  clear hm1 hm4 hm5 hb hs
                  go_wp2
                  go_round
                  case rel => exact ⟨i + 1, m, by omega, by omega, rfl, by go_num, HF3.out⟩
                  case measure => simp [intOf]; omega
                · rw [show (decide (begC c)) = false by simp [hb]]
                  have HF3 := Lib.hid (show firstAt cl (matchL cl) t f = firstAt cl (matchL cl) t (max (i + 1) k) by
                    rw [HF2.out, firstAt_skip _ _ _ _ (by rw [HD.out]; exact hs) (by rw [HD.out]; exact hb)]
                    congr 1; omega)
                  clear hb hs
                  go_wp2
                  go_round
                  case rel => exact ⟨i + 1, k, by omega, by omega, rfl, by go_num, HF3.out⟩
                  case measure => simp [intOf]; omega
          · have HR := Lib.hid (show firstV cl f t = .tuple #[.int .i64 0, .bool false, .int .i64 0] by
              rw [HV.out, HF.out, firstAt_end _ _ _ _ (by omega)]; rfl)
            obtain rfl : i = t := by omega
            go_wp2
            try rw [Exit.noGoto_ret]
            go_ret3
            exact ⟨by rw [HR.out]; rfl, HB1.out⟩
end Go.Proofs.Ytmcjlkpogcnniaa
