/-
  The walk of the document's own first strong one.
-/
import Derived.Test.YtmcjlkpogcnniaaW4
set_option linter.unusedVariables false
namespace Go.Proofs.Ytmcjlkpogcnniaa
open Go.RowKit

set_option maxRecDepth 100000 in
set_option maxHeartbeats 2000000 in
theorem rFirst_walk (a : Option Addr) (n cap : Nat) (cl : List Int) (f t : Int) (w : World) (hn : cl.length = n) (hlt : n ≤ 4194304) (hc : Ints .u8 w a cl) (hf : -9223372036854775808 ≤ f ∧ f ≤ 9223372036854775807) (ht : -9223372036854775808 ≤ t ∧ t ≤ 9223372036854775807) :
    Calls Try.prog 31 #[.slice a n cap, .agg #[.int .i64 f, .int .i64 t]] w fun e w' => e = .returned (firstV cl f t) ∧ Below w.heap.size w w' := by
  have HN := Lib.hid hn; clear hn
  have HC := Lib.hid hc; clear hc
  by_cases hf0 : f < 0
  · have HR := Lib.hid (firstV_bad (cl := cl) (f := f) (t := t) (.inl hf0))
    go_enter Try.func31, Try.ntmps31
    go_wp2
    go_ret3
    exact ⟨by rw [HR.out]; rfl, by go_grown⟩
  · by_cases htf : t < f
    · have HR := Lib.hid (firstV_bad (cl := cl) (f := f) (t := t) (.inr (.inl htf)))
      go_enter Try.func31, Try.ntmps31
      go_wp2
      go_ret3
      exact ⟨by rw [HR.out]; rfl, by go_grown⟩
    · by_cases htn : (n : Int) < t
      · have HR := Lib.hid (firstV_bad (cl := cl) (f := f) (t := t) (.inr (.inr (by rw [HN.out]; exact htn))))
        go_enter Try.func31, Try.ntmps31
        go_wp2
        go_ret3
        exact ⟨by rw [HR.out]; rfl, by go_grown⟩
      · obtain ⟨f, rfl⟩ := Int.eq_ofNat_of_zero_le (show 0 ≤ f by omega)
        obtain ⟨t, rfl⟩ := Int.eq_ofNat_of_zero_le (show 0 ≤ t by omega)
        have h1 : f ≤ t := by omega
        have h2 : t ≤ n := by omega
        have HV := Lib.hid (firstV_ok (cl := cl) (f := f) (t := t) h1 (by rw [HN.out]; exact h2))
        clear hf0 htf htn hf ht
        have HA : Hid (Below w.heap.size w (w.alloc (.cells #[.int .i64 f, .int .i64 t] 46))) := Lib.hid ((Below.refl _ w).alloc (Nat.le_refl _) _)
        have HBx : Hid (∀ w' : World, Below (w.alloc (.cells #[.int .i64 f, .int .i64 t] 46)).heap.size (w.alloc (.cells #[.int .i64 f, .int .i64 t] 46)) w' → w'.heap[w.heap.size]? = some (.cells #[.int .i64 f, .int .i64 t] 46 (0, 0)) ∧ Below w.heap.size w w') := by
          refine Lib.hid (fun w' hb => ⟨?_, HA.out.trans (hb.mono (by simp))⟩)
          rw [hb.block w.heap.size (by simp)]
          exact heap_alloc_new w _
        go_enter Try.func31, Try.ntmps31
        go_wp2_with fail
        refine (rMatch_walk a n cap cl _ HN.out hlt (HC.out.below HA.out (Nat.le_refl _))).mono ?_
        rintro e w1 ⟨a', c', rfl, hm, hb1⟩
        obtain ⟨hblk, hb⟩ := HBx.out w1 hb1
        have HM := Lib.hid hm.ints; clear hm
        have HB1 := Lib.hid hb; clear hb hb1
        have r0 := cell_of_row w1 w.heap.size 0 _ _ (0, 0) hblk
        have r1 := cell_of_row w1 w.heap.size 1 _ _ (0, 0) hblk
        simp at r0 r1
        clear hblk
        have HC1 := Lib.hid (HC.out.below HB1.out (Nat.le_refl _))
        go_wp2
        go_loop [8] (FirV cl f t) (fun v => (cl.length + 1) - (intOf v).toNat)
        case atStart => exact ⟨f, Nat.le_refl _, rfl, by rw [HN.out]; omega, rfl⟩
        case round =>
          obtain ⟨i, hfi, rfl, hit, hfe⟩ := hrel
          have HF := Lib.hid hfe; clear hfe
          have hin1 : i ≤ n + 1 := by rw [← HN.out]; exact hit
          clear hit
          by_cases hlt2 : i < t
          · have hil : i < cl.length := by rw [HN.out]; omega
            have hin : (i : Int) < (n : Int) := by omega
            obtain ⟨b, o, ha⟩ := HC1.out.some (by omega)
            subst ha
            have c1 := HC1.out.get i hil
            have HD := Lib.hid (show cl.getD i 0 = cl[i] by simp [hil])
            generalize cl[i] = c at *
            by_cases hs : strC c
            · have HR := Lib.hid (show firstV cl f t = .tuple #[.int .i64 (i : Nat), .bool true, .int .i64 0] by
                rw [HV.out, HF.out, firstAt_str _ _ _ _ hlt2 (by rw [HD.out]; exact hs)]; rfl)
              have hc3 : c = 1 ∨ c = 2 ∨ c = 3 := by unfold strC at hs; omega
              clear hs
              rcases hc3 with rfl | rfl | rfl
              all_goals
                go_wp2
                go_ret3
                exact ⟨by rw [HR.out]; rfl, HB1.out⟩
            · have b1 : (c == 1) = false := by have : c ≠ 1 := by unfold strC at hs; omega
                                               simpa using this
              have b2 : (c == 2) = false := by have : c ≠ 2 := by unfold strC at hs; omega
                                               simpa using this
              have b3 : (c == 3) = false := by have : c ≠ 3 := by unfold strC at hs; omega
                                               simpa using this
              go_wp2_with fail
              refine (Begins_walk c _).mono ?_
              rintro e w' ⟨rfl, rfl⟩
              by_cases hb : begC c
              · rw [show (decide (begC c)) = true by simp [hb]]
                obtain ⟨m, hm1, hm2, hm3, hm4⟩ := match_beg cl i hil (by rw [HD.out]; exact hb)
                obtain ⟨hil2, hm5⟩ := match_at hil hm1
                have HF3 := Lib.hid (show firstAt cl (matchL cl) t f = firstAt cl (matchL cl) t (m + 1) by
                  rw [HF.out, firstAt_beg _ _ _ _ hlt2 (by rw [HD.out]; exact hb) hm1 hm2])
                have HM3 := Lib.hid hm3
                obtain ⟨bM, oM, ha⟩ := HM.out.some (by omega)
                subst ha
                have c2 := HM.out.get i hil2
                rw [hm5] at c2
                have hmn : m ≤ n := by rw [← HN.out]; exact hm3
                clear hm1 hm3 hm4 hm5 hb hs
                go_wp2
                go_round
                case rel => exact ⟨m + 1, by omega, by go_num, by have := HM3.out; omega, HF3.out⟩
                case measure => have := HN.out; simp [intOf]; omega
              · rw [show (decide (begC c)) = false by simp [hb]]
                have HF3 := Lib.hid (show firstAt cl (matchL cl) t f = firstAt cl (matchL cl) t (i + 1) by
                  rw [HF.out, firstAt_skip _ _ _ _ (by rw [HD.out]; exact hs) (by rw [HD.out]; exact hb)])
                clear hb hs
                go_wp2
                go_round
                case rel => exact ⟨i + 1, by omega, by go_num, by have := HN.out; omega, HF3.out⟩
                case measure => have := HN.out; simp [intOf]; omega
          · have HR := Lib.hid (show firstV cl f t = .tuple #[.int .i64 0, .bool false, .int .i64 0] by
              rw [HV.out, HF.out, firstAt_end _ _ _ _ hlt2]; rfl)
            have hlt3 : ¬ (i : Int) < (t : Int) := by omega
            go_wp2
            go_ret3
            exact ⟨by rw [HR.out]; rfl, HB1.out⟩
end Go.Proofs.Ytmcjlkpogcnniaa
