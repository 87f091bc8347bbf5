/-
  The walk of the document's own match.
-/
import Derived.Test.YtmcjlkpogcnniaaW2
set_option linter.unusedVariables false
namespace Go.Proofs.Ytmcjlkpogcnniaa
open Go.RowKit

set_option maxHeartbeats 2000000 in
theorem rMatch_walk (a : Option Addr) (n cap : Nat) (cl : List Int) (w : World) (hn : cl.length = n) (hlt : n ≤ 4194304) (hc : Ints .u8 w a cl) :
    Calls Try.prog 29 #[.slice a n cap] w fun e w' => ∃ a' c', e = .returned (.slice a' n c') ∧ Own w.heap.size 3 w' a' n c' (ivs .i64 (matchL cl)) ∧ Below w.heap.size w w' := by
  have HN := Lib.hid hn; clear hn
  have HC := Lib.hid hc; clear hc
  go_enter Try.func29, Try.ntmps29
  go_wp2_with (at_make; refine wpList_mk Try.elemInt rfl rfl (.tmp 8) (.tmp 8) rfl n (by omega) (by unfold maxLen; omega) rfl rfl ?_)
  intro w3 hown3 hb3 hsz3
  have HO3 := Lib.hid hown3; clear hown3
  have HB3 := Lib.hid hb3; clear hb3
  have HS3 := Lib.hid hsz3; clear hsz3
  go_wp2
  go_loopw [4, 5] (MatR w n cl) (fun _ i _ => n - (intOf i).toNat)
  case atStart => exact ⟨0, none, 0, 0, Nat.zero_le _, rfl, rfl, by rw [← HN.out] at HO3 ⊢; simpa [matchTo, ← ivs_replicate] using HO3.out, Own.nil _ _ _, HB3.out, by rw [HS3.out]; exact Nat.le_refl _⟩
  case round =>
    obtain ⟨k, aP, m, cP, hk, rfl, rfl, hst⟩ := hrel
    have HST := Lib.hid hst; clear hst
    by_cases hkn : k < n
    · have hkl : k < cl.length := by rw [HN.out]; exact hkn
      obtain ⟨b, o, ha⟩ := HC.out.some (by omega)
      subst ha
      have c1 := (HC.out.below HST.out.below (Nat.le_refl _)).get k hkl
      have HD := Lib.hid (show cl.getD k 0 = cl[k] by simp [hkl])
      generalize cl[k] = c at *
      have HOut := Lib.hid HST.out.out
      have HPile := Lib.hid HST.out.pile
      have HSz := Lib.hid HST.out.size
      have hlm := HPile.out.lenI
      rw [natsI_length] at hlm
      have hmk : m ≤ k := by rw [← hlm]; exact pile_le cl k
      have fr := HOut.out.unfrozen k
      obtain ⟨u, cl1⟩ : ∃ u, wr.cell? ⟨w.heap.size, k, none⟩ = some u := ⟨_, HOut.out.cell k (by rw [HOut.out.len]; exact hkn)⟩
      have HLM := Lib.hid hlm; clear hlm
      have c1s : (wr.setCell ⟨w.heap.size, k, none⟩ (.int .i64 (-1))).cell? ⟨b, o + k, none⟩ = some (.int .u8 c) := by
        have hbb : b < w.heap.size := by
          have h := World.block_lt_of_cell? w _ (HC.out.get 0 (by omega))
          exact h
        rw [World.cell?_of_block (heap_setCell_other wr _ b _ (fun e => by simp at e; omega))]
        exact c1
      have HCl := Lib.hid c1
      go_wp2_with fail
      refine (Begins_walk c _).mono ?_
      rintro e w' ⟨rfl, rfl⟩
      obtain ⟨w6, hw6⟩ : ∃ w6, w6 = wr.setCell ⟨w.heap.size, k, none⟩ (.int .i64 (-1)) := ⟨_, rfl⟩
      rw [← hw6]
      have HO6 : Hid (Own w.heap.size 3 w6 (some ⟨w.heap.size, 0, none⟩) n n (ivs .i64 ((matchTo cl k).1.set k (-1)))) := Lib.hid (by rw [hw6, ← ivs_set]; exact HOut.out.store k _)
      have HP6 : Hid (Own (w.heap.size + 1) 3 w6 aP m cP (ivs .i64 (natsI (matchTo cl k).2))) := Lib.hid (by rw [hw6]; exact HPile.out.grown (grown_store _ _ _ _) (HPile.out.blockAt (by omega)))
      have HB6 : Hid (Below w.heap.size wr w6) := Lib.hid (by rw [hw6]; exact (Below.refl _ _).setCell (p := ⟨w.heap.size, k, none⟩) (Nat.le_refl _) _)
      have hs6 : w.heap.size + 1 ≤ w6.heap.size := Nat.le_trans HSz.out HB6.out.size
      have HBC := Lib.hid (HST.out.below.trans HB6.out)
      have c1' := c1s
      rw [← hw6] at c1'
      clear c1s
      clear hw6 fr cl1 HOut HPile HCl c1
      have fr6 := HO6.out.unfrozen k
      obtain ⟨u6, cl6⟩ : ∃ u, w6.cell? ⟨w.heap.size, k, none⟩ = some u := ⟨_, HO6.out.cell k (by rw [HO6.out.len]; exact hkn)⟩
      by_cases hb : begC c
      · have HStep := Lib.hid (show mstep cl.length (matchTo cl k) k (cl.getD k 0) = (((matchTo cl k).1.set k (-1)).set k (n : Int), (matchTo cl k).2 ++ [k]) by
          rw [HD.out, HN.out, List.set_set]; unfold mstep; rw [if_pos hb])
        have HO7 := Lib.hid (HO6.out.store k (.int .i64 n))
        have HP7 := Lib.hid (HP6.out.grown (grown_store w6 w.heap.size k (.int .i64 n)) (HP6.out.blockAt (by omega)))
        have hb7 : Below w.heap.size w6 (w6.setCell ⟨w.heap.size, k, none⟩ (.int .i64 n)) := (Below.refl _ _).setCell (p := ⟨w.heap.size, k, none⟩) (Nat.le_refl _) _
        have HS7 := Lib.hid (Nat.le_trans hs6 hb7.size)
        have HB7 := Lib.hid (HB6.out.trans hb7); clear hb7
        rw [show (decide (begC c)) = true by simp [hb]]
        go_wp2_with (at_builtin; refine wpList_app1x Try.elemInt rfl (.tmp 30) (.tmp 32) rfl HP7.out HS7.out (by omega) (by omega) _ rfl _ rfl (by rw [size_set]; rfl) ?_)
        intro a' c' w8 ho hgr hbn
        have HP8 := Lib.hid ho; clear ho
        have HO8 := Lib.hid (HO7.out.grown hgr (apart_symm (HP7.out.blockAt (g := w.heap.size) (by omega))))
        have HB8 := Lib.hid (HB7.out.trans ((HP7.out.app hgr HS7.out).mono (by omega)))
        clear hgr hbn
        go_wp2
        go_roundw
        case rel =>
          refine ⟨k + 1, _, _, _, by omega, rfl, by go_num, HST.out.step ?_ ?_ HB8.out⟩
          · rw [HStep.out, ← ivs_set]; exact HO8.out
          · rw [HStep.out, natsI_push, ivs_append]; exact HP8.out
        case measure => simp [intOf]; omega
      · rw [show (decide (begC c)) = false by simp [hb]]
        by_cases h23 : c = 23
        · subst h23
          by_cases hm0 : m = 0
          · subst hm0
            have hp0 : (matchTo cl k).2 = [] := List.eq_nil_of_length_eq_zero HLM.out
            have HStep := Lib.hid (show mstep cl.length (matchTo cl k) k (cl.getD k 0) = ((matchTo cl k).1.set k (-1), (matchTo cl k).2) by
              rw [HD.out]; unfold mstep; rw [if_neg hb, if_neg (by rw [hp0]; simp), if_neg (by decide)])
            clear hp0 hb
            go_wp2
            go_roundw
            case rel =>
              refine ⟨k + 1, _, _, _, by omega, rfl, by go_num, HST.out.step ?_ ?_ HB6.out⟩
              · rw [HStep.out]; exact HO6.out
              · rw [HStep.out]; exact HP6.out
            case measure => simp [intOf]; omega
          · obtain ⟨m, rfl⟩ : ∃ m', m = m' + 1 := ⟨m - 1, by omega⟩
            have hne : (matchTo cl k).2 ≠ [] := by intro h; have := HLM.out; rw [h] at this; simp at this
            obtain ⟨j, hj⟩ : ∃ j, (matchTo cl k).2.getLastD 0 = j := ⟨_, rfl⟩
            have hjk : j < k := by rw [← hj]; exact pile_lt cl k _ (last_mem hne)
            have HStep := Lib.hid (show mstep cl.length (matchTo cl k) k (cl.getD k 0) = (((matchTo cl k).1.set k (j : Int)).set j (k : Int), (matchTo cl k).2.dropLast) by
              rw [HD.out]; unfold mstep; rw [if_neg hb, if_pos ⟨rfl, hne⟩, hj])
            have hl := pile_last HLM.out
            rw [hj] at hl
            obtain ⟨gP, ha, hgP, hgP2, _⟩ := HP6.out.at (by omega)
            subst ha
            have c2 := HP6.out.ints.get m (by rw [natsI_length, HLM.out]; omega)
            rw [show (natsI (matchTo cl k).2)[m]'(by rw [natsI_length, HLM.out]; omega) = (j : Int) by rw [← hl]; simp [natsI_length, HLM.out]] at c2
            simp only [Nat.zero_add] at c2
            have hO7 := HO6.out.store k (.int .i64 j)
            rw [ivs_set, List.set_set] at hO7
            have c3 := hO7.cell k (by rw [hO7.len]; exact hkn)
            rw [show (ivs IntKind.i64 ((matchTo cl k).1.set k (j : Int)))[k]'(by rw [hO7.len]; exact hkn) = .int .i64 (j : Int) by simp [ivs]] at c3
            have fr7 := hO7.unfrozen j
            obtain ⟨u7, cl7⟩ : ∃ u, (w6.setCell ⟨w.heap.size, k, none⟩ (.int .i64 (j : Int))).cell? ⟨w.heap.size, j, none⟩ = some u := ⟨_, hO7.cell j (by rw [hO7.len]; omega)⟩
            have HP8 := Lib.hid ((HP6.out.grown (grown_store w6 w.heap.size k (.int .i64 (j : Int))) (HP6.out.blockAt (by omega))).grown (grown_store _ w.heap.size j (.int .i64 (k : Int))) (HP6.out.blockAt (by omega)))
            have hO8 := hO7.store j (.int .i64 k)
            rw [ivs_set] at hO8
            have HO8 := Lib.hid hO8
            have HO7 := Lib.hid hO7
            have HB8 := Lib.hid (HB6.out.trans (((Below.refl w.heap.size w6).setCell (p := ⟨w.heap.size, k, none⟩) (Nat.le_refl _) (.int .i64 (j : Int))).setCell (p := ⟨w.heap.size, j, none⟩) (Nat.le_refl _) (.int .i64 (k : Int))))
            have HT := Lib.hid (HP8.out.take m (by omega))
            clear hO8 hO7 hl hne hj hb hm0
            have hjn : (j : Int) < (n : Int) := by omega
            go_wp2
            go_roundw
            case rel =>
              refine ⟨k + 1, _, _, _, by omega, rfl, by go_num, HST.out.step ?_ ?_ HB8.out⟩
              · rw [HStep.out]; exact HO8.out
              · rw [HStep.out, natsI_dropLast, ← ivs_take, HLM.out]; exact HT.out
            case measure => simp [intOf]; omega
        · have b23 : (c == 23) = false := by simpa using h23
          by_cases h11 : c = 11
          · subst h11
            have HStep := Lib.hid (show mstep cl.length (matchTo cl k) k (cl.getD k 0) = ((matchTo cl k).1.set k (-1), []) by
              rw [HD.out]; unfold mstep; rw [if_neg hb, if_neg (fun h => h23 h.1), if_pos rfl])
            have HT := Lib.hid (HP6.out.take 0 (Nat.zero_le _))
            clear hb h23 b23
            clear HT
            go_wp2
            go_roundw
            case rel =>
              refine ⟨k + 1, _, _, _, by omega, rfl, by go_num, HST.out.step ?_ ?_ HB6.out⟩
              · rw [HStep.out]; exact HO6.out
              · rw [HStep.out]; exact Own.nil _ _ _
            case measure => simp [intOf]; omega
          · have b11 : (c == 11) = false := by simpa using h11
            have HStep := Lib.hid (show mstep cl.length (matchTo cl k) k (cl.getD k 0) = ((matchTo cl k).1.set k (-1), (matchTo cl k).2) by
              rw [HD.out]; unfold mstep; rw [if_neg hb, if_neg (fun h => h23 h.1), if_neg h11])
            clear hb h23 h11
            go_wp2
            go_roundw
            case rel =>
              refine ⟨k + 1, _, _, _, by omega, rfl, by go_num, HST.out.step ?_ ?_ HB6.out⟩
              · rw [HStep.out]; exact HO6.out
              · rw [HStep.out]; exact HP6.out
            case measure => simp [intOf]; omega
    · obtain rfl : k = n := by omega
      go_wp2
      go_ret
      exact ⟨_, _, rfl, by unfold matchL; rw [HN.out]; exact HST.out.out, HST.out.below⟩
end Go.Proofs.Ytmcjlkpogcnniaa
