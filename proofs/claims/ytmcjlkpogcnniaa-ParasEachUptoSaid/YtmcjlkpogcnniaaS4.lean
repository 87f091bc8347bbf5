/-
  The walks of the document's own paragraphs, and of a comparison of pieces.
-/
import Derived.Test.YtmcjlkpogcnniaaS3
set_option linter.unusedVariables false
namespace Go.Proofs.Ytmcjlkpogcnniaa
open Go.RowKit

theorem rSplit_bad (a1 : Option Addr) (n1 cap1 : Nat) (a : Option Addr) (n cap : Nat) (w : World) (h0 : 0 < n1) (hne : n1 ≠ n) :
    Calls Try.prog 25 #[.slice a1 n1 cap1, .slice a n cap] w fun e w' => e = .returned (.tuple #[.slice none 0 0, .int .i64 2]) ∧ w = w' := by
  have h0' : ((n1 : Int) != 0) = true := by simp; omega
  have hne' : ((n1 : Int) != (n : Int)) = true := by simp; omega
  clear hne h0
  go_enter Try.func25, Try.ntmps25
  go_wp2
  go_ret2
  exact ⟨rfl, rfl⟩

set_option maxRecDepth 100000 in
set_option maxHeartbeats 4000000 in
theorem rSplit_walk (a1 : Option Addr) (n1 cap1 : Nat) (a : Option Addr) (n cap : Nat) (l cl : List Int) (w : World) (hl : l.length = n1) (hn : cl.length = n) (hm : n ≤ 4194304) (hcl : Ints .i32 w a1 l) (hc : Ints .u8 w a cl) (hok : n1 = 0 ∨ n1 = n) :
    Calls Try.prog 25 #[.slice a1 n1 cap1, .slice a n cap] w fun e w' => ∃ a' m' c', e = .returned (.tuple #[.slice a' m' c', .int .i64 0]) ∧ Own2 w.heap.size 46 w' a' m' c' (splitL l cl) ∧ Below w.heap.size w w' := by
  have HL := Lib.hid hl; clear hl
  have HN := Lib.hid hn; clear hn
  have HCL := Lib.hid hcl; clear hcl
  have HC := Lib.hid hc; clear hc
  have HOK := Lib.hid hok
  have hok2 : (((n1 : Int) != 0) = false ∧ (n1 : Int) ≤ 0) ∨ (((n1 : Int) != 0) = true ∧ ((n1 : Int) != (n : Int)) = false ∧ (0 : Int) < (n1 : Int)) := by
    rcases hok with h | h
    · left; exact ⟨by simp [h], by omega⟩
    · by_cases h0 : n1 = 0
      · left; exact ⟨by simp [h0], by omega⟩
      · right; exact ⟨by simp; omega, by simp [h], by omega⟩
  clear hok
  go_enter Try.func25, Try.ntmps25
  rcases hok2 with ⟨h0, h03⟩ | ⟨h0, h02, h03⟩
  all_goals
    go_wp2
    clear h0
    try clear h02
    go_loopw [6, 7, 8] (SplR w l cl n) (fun _ _ i _ => n - (intOf i).toNat)
    case atStart => exact ⟨0, none, 0, 0, 0, Nat.zero_le _, rfl, rfl, rfl, rfl, Own2.nil _ _ _, Below.refl _ _⟩
    case round =>
      obtain ⟨k, aO, m, cp, f, hk, rfl, rfl, rfl, hf, hown, hbel⟩ := hrel
      have HF := Lib.hid hf; clear hf
      have HO := Lib.hid hown; clear hown
      have HB := Lib.hid hbel; clear hbel
      have hml := HO.out.len
      have hsl := splitTo_le l cl k
      have hmk : m ≤ k := by omega
      have hfk : f ≤ k := by rw [← HF.out]; exact hsl.2
      clear hml hsl
      by_cases hlt : k < n
      · have hkl : k < cl.length := by rw [HN.out]; exact hlt
        obtain ⟨b, o, ha⟩ := HC.out.some (by omega)
        subst ha
        have HC1 := Lib.hid (HC.out.below HB.out (Nat.le_refl _))
        have c1 := HC1.out.get k hkl
        have HD0 := Lib.hid (show cl.getD k 0 = cl[k] by simp [hkl])
        generalize cl[k] = c at *
        have HBs := Lib.hid HB.out.size
        have hbnd1 : (m + 1) * 16 ≤ 140737488355328 := by omega
        have hbnd2 : m < 140737488355328 := by omega
        have hkb : (k : Int) < (n : Int) := by omega
        by_cases h11 : c = 11
        · subst h11
          have HD := Lib.hid HD0.out
          by_cases hk0 : 0 < n1
          · first
            | (exfalso; omega)
            | (
              obtain rfl : n1 = n := by have := HOK.out; omega
              have hkl2 : k < l.length := by rw [HL.out]; omega
              obtain ⟨b1, o1, ha⟩ := HCL.out.some (by omega)
              subst ha
              have HCL1 := Lib.hid (HCL.out.below HB.out (Nat.le_refl _))
              have d1 := HCL1.out.get k hkl2
              have E1 := Lib.hid (show l.getD k 0 = l[k] by simp [hkl2])
              have d2' := fun (h : k + 1 < l.length) => HCL1.out.get (k + 1) h
              have D2 := Lib.hid d2'; clear d2'
              have hkb2 : (k : Int) < (n1 : Int) := by omega
              generalize l[k]'(by omega) = x1 at *
              by_cases e1 : x1 = 13
              · subst e1
                by_cases hk1 : k + 1 < n1
                · have hk1l : k + 1 < l.length := by rw [HL.out]; exact hk1
                  have hk1c : k + 1 < cl.length := by rw [HN.out]; exact hk1
                  have hk1b : (k : Int) + 1 < (n1 : Int) := by omega
                  have d2 := D2.out hk1l
                  have d3 := HC1.out.get (k + 1) hk1c
                  clear D2
                  have E2 := Lib.hid (show l.getD (k + 1) 0 = l[k + 1] by simp [hk1l])
                  have E3 := Lib.hid (show cl.getD (k + 1) 0 = cl[k + 1] by simp [hk1c])
                  generalize l[k + 1] = x2 at *
                  generalize cl[k + 1] = x3 at *
                  by_cases e2 : x2 = 10
                  · subst e2
                    by_cases e3 : x3 = 11
                    · subst e3
                      have HSp := Lib.hid (splitTo_no l cl k (fun h => h.2 ⟨hk1l, E1.out, E2.out, E3.out⟩))
                      go_wp2
                      go_roundw
                      case rel => exact ⟨k + 1, _, _, _, f, by omega, rfl, rfl, by go_num, by rw [HSp.out, HF.out], by rw [HSp.out]; exact HO.out, HB.out⟩
                      case measure => simp [intOf]; omega
                    · have b3 : (x3 == 11) = false := by simpa using e3
                      have NC := Lib.hid (show ¬ (k + 1 < l.length ∧ l.getD k 0 = 13 ∧ l.getD (k + 1) 0 = 10 ∧ cl.getD (k + 1) 0 = 11) from fun h => e3 (E3.out ▸ h.2.2.2))
                      clear e3
                      have HK := Lib.hid (show cutAt l cl k from ⟨HD.out, by exact NC.out⟩)
                      have HSp := Lib.hid (splitTo_yes l cl k HK.out)
                      rw [HF.out] at HSp
                      go_wp2_with (at_builtin; refine wpList_appN Try.elemPiece rfl (.tmp 63) (.tmp 68) rfl HO.out HBs.out hbnd1 hbnd2 _ rfl (by intro u hu; simp at hu; rcases hu with rfl | rfl <;> rfl) _ rfl rfl ?_)
                      intro a9 c9 w9 ho9 hg9 _
                      have HO9 := Lib.hid ho9
                      have HB9 := Lib.hid (HB.out.trans (HO.out.app hg9 HBs.out))
                      clear ho9 hg9
                      go_wp2
                      go_roundw
                      case rel =>
                        refine ⟨k + 1, _, _, _, k + 1, by omega, rfl, by go_num, by go_num, by rw [HSp.out], ?_, HB9.out⟩
                        rw [HSp.out]
                        unfold Own2
                        rw [flat2_push]
                        exact HO9.out
                      case measure => simp [intOf]; omega
                  · have b2 : (x2 == 10) = false := by simpa using e2
                    have NC := Lib.hid (show ¬ (k + 1 < l.length ∧ l.getD k 0 = 13 ∧ l.getD (k + 1) 0 = 10 ∧ cl.getD (k + 1) 0 = 11) from fun h => e2 (E2.out ▸ h.2.2.1))
                    clear e2
                    have HK := Lib.hid (show cutAt l cl k from ⟨HD.out, by exact NC.out⟩)
                    have HSp := Lib.hid (splitTo_yes l cl k HK.out)
                    rw [HF.out] at HSp
                    go_wp2_with (at_builtin; refine wpList_appN Try.elemPiece rfl (.tmp 63) (.tmp 68) rfl HO.out HBs.out hbnd1 hbnd2 _ rfl (by intro u hu; simp at hu; rcases hu with rfl | rfl <;> rfl) _ rfl rfl ?_)
                    intro a9 c9 w9 ho9 hg9 _
                    have HO9 := Lib.hid ho9
                    have HB9 := Lib.hid (HB.out.trans (HO.out.app hg9 HBs.out))
                    clear ho9 hg9
                    go_wp2
                    go_roundw
                    case rel =>
                      refine ⟨k + 1, _, _, _, k + 1, by omega, rfl, by go_num, by go_num, by rw [HSp.out], ?_, HB9.out⟩
                      rw [HSp.out]
                      unfold Own2
                      rw [flat2_push]
                      exact HO9.out
                    case measure => simp [intOf]; omega
                · have NC := Lib.hid (show ¬ (k + 1 < l.length ∧ l.getD k 0 = 13 ∧ l.getD (k + 1) 0 = 10 ∧ cl.getD (k + 1) 0 = 11) from fun h => hk1 (by rw [← HL.out]; exact h.1))
                  have hk1b : ¬ (k : Int) + 1 < (n1 : Int) := by omega
                  clear D2
                  have HK := Lib.hid (show cutAt l cl k from ⟨HD.out, by exact NC.out⟩)
                  have HSp := Lib.hid (splitTo_yes l cl k HK.out)
                  rw [HF.out] at HSp
                  go_wp2_with (at_builtin; refine wpList_appN Try.elemPiece rfl (.tmp 63) (.tmp 68) rfl HO.out HBs.out hbnd1 hbnd2 _ rfl (by intro u hu; simp at hu; rcases hu with rfl | rfl <;> rfl) _ rfl rfl ?_)
                  intro a9 c9 w9 ho9 hg9 _
                  have HO9 := Lib.hid ho9
                  have HB9 := Lib.hid (HB.out.trans (HO.out.app hg9 HBs.out))
                  clear ho9 hg9
                  go_wp2
                  go_roundw
                  case rel =>
                    refine ⟨k + 1, _, _, _, k + 1, by omega, rfl, by go_num, by go_num, by rw [HSp.out], ?_, HB9.out⟩
                    rw [HSp.out]
                    unfold Own2
                    rw [flat2_push]
                    exact HO9.out
                  case measure => simp [intOf]; omega
              · have b1' : (x1 == 13) = false := by simpa using e1
                have NC := Lib.hid (show ¬ (k + 1 < l.length ∧ l.getD k 0 = 13 ∧ l.getD (k + 1) 0 = 10 ∧ cl.getD (k + 1) 0 = 11) from fun h => e1 (E1.out ▸ h.2.1))
                clear e1 D2
                have HK := Lib.hid (show cutAt l cl k from ⟨HD.out, by exact NC.out⟩)
                have HSp := Lib.hid (splitTo_yes l cl k HK.out)
                rw [HF.out] at HSp
                go_wp2_with (at_builtin; refine wpList_appN Try.elemPiece rfl (.tmp 63) (.tmp 68) rfl HO.out HBs.out hbnd1 hbnd2 _ rfl (by intro u hu; simp at hu; rcases hu with rfl | rfl <;> rfl) _ rfl rfl ?_)
                intro a9 c9 w9 ho9 hg9 _
                have HO9 := Lib.hid ho9
                have HB9 := Lib.hid (HB.out.trans (HO.out.app hg9 HBs.out))
                clear ho9 hg9
                go_wp2
                go_roundw
                case rel =>
                  refine ⟨k + 1, _, _, _, k + 1, by omega, rfl, by go_num, by go_num, by rw [HSp.out], ?_, HB9.out⟩
                  rw [HSp.out]
                  unfold Own2
                  rw [flat2_push]
                  exact HO9.out
                case measure => simp [intOf]; omega
              )
          · first
            | (exfalso; omega)
            | (
              have NC := Lib.hid (show ¬ (k + 1 < l.length ∧ l.getD k 0 = 13 ∧ l.getD (k + 1) 0 = 10 ∧ cl.getD (k + 1) 0 = 11) from fun h => hk0 (by have := HL.out; omega))
              have HK := Lib.hid (show cutAt l cl k from ⟨HD.out, by exact NC.out⟩)
              have HSp := Lib.hid (splitTo_yes l cl k HK.out)
              rw [HF.out] at HSp
              go_wp2_with (at_builtin; refine wpList_appN Try.elemPiece rfl (.tmp 63) (.tmp 68) rfl HO.out HBs.out hbnd1 hbnd2 _ rfl (by intro u hu; simp at hu; rcases hu with rfl | rfl <;> rfl) _ rfl rfl ?_)
              intro a9 c9 w9 ho9 hg9 _
              have HO9 := Lib.hid ho9
              have HB9 := Lib.hid (HB.out.trans (HO.out.app hg9 HBs.out))
              clear ho9 hg9
              go_wp2
              go_roundw
              case rel =>
                refine ⟨k + 1, _, _, _, k + 1, by omega, rfl, by go_num, by go_num, by rw [HSp.out], ?_, HB9.out⟩
                rw [HSp.out]
                unfold Own2
                rw [flat2_push]
                exact HO9.out
              case measure => simp [intOf]; omega
              )
        · have b11 : (c != 11) = true := by simpa using h11
          have HSp := Lib.hid (splitTo_no l cl k (fun h => h11 (HD0.out ▸ h.1)))
          clear h11
          go_wp2
          go_roundw
          case rel => exact ⟨k + 1, _, _, _, f, by omega, rfl, rfl, by go_num, by rw [HSp.out, HF.out], by rw [HSp.out]; exact HO.out, HB.out⟩
          case measure => simp [intOf]; omega
      · obtain rfl : k = n := by omega
        have HBs := Lib.hid HB.out.size
        have hbnd1 : (m + 1) * 16 ≤ 140737488355328 := by omega
        have hbnd2 : m < 140737488355328 := by omega
        by_cases hfe : f < k
        · have HSp := Lib.hid (show splitL l cl = (splitTo l cl k).1 ++ [(f, k)] by unfold splitL; rw [HN.out, HF.out, if_pos hfe])
          go_wp2_with (at_builtin; refine wpList_appN Try.elemPiece rfl (.tmp 76) (.tmp 81) rfl HO.out HBs.out hbnd1 hbnd2 _ rfl (by intro u hu; simp at hu; rcases hu with rfl | rfl <;> rfl) _ rfl rfl ?_)
          intro a9 c9 w9 ho9 hg9 _
          have HO9 := Lib.hid ho9
          have HB9 := Lib.hid (HB.out.trans (HO.out.app hg9 HBs.out))
          clear ho9 hg9
          go_wp2
          go_ret2
          refine ⟨_, _, _, rfl, ?_, HB9.out⟩
          rw [HSp.out]
          unfold Own2
          rw [flat2_push]
          exact HO9.out
        · have HSp := Lib.hid (show splitL l cl = (splitTo l cl k).1 by unfold splitL; rw [HN.out, HF.out, if_neg hfe])
          have hfe' : ¬ (f : Int) < (k : Int) := by omega
          go_wp2
          go_ret2
          exact ⟨_, _, _, rfl, by rw [HSp.out]; exact HO.out, HB.out⟩


set_option maxHeartbeats 2000000 in
theorem samePieces_walk (a a2 : Option Addr) (n cap cap2 : Nat) (ps : List (Nat × Nat)) (w : World) (hn : ps.length = n) (hm : n ≤ 4194305) (hc : Pairs w a ps) (hc2 : Pairs w a2 ps) :
    Calls Try.prog 26 #[.slice a n cap, .slice a2 n cap2] w fun e w' => e = .returned (.bool true) ∧ Below w.heap.size w w' := by
  subst hn
  have HC := Lib.hid hc; clear hc
  have HC2 := Lib.hid hc2; clear hc2
  have hne : ((ps.length : Int) != (ps.length : Int)) = false := by simp
  go_enter Try.func26, Try.ntmps26
  go_wp2
  go_loopw [5] (fun i wr => ∃ k : Nat, k ≤ ps.length ∧ i = .int .i64 k ∧ Below w.heap.size w wr) (fun i _ => ps.length - (intOf i).toNat)
  case atStart => exact ⟨0, Nat.zero_le _, rfl, Below.refl _ _⟩
  case round =>
    obtain ⟨k, hk, rfl, hbel⟩ := hrel
    have HB := Lib.hid hbel; clear hbel
    by_cases hlt : k < ps.length
    · obtain ⟨b, o, rfl⟩ := HC.out.some (by omega)
      obtain ⟨b2, o2, rfl⟩ := HC2.out.some (by omega)
      obtain ⟨k1, k2⟩ := (HC.out.below HB.out (Nat.le_refl _)).get k hlt
      obtain ⟨k3, k4⟩ := (HC2.out.below HB.out (Nat.le_refl _)).get k hlt
      generalize ((ps[k]).1 : Int) = x at *
      generalize ((ps[k]).2 : Int) = y at *
      go_wp2
      go_quiet (fail)
      go_wp2
      go_roundw
      case rel => exact ⟨k + 1, by omega, by go_num, below_drewN HB.out _⟩
      case measure => simp [intOf]; omega
    · go_wp2
      go_ret
      exact ⟨rfl, HB.out⟩
end Go.Proofs.Ytmcjlkpogcnniaa
