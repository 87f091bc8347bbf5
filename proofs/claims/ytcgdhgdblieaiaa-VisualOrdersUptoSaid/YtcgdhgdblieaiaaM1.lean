/-
  Walks: levels lent with a mark behind them; runes copied.
-/
import Derived.Test.YtcgdhgdblieaiaaV1
import Derived.Test.YtcgdhgdblieaiaaPR2
import Derived.Test.YtcgdhgdblieaiaaBase5
set_option linter.unusedVariables false
namespace Go.Proofs.Ytcgdhgdblieaiaa
open Go.RowKit

/-- a list of the caller's -/
structure ArgL (k : IntKind) (w : World) (a : Option Addr) (n cap : Nat) (xs : List Int) : Prop where
  ints : Ints k w a xs
  len : xs.length = n
  le : n ≤ 1048576
  none_ : a = none → cap = 0
theorem ArgL.below {k : IntKind} {w w' : World} {a : Option Addr} {n cap : Nat} {xs : List Int} {B : Nat} (h : ArgL k w a n cap xs) (hb : Below B w w') (hB : w.heap.size ≤ B) : ArgL k w' a n cap xs :=
  ⟨h.ints.below hb hB, h.len, h.le, h.none_⟩

theorem beyond_walk (a : Option Addr) (n cap : Nat) (w : World) (hlt : n ≤ 1048576) :
    Calls Try.prog 21 #[.slice a n cap] w fun e w' => e = .returned (.bool (decide (65536 < n))) ∧ w = w' := by
  by_cases h : 65536 < n
  · have hi : (65536 : Int) < (n : Int) := by omega
    have hj : (n : Int) ≤ 1048576 := by omega
    have HR := Lib.hid (decide_eq_true h); clear h
    go_enter Try.func21, Try.ntmps21
    go_wp2
    go_ret
    exact ⟨by rw [HR.out]; rfl, rfl⟩
  · have hi : ¬ (65536 : Int) < (n : Int) := by omega
    have HR := Lib.hid (decide_eq_false h); clear h
    go_enter Try.func21, Try.ntmps21
    go_wp2
    go_ret
    exact ⟨by rw [HR.out]; rfl, rfl⟩

theorem lent_walk (a : Option Addr) (n cap : Nat) (zs : List Int) (w : World) (ha : ArgL .i8 w a n cap zs) :
    Calls Try.prog 22 #[.slice a n cap] w fun e w' => ∃ g c, e = .returned (.slice (some ⟨g, 0, none⟩) n c) ∧ Own w.heap.size 33 w' (some ⟨g, 0, none⟩) (n + 1) c (ivs .i8 (zs ++ [77])) ∧ Below w.heap.size w w' := by
  have HA := Lib.hid ha; clear ha
  have hlt := HA.out.le
  go_enter Try.func22, Try.ntmps22
  go_wp2_with (at_builtin; refine wpList_appS Try.elemLevel rfl (.tmp 4) (.tmp 5) rfl (Own.nil w.heap.size _ w) (Nat.le_refl _) (by rw [ivs_length]; exact HA.out.len) HA.out.ints.vals HA.out.none_ (ivs_one _ _) (by omega) (by unfold maxLen; omega) rfl rfl ?_)
  intro a2 c2 w2 ho2 hg2 _
  have HB2 := Lib.hid ((Own.nil w.heap.size 33 w).app hg2 (Nat.le_refl _))
  have HO2 : Hid (Own w.heap.size 33 w2 a2 n c2 (ivs .i8 zs)) := Lib.hid (by simpa using ho2)
  clear ho2 hg2
  go_wp2_with (at_builtin; refine wpList_app1 Try.elemLevel rfl (.tmp 7) (.tmp 8) rfl HO2.out HB2.out.size (by omega) (by omega) _ rfl _ rfl rfl ?_)
  intro a3 c3 w3 ho3 hg3
  have HB3 := Lib.hid (HB2.out.trans (HO2.out.app hg3 HB2.out.size))
  have HO3 : Hid (Own w.heap.size 33 w3 a3 (n + 1) c3 (ivs .i8 (zs ++ [77]))) := Lib.hid (by rw [ivs_append]; exact ho3)
  clear ho3 hg3
  obtain ⟨g, ha, hg1, hg2, hg3, hg4⟩ := HO3.out.at (by omega)
  subst ha
  have hnc : n ≤ c3 := by omega
  go_wp2
  go_ret
  exact ⟨_, _, rfl, HO3.out, HB3.out⟩

def KeptR (w : World) (n : Nat) (u v : Value) (wr : World) : Prop := ∃ k : Nat, k ≤ n ∧ u = .bool true ∧ v = .int .i64 k ∧ Below w.heap.size w wr
theorem kept_walk (g : Nat) (c : Nat) (a : Option Addr) (n cap : Nat) (zs : List Int) (w : World) (hn : zs.length = n) (hlt : n ≤ 1048576) (hc : n + 1 ≤ c) (hf : Ints .i8 w (some ⟨g, 0, none⟩) (zs ++ [77])) (hi : Ints .i8 w a zs) :
    Calls Try.prog 25 #[.slice (some ⟨g, 0, none⟩) n c, .slice a n cap] w fun e w' => e = .returned (.bool true) ∧ Below w.heap.size w w' := by
  have HN := Lib.hid hn; clear hn
  have HF := Lib.hid hf; clear hf
  have HI := Lib.hid hi; clear hi
  have e0 := HF.out.get n (by rw [List.length_append]; have := HN.out; simp; omega)
  rw [show (zs ++ [77])[n]'(by rw [List.length_append]; have := HN.out; simp; omega) = 77 by rw [List.getElem_append_right (by have := HN.out; omega)]; simp] at e0
  simp only [Nat.zero_add] at e0
  have hc2 : (n : Int) + 1 ≤ (c : Int) := by omega
  go_enter Try.func25, Try.ntmps25
  go_wp2
  go_loopw [6, 7] (KeptR w n) (fun _ i _ => n - (intOf i).toNat)
  case atStart => exact ⟨0, Nat.zero_le _, rfl, rfl, Below.refl _ _⟩
  case round =>
    obtain ⟨k, hk, rfl, rfl, hbel⟩ := hrel
    have HB := Lib.hid hbel; clear hbel
    by_cases hlt : k < n
    · have hkl : k < zs.length := by rw [HN.out]; exact hlt
      have hki : (k : Int) < (n : Int) := by omega
      obtain ⟨b, o, ha⟩ := HI.out.some (by omega)
      subst ha
      have c1 := (HI.out.below HB.out (Nat.le_refl _)).get k hkl
      have c2 := (HF.out.below HB.out (Nat.le_refl _)).get k (by rw [List.length_append]; omega)
      rw [List.getElem_append_left hkl] at c2
      simp only [Nat.zero_add] at c2
      generalize zs[k] = x at *
      have hxx : (x == x) = true := by simp
      go_wp2
      go_quiet (fail)
      go_wp2
      go_roundw
      case rel => exact ⟨k + 1, by omega, rfl, by go_num, below_drewN HB.out _⟩
      case measure => simp [intOf]; omega
    · have hki : ¬ (k : Int) < (n : Int) := by omega
      go_wp2
      go_ret
      exact ⟨rfl, HB.out⟩

/-- 'slices.Clone' of runes -/
theorem CloneR_walk (a : Option Addr) (n cap : Nat) (zs : List Int) (w : World) (hn : zs.length = n) (hlt : n ≤ 1048576) (hc : Ints .i32 w a zs) :
    Calls Try.prog 48 #[.slice a n cap] w fun e w' => ∃ a' cap', e = .returned (.slice a' n cap') ∧ Own w.heap.size 21 w' a' n cap' (ivs .i32 zs) ∧ Below w.heap.size w w' := by
  cases a with
  | none =>
    have hz : zs = [] := by
      cases zs with
      | nil => rfl
      | cons y t => obtain ⟨b, o, hbad, _⟩ := hc 0 (by simp); simp at hbad
    subst hz
    obtain rfl : n = 0 := by simpa using hn.symm
    have hnil : ∀ w : World, (binOp .eql 55 (.slice none 0 cap) (.slice none 0 0)).run Try.prog w = .ok (.bool true) w := fun w => Lib.run_eql_slice_nil w _ _ _ _ _ _ _ Try.underlying55
    clear hn
    go_enter Try.func48, Try.ntmps48
    go_wp2
    go_ret
    exact ⟨_, _, rfl, Own.nil _ _ _, Below.refl _ _⟩
  | some ad =>
    have hnil : ∀ w : World, (binOp .eql 55 (.slice (some ad) n cap) (.slice none 0 0)).run Try.prog w = .ok (.bool false) w := fun w => Lib.run_eql_slice_nil w _ _ _ _ _ _ _ Try.underlying55
    have HN := Lib.hid hn; clear hn
    have HO : Hid (Own w.heap.size 21 (w.alloc (.cells #[] 21)) (some ⟨w.heap.size, 0, none⟩) 0 0 []) := Lib.hid (Own.lit w #[] (Nat.le_refl _) (Nat.zero_le _))
    have HV := Lib.hid (hc.below ((Below.refl _ w).alloc (Nat.le_refl _) (.cells #[] 21)) (Nat.le_refl _)).vals
    go_enter Try.func48, Try.ntmps48
    go_wp2_with (at_builtin; refine wpList_appS Try.elemRune rfl (.tmp 5) (.tmp 6) rfl HO.out (by simp) (by rw [ivs_length]; exact HN.out) HV.out (by simp) (ivs_one _ _) (by omega) (by unfold maxLen; omega) rfl rfl ?_)
    intro a2 cap2 w2 hown2 hg hb
    have hB : Below w.heap.size w w2 := ((Below.refl _ w).alloc (Nat.le_refl _) (.cells #[] 21)).trans (HO.out.app hg (by simp))
    have HB := Lib.hid hB; clear hB hg hb
    have HO2 : Hid (Own w.heap.size 21 w2 a2 n cap2 (ivs .i32 zs)) := by
      refine Lib.hid ?_
      simpa using hown2
    clear hown2
    go_wp2
    go_ret
    exact ⟨_, _, rfl, HO2.out, HB.out⟩
end Go.Proofs.Ytcgdhgdblieaiaa
