/-
  Walks: comparisons of two lists; lists that are lent, and found as they were.
-/
import Derived.Test.YtmcjlkpogcnniaaW12
set_option linter.unusedVariables false
namespace Go.Proofs.Ytmcjlkpogcnniaa
open Go.RowKit

theorem same_yes (xs ys : List Int) (k : Nat) (h : ¬ k < xs.length) (hl : xs.length = ys.length) (hp : xs.take k = ys.take k) : xs = ys := by
  rwa [List.take_of_length_le (by omega), List.take_of_length_le (by omega)] at hp
theorem same_snoc (xs ys : List Int) (k : Nat) (h : k < xs.length) (h' : k < ys.length) (hp : xs.take k = ys.take k) (hx : xs[k] = ys[k]) : xs.take (k + 1) = ys.take (k + 1) := by
  rw [List.take_succ_eq_append_getElem h, List.take_succ_eq_append_getElem h', hp, hx]
theorem same_no (xs ys : List Int) (h : xs ≠ ys) : decide (xs = ys) = false := by simp [h]
theorem same_ne (xs ys : List Int) (k : Nat) (h : k < xs.length) (h' : k < ys.length) (hx : ¬ xs[k] = ys[k]) : xs ≠ ys := by
  rintro rfl; exact hx rfl
/-- a slice reads as the front of what lies there -/
theorem Ints.front {k : IntKind} {w : World} {a : Option Addr} {xs ys : List Int} (h : Ints k w a (xs ++ ys)) : Ints k w a xs := by
  intro i hi
  obtain ⟨b, o, h1, h2⟩ := h i (by simp; omega)
  exact ⟨b, o, h1, by rw [h2, List.getElem_append_left hi]⟩

theorem Same_walk (a a2 : Option Addr) (n cap n2 cap2 : Nat) (xs ys : List Int) (w : World) (hn : xs.length = n) (hn2 : ys.length = n2) (hm : n ≤ 4194305) (hc : Ints .u8 w a xs) (hc2 : Ints .u8 w a2 ys) :
    Calls Try.prog 19 #[.slice a n cap, .slice a2 n2 cap2] w fun e w' => e = .returned (.bool (decide (xs = ys))) ∧ Below w.heap.size w w' := by
  subst hn
  subst hn2
  by_cases hl : xs.length = ys.length
  · have hl1 : xs.length ≤ ys.length := by omega
    have hl2 : ys.length ≤ xs.length := by omega
    have HL := Lib.hid hl; clear hl
    have hne : ((xs.length : Int) != (ys.length : Int)) = false := by simp; omega
    go_enter Try.func19, Try.ntmps19
    go_wp2
    go_loopw [5] (fun i wr => ∃ k : Nat, k ≤ xs.length ∧ i = .int .i64 k ∧ xs.take k = ys.take k ∧ Below w.heap.size w wr) (fun i _ => xs.length - (intOf i).toNat)
    case atStart => exact ⟨0, Nat.zero_le _, rfl, by simp, Below.refl _ _⟩
    case round =>
      obtain ⟨k, hk, rfl, hp, hbel⟩ := hrel
      have HP := Lib.hid hp; clear hp
      by_cases hlt : k < xs.length
      · obtain ⟨b, o, rfl⟩ := hc.some (by omega)
        obtain ⟨b2, o2, rfl⟩ := hc2.some (by omega)
        have hcell := (hc.below hbel (Nat.le_refl _)).get k hlt
        have hcell2 := (hc2.below hbel (Nat.le_refl _)).get k (by omega)
        have HB := Lib.hid hbel; clear hbel
        by_cases hx : xs[k] = ys[k]
        · have HS := Lib.hid (same_snoc xs ys k hlt (by omega) HP.out hx)
          have hxx : (xs[k] != ys[k]) = false := by simp [hx]
          clear hx
          go_wp2
          go_quiet (fail)
          go_wp2
          go_roundw
          case rel => exact ⟨k + 1, by omega, by go_num, HS.out, below_drewN HB.out _⟩
          case measure => simp [intOf]; omega
        · have hxx : (xs[k] != ys[k]) = true := by simp [hx]
          go_wp2
          go_quiet (fail)
          go_wp2
          go_ret
          exact ⟨by rw [same_no xs ys (same_ne xs ys k hlt (by omega) hx)]; rfl, below_drewN HB.out _⟩
      · have HS := Lib.hid (same_yes xs ys k hlt HL.out HP.out)
        go_wp2
        go_ret
        exact ⟨by simp [HS.out], hbel⟩
  · have hne : ((xs.length : Int) != (ys.length : Int)) = true := by simp; omega
    go_enter Try.func19, Try.ntmps19
    go_wp2
    go_ret
    exact ⟨by rw [same_no xs ys (fun h => hl (by rw [h]))]; rfl, Below.refl _ _⟩

theorem sameRunes_walk (a a2 : Option Addr) (n cap n2 cap2 : Nat) (xs ys : List Int) (w : World) (hn : xs.length = n) (hn2 : ys.length = n2) (hm : n ≤ 4194305) (hc : Ints .i32 w a xs) (hc2 : Ints .i32 w a2 ys) :
    Calls Try.prog 22 #[.slice a n cap, .slice a2 n2 cap2] w fun e w' => e = .returned (.bool (decide (xs = ys))) ∧ Below w.heap.size w w' := by
  subst hn
  subst hn2
  by_cases hl : xs.length = ys.length
  · have hl1 : xs.length ≤ ys.length := by omega
    have hl2 : ys.length ≤ xs.length := by omega
    have HL := Lib.hid hl; clear hl
    have hne : ((xs.length : Int) != (ys.length : Int)) = false := by simp; omega
    go_enter Try.func22, Try.ntmps22
    go_wp2
    go_loopw [5] (fun i wr => ∃ k : Nat, k ≤ xs.length ∧ i = .int .i64 k ∧ xs.take k = ys.take k ∧ Below w.heap.size w wr) (fun i _ => xs.length - (intOf i).toNat)
    case atStart => exact ⟨0, Nat.zero_le _, rfl, by simp, Below.refl _ _⟩
    case round =>
      obtain ⟨k, hk, rfl, hp, hbel⟩ := hrel
      have HP := Lib.hid hp; clear hp
      by_cases hlt : k < xs.length
      · obtain ⟨b, o, rfl⟩ := hc.some (by omega)
        obtain ⟨b2, o2, rfl⟩ := hc2.some (by omega)
        have hcell := (hc.below hbel (Nat.le_refl _)).get k hlt
        have hcell2 := (hc2.below hbel (Nat.le_refl _)).get k (by omega)
        have HB := Lib.hid hbel; clear hbel
        by_cases hx : xs[k] = ys[k]
        · have HS := Lib.hid (same_snoc xs ys k hlt (by omega) HP.out hx)
          have hxx : (xs[k] != ys[k]) = false := by simp [hx]
          clear hx
          go_wp2
          go_quiet (fail)
          go_wp2
          go_roundw
          case rel => exact ⟨k + 1, by omega, by go_num, HS.out, below_drewN HB.out _⟩
          case measure => simp [intOf]; omega
        · have hxx : (xs[k] != ys[k]) = true := by simp [hx]
          go_wp2
          go_quiet (fail)
          go_wp2
          go_ret
          exact ⟨by rw [same_no xs ys (same_ne xs ys k hlt (by omega) hx)]; rfl, below_drewN HB.out _⟩
      · have HS := Lib.hid (same_yes xs ys k hlt HL.out HP.out)
        go_wp2
        go_ret
        exact ⟨by simp [HS.out], hbel⟩
  · have hne : ((xs.length : Int) != (ys.length : Int)) = true := by simp; omega
    go_enter Try.func22, Try.ntmps22
    go_wp2
    go_ret
    exact ⟨by rw [same_no xs ys (fun h => hl (by rw [h]))]; rfl, Below.refl _ _⟩

theorem lent_walk (a : Option Addr) (n cap : Nat) (xs : List Int) (w : World) (hn : xs.length = n) (hm : n ≤ 4194304) (hnc : a = none → cap = 0) (hc : Ints .u8 w a xs) :
    Calls Try.prog 23 #[.slice a n cap] w fun e w' => ∃ a' c', e = .returned (.slice a' n c') ∧ n + 1 ≤ c' ∧ Own w.heap.size 22 w' a' (n + 1) c' (ivs .u8 (xs ++ [77])) ∧ Below w.heap.size w w' := by
  have HN := Lib.hid hn; clear hn
  have HC := Lib.hid hc; clear hc
  have HNC := Lib.hid hnc; clear hnc
  have hb1 : (0 + n) * 1 ≤ 140737488355328 := by omega
  have hb2 : 0 + n ≤ maxLen := by unfold maxLen; omega
  go_enter Try.func23, Try.ntmps23
  go_wp2_with (at_builtin; refine wpList_appS Try.elemClass rfl (.tmp 4) (.tmp 5) rfl (Own.nil w.heap.size _ w) (Nat.le_refl _) (ys := ivs .u8 xs) (by rw [ivs_length, HN.out]) HC.out.vals HNC.out (ivs_one _ _) hb1 hb2 rfl rfl ?_)
  intro a1 c1 w1 ho hg hb
  try rw [Nat.zero_add] at ho
  try rw [List.nil_append] at ho
  try rw [Nat.zero_add]
  have HO := Lib.hid ho; clear ho
  have HB := Lib.hid ((Own.nil w.heap.size 22 w).app hg (Nat.le_refl _)); clear hg hb
  have HBs := Lib.hid HB.out.size
  go_wp2_with (at_builtin; refine wpList_app1x Try.elemClass rfl (.tmp 7) (.tmp 8) rfl HO.out HBs.out (by omega) (by omega) _ rfl _ rfl rfl ?_)
  intro a2 c2 w2 ho hg _
  have HO2 := Lib.hid ho; clear ho
  have HB2 := Lib.hid (HB.out.trans (HO.out.app hg HBs.out)); clear hg
  obtain ⟨g, ha, hg1, hg2, hcc, hcm⟩ := HO2.out.at (by omega)
  subst ha
  have hcc1 : n ≤ c2 := by omega
  have hcc2 : (n : Int) ≤ (c2 : Int) := by omega
  unfold maxLen at hcm
  go_wp2
  go_ret
  exact ⟨_, _, rfl, hcc, by rw [ivs_append]; exact HO2.out, HB2.out⟩

theorem lentRunes_walk (a : Option Addr) (n cap : Nat) (xs : List Int) (w : World) (hn : xs.length = n) (hm : n ≤ 4194304) (hnc : a = none → cap = 0) (hc : Ints .i32 w a xs) :
    Calls Try.prog 16 #[.slice a n cap] w fun e w' => ∃ a' c', e = .returned (.slice a' n c') ∧ n + 1 ≤ c' ∧ Own w.heap.size 21 w' a' (n + 1) c' (ivs .i32 (xs ++ [-77])) ∧ Below w.heap.size w w' := by
  have HN := Lib.hid hn; clear hn
  have HC := Lib.hid hc; clear hc
  have HNC := Lib.hid hnc; clear hnc
  have hb1 : (0 + n) * 4 ≤ 140737488355328 := by omega
  have hb2 : 0 + n ≤ maxLen := by unfold maxLen; omega
  go_enter Try.func16, Try.ntmps16
  go_wp2_with (at_builtin; refine wpList_appS Try.elemRune rfl (.tmp 4) (.tmp 5) rfl (Own.nil w.heap.size _ w) (Nat.le_refl _) (ys := ivs .i32 xs) (by rw [ivs_length, HN.out]) HC.out.vals HNC.out (ivs_one _ _) hb1 hb2 rfl rfl ?_)
  intro a1 c1 w1 ho hg hb
  try rw [Nat.zero_add] at ho
  try rw [List.nil_append] at ho
  try rw [Nat.zero_add]
  have HO := Lib.hid ho; clear ho
  have HB := Lib.hid ((Own.nil w.heap.size 21 w).app hg (Nat.le_refl _)); clear hg hb
  have HBs := Lib.hid HB.out.size
  go_wp2_with (at_builtin; refine wpList_app1x Try.elemRune rfl (.tmp 7) (.tmp 8) rfl HO.out HBs.out (by omega) (by omega) _ rfl _ rfl rfl ?_)
  intro a2 c2 w2 ho hg _
  have HO2 := Lib.hid ho; clear ho
  have HB2 := Lib.hid (HB.out.trans (HO.out.app hg HBs.out)); clear hg
  obtain ⟨g, ha, hg1, hg2, hcc, hcm⟩ := HO2.out.at (by omega)
  subst ha
  have hcc1 : n ≤ c2 := by omega
  have hcc2 : (n : Int) ≤ (c2 : Int) := by omega
  unfold maxLen at hcm
  go_wp2
  go_ret
  exact ⟨_, _, rfl, hcc, by rw [ivs_append]; exact HO2.out, HB2.out⟩

theorem kept_walk (g n c : Nat) (a2 : Option Addr) (cap2 : Nat) (xs : List Int) (w : World) (hn : xs.length = n) (hm : n ≤ 4194304) (hnc : n + 1 ≤ c) (hcm : c ≤ maxLen) (hc : Ints .u8 w (some ⟨g, 0, none⟩) (xs ++ [77])) (hc2 : Ints .u8 w a2 xs) :
    Calls Try.prog 27 #[.slice (some ⟨g, 0, none⟩) n c, .slice a2 n cap2] w fun e w' => e = .returned (.bool true) ∧ Below w.heap.size w w' := by
  have HN := Lib.hid hn; clear hn
  have HC := Lib.hid hc; clear hc
  have HC2 := Lib.hid hc2; clear hc2
  unfold maxLen at hcm
  have hncI : (n : Int) + 1 ≤ (c : Int) := by omega
  have hS := Same_walk (some ⟨g, 0, none⟩) a2 n c n cap2 xs xs w HN.out HN.out (by omega) HC.out.front HC2.out
  rw [decide_eq_true (rfl : xs = xs)] at hS
  have HSa := Lib.hid hS; clear hS
  go_enter Try.func27, Try.ntmps27
  go_wp2_with fail
  refine HSa.out.mono ?_
  rintro e w1 ⟨rfl, hb⟩
  have HB := Lib.hid hb
  have c1 := (HC.out.below hb (Nat.le_refl _)).get n (by simp; have := HN.out; omega)
  rw [show (xs ++ [77])[n]'(by simp; have := HN.out; omega) = 77 by have := HN.out; subst this; simp] at c1
  simp only [Nat.zero_add] at c1
  clear hb
  go_wp2
  go_ret
  exact ⟨rfl, HB.out⟩

theorem keptRunes_walk (g n c : Nat) (a2 : Option Addr) (cap2 : Nat) (xs : List Int) (w : World) (hn : xs.length = n) (hm : n ≤ 4194304) (hnc : n + 1 ≤ c) (hcm : c ≤ maxLen) (hc : Ints .i32 w (some ⟨g, 0, none⟩) (xs ++ [(-77)])) (hc2 : Ints .i32 w a2 xs) :
    Calls Try.prog 20 #[.slice (some ⟨g, 0, none⟩) n c, .slice a2 n cap2] w fun e w' => e = .returned (.bool true) ∧ Below w.heap.size w w' := by
  have HN := Lib.hid hn; clear hn
  have HC := Lib.hid hc; clear hc
  have HC2 := Lib.hid hc2; clear hc2
  unfold maxLen at hcm
  have hncI : (n : Int) + 1 ≤ (c : Int) := by omega
  have hS := sameRunes_walk (some ⟨g, 0, none⟩) a2 n c n cap2 xs xs w HN.out HN.out (by omega) HC.out.front HC2.out
  rw [decide_eq_true (rfl : xs = xs)] at hS
  have HSa := Lib.hid hS; clear hS
  go_enter Try.func20, Try.ntmps20
  go_wp2_with fail
  refine HSa.out.mono ?_
  rintro e w1 ⟨rfl, hb⟩
  have HB := Lib.hid hb
  have c1 := (HC.out.below hb (Nat.le_refl _)).get n (by simp; have := HN.out; omega)
  rw [show (xs ++ [(-77)])[n]'(by simp; have := HN.out; omega) = (-77) by have := HN.out; subst this; simp] at c1
  simp only [Nat.zero_add] at c1
  clear hb
  go_wp2
  go_ret
  exact ⟨rfl, HB.out⟩
end Go.Proofs.Ytmcjlkpogcnniaa
