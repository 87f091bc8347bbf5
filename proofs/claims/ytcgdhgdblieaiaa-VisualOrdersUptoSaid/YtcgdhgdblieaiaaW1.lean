/-
  Walks: the checks of levels, the levels that are shown, the comparison of two lists.
-/
import Derived.Test.YtcgdhgdblieaiaaProg
import Derived.Test.YtcgdhgdblieaiaaBase
import Derived.Deep.QuietTactic
import Derived.BigQuiet
namespace Go.Proofs.Ytcgdhgdblieaiaa
open Go.RowKit

def okL (l : List Int) : Bool := l.all (fun x => decide (-1 ≤ x ∧ x ≤ 126))
def mayN (l : List Int) : Int := if okL l = true then 0 else 2
def shownL (zs : List Int) : List Int := zs.filter (fun x => decide (0 ≤ x))

theorem okL_yes (zs : List Int) (k : Nat) (h : ¬ k < zs.length) (hp : okL (zs.take k) = true) : okL zs = true := by
  rwa [List.take_of_length_le (by omega)] at hp
theorem okL_no (zs : List Int) (k : Nat) (h : k < zs.length) (hx : ¬ (-1 ≤ zs[k] ∧ zs[k] ≤ 126)) : okL zs = false := by
  unfold okL; rw [Bool.eq_false_iff]; intro hh; rw [List.all_eq_true] at hh; exact hx (by simpa using hh zs[k] (List.getElem_mem h))
theorem okL_snoc (zs : List Int) (k : Nat) (h : k < zs.length) (hp : okL (zs.take k) = true) (hx : -1 ≤ zs[k] ∧ zs[k] ≤ 126) : okL (zs.take (k + 1)) = true := by
  unfold okL at *; rw [List.take_succ_eq_append_getElem h, List.all_append, hp]; simpa using hx
theorem okL_get (zs : List Int) (h : okL zs = true) (k : Nat) (hk : k < zs.length) : -1 ≤ zs[k] ∧ zs[k] ≤ 126 := by
  unfold okL at h; rw [List.all_eq_true] at h; simpa using h zs[k] (List.getElem_mem hk)
theorem shownL_yes (zs : List Int) (k : Nat) (h : k < zs.length) (hx : 0 ≤ zs[k]) : shownL (zs.take (k + 1)) = shownL (zs.take k) ++ [zs[k]] := by
  unfold shownL; rw [List.take_succ_eq_append_getElem h, List.filter_append]; simp [hx]
theorem shownL_no (zs : List Int) (k : Nat) (h : k < zs.length) (hx : ¬ 0 ≤ zs[k]) : shownL (zs.take (k + 1)) = shownL (zs.take k) := by
  unfold shownL; rw [List.take_succ_eq_append_getElem h, List.filter_append]; simp; omega
theorem shownL_le (zs : List Int) : (shownL zs).length ≤ zs.length := List.length_filter_le _ _

theorem Try.elemLevel : Elem Try.prog 22 33 (.int .i8 0) 1 := ⟨Try.underlying22, by kernel_rfl, by kernel_rfl⟩
theorem Try.elemInt : Elem Try.prog 26 3 (.int .i64 0) 8 := ⟨Try.underlying26, by kernel_rfl, by kernel_rfl⟩

/-- 'visual.may' -/
theorem vmay_walk (a : Option Addr) (n cap : Nat) (zs : List Int) (w : World) (hn : zs.length = n) (hlt : n ≤ 1048576) (hc : Ints .i8 w a zs) :
    Calls Try.prog 41 #[.slice a n cap] w fun e w' => e = .returned (.int .i64 (mayN zs)) ∧ w = w' := by
  subst hn
  go_enter Try.func41, Try.ntmps41
  go_wp2
  go_loop [10] (fun i => ∃ k : Nat, k ≤ zs.length ∧ i = .int .i64 k ∧ okL (zs.take k) = true) (fun i => zs.length - (intOf i).toNat)
  case atStart => exact ⟨0, Nat.zero_le _, rfl, rfl⟩
  case round =>
    obtain ⟨k, hk, rfl, hp⟩ := hrel
    have HP := Lib.hid hp; clear hp
    by_cases hlt : k < zs.length
    · obtain ⟨b, o, rfl⟩ := hc.some (by omega)
      have hcell := hc.get k hlt
      by_cases hx : -1 ≤ zs[k] ∧ zs[k] ≤ 126
      · have HS := Lib.hid (okL_snoc zs k hlt HP.out hx)
        obtain ⟨hx1, hx2⟩ := hx
        go_wp2
        go_round
        case rel => exact ⟨k + 1, by omega, by go_num, HS.out⟩
        case measure => simp [intOf]; omega
      · have HS := Lib.hid (okL_no zs k hlt hx)
        by_cases hx1 : -1 ≤ zs[k]
        · have hx2 : ¬ zs[k] ≤ 126 := fun h => hx ⟨hx1, h⟩
          clear hx
          go_wp2
          go_ret
          exact ⟨by simp [mayN, HS.out], rfl⟩
        · clear hx
          go_wp2
          go_ret
          exact ⟨by simp [mayN, HS.out], rfl⟩
    · have HS := Lib.hid (okL_yes zs k hlt HP.out)
      go_wp2
      go_ret
      exact ⟨by simp [mayN, HS.out], rfl⟩

/-- the statements' own 'may' -/
theorem lmay_walk (a : Option Addr) (n cap : Nat) (zs : List Int) (w : World) (hn : zs.length = n) (hlt : n ≤ 9223372036854775807) (hc : Ints .i8 w a zs) :
    Calls Try.prog 12 #[.slice a n cap] w fun e w' => e = .returned (.bool (okL zs && decide (n ≤ 65536))) ∧ w = w' := by
  subst hn
  go_enter Try.func12, Try.ntmps12
  go_wp2
  go_loop [3] (fun i => ∃ k : Nat, k ≤ zs.length ∧ i = .int .i64 k ∧ okL (zs.take k) = true) (fun i => zs.length - (intOf i).toNat)
  case atStart => exact ⟨0, Nat.zero_le _, rfl, rfl⟩
  case round =>
    obtain ⟨k, hk, rfl, hp⟩ := hrel
    have HP := Lib.hid hp; clear hp
    by_cases hlt : k < zs.length
    · obtain ⟨b, o, rfl⟩ := hc.some (by omega)
      have hcell := hc.get k hlt
      by_cases hx : -1 ≤ zs[k] ∧ zs[k] ≤ 126
      · have HS := Lib.hid (okL_snoc zs k hlt HP.out hx)
        obtain ⟨hx1, hx2⟩ := hx
        go_wp2
        go_round
        case rel => exact ⟨k + 1, by omega, by go_num, HS.out⟩
        case measure => simp [intOf]; omega
      · have HS := Lib.hid (okL_no zs k hlt hx)
        by_cases hx1 : -1 ≤ zs[k]
        · have hx2 : ¬ zs[k] ≤ 126 := fun h => hx ⟨hx1, h⟩
          clear hx
          go_wp2
          go_ret
          exact ⟨by simp [HS.out], rfl⟩
        · clear hx
          go_wp2
          go_ret
          exact ⟨by simp [HS.out], rfl⟩
    · have HS := Lib.hid (okL_yes zs k hlt HP.out)
      go_wp2
      go_ret
      exact ⟨by simp [HS.out]; omega, rfl⟩

/-- 'shown' -/
theorem shown_walk (a : Option Addr) (n cap : Nat) (zs : List Int) (w : World) (hn : zs.length = n) (hm : n ≤ 1048576) (hc : Ints .i8 w a zs) :
    Calls Try.prog 14 #[.slice a n cap] w fun e w' => ∃ a' n' cap', e = .returned (.slice a' n' cap') ∧ Own w.heap.size 33 w' a' n' cap' (ivs .i8 (shownL zs)) ∧ Below w.heap.size w w' := by
  subst hn
  go_enter Try.func14, Try.ntmps14
  go_wp2
  go_loopw [3, 4] (fun v i wr => ∃ k : Nat, k ≤ zs.length ∧ i = .int .i64 k ∧ ∃ a' n' cap', v = .slice a' n' cap' ∧ Own w.heap.size 33 wr a' n' cap' (ivs .i8 (shownL (zs.take k))) ∧ Below w.heap.size w wr) (fun _ i _ => zs.length - (intOf i).toNat)
  case atStart => exact ⟨0, Nat.zero_le _, rfl, none, 0, 0, rfl, Own.nil _ _ _, Below.refl _ _⟩
  case round =>
    obtain ⟨k, hk, rfl, a', n', cap', rfl, hown, hbel⟩ := hrel
    by_cases hlt : k < zs.length
    · obtain ⟨b, o, rfl⟩ := hc.some (by omega)
      have hcell := (hc.below hbel (Nat.le_refl _)).get k hlt
      have hl' := hown.lenI
      have hl2 := shownL_le (zs.take k)
      have hn' : n' ≤ zs.length := by have := List.length_take_le k zs; omega
      clear hl' hl2
      have HO := Lib.hid hown; clear hown
      have HB := Lib.hid hbel; clear hbel
      by_cases hx : 0 ≤ zs[k]
      · have HS := Lib.hid (shownL_yes zs k hlt hx)
        go_wp2_with (at_builtin; refine wpList_app1 Try.elemLevel rfl (.tmp 16) (.tmp 21) rfl HO.out HB.out.size (by omega) (by omega) _ rfl _ rfl rfl ?_)
        intro a2 cap2 w2 hown2 hg
        have HO2 := Lib.hid hown2; clear hown2
        have HG := Lib.hid (HO.out.app hg HB.out.size); clear hg
        go_wp2
        go_roundw
        case rel => exact ⟨k + 1, by omega, by go_num, _, _, _, rfl, by rw [HS.out, ivs_append]; exact HO2.out, HB.out.trans HG.out⟩
        case measure => simp [intOf]; omega
      · have HS := Lib.hid (shownL_no zs k hlt hx)
        go_wp2
        go_roundw
        case rel => exact ⟨k + 1, by omega, by go_num, _, _, _, rfl, by rw [HS.out]; exact HO.out, HB.out⟩
        case measure => simp [intOf]; omega
    · have HO := Lib.hid hown; clear hown
      go_wp2
      go_ret
      exact ⟨_, _, _, rfl, by have := HO.out; rwa [List.take_of_length_le (by omega)] at this, hbel⟩

theorem same_yes (xs ys : List Int) (k : Nat) (h : ¬ k < xs.length) (hl : xs.length = ys.length) (hp : xs.take k = ys.take k) : xs = ys := by
  rwa [List.take_of_length_le (by omega), List.take_of_length_le (by omega)] at hp
theorem same_snoc (xs ys : List Int) (k : Nat) (h : k < xs.length) (h' : k < ys.length) (hp : xs.take k = ys.take k) (hx : xs[k] = ys[k]) : xs.take (k + 1) = ys.take (k + 1) := by
  rw [List.take_succ_eq_append_getElem h, List.take_succ_eq_append_getElem h', hp, hx]

theorem same_no (xs ys : List Int) (h : xs ≠ ys) : decide (xs = ys) = false := by simp [h]
theorem same_ne (xs ys : List Int) (k : Nat) (h : k < xs.length) (h' : k < ys.length) (hx : ¬ xs[k] = ys[k]) : xs ≠ ys := by
  rintro rfl; exact hx rfl

/-- 'sameInts' -/
theorem sameInts_walk (a a2 : Option Addr) (n cap n2 cap2 : Nat) (xs ys : List Int) (w : World) (hn : xs.length = n) (hn2 : ys.length = n2) (hm : n ≤ 1048576) (hc : Ints .i64 w a xs) (hc2 : Ints .i64 w a2 ys) :
    Calls Try.prog 17 #[.slice a n cap, .slice a2 n2 cap2] w fun e w' => e = .returned (.bool (decide (xs = ys))) ∧ Below w.heap.size w w' := by
  subst hn
  subst hn2
  by_cases hl : xs.length = ys.length
  · have hl1 : xs.length ≤ ys.length := by omega
    have hl2 : ys.length ≤ xs.length := by omega
    have HL := Lib.hid hl; clear hl
    have hne : ((xs.length : Int) != (ys.length : Int)) = false := by simp; omega
    go_enter Try.func17, Try.ntmps17
    go_wp2
    go_loopw [5] (fun i wr => ∃ k : Nat, k ≤ xs.length ∧ i = .int .i64 k ∧ xs.take k = ys.take k ∧ Below w.heap.size w wr) (fun i _ => xs.length - (intOf i).toNat)
    case atStart => exact ⟨0, Nat.zero_le _, rfl, by simp, Below.refl _ _⟩
    case round =>
      obtain ⟨k, hk, rfl, hp, hbel⟩ := hrel
      have HP := Lib.hid hp; clear hp
      by_cases hlt : k < xs.length
      · obtain ⟨b, o, rfl⟩ := hc.some (by omega)
        obtain ⟨b2, o2, rfl⟩ := hc2.some (by omega)
        have hcell := (hc.below hbel (Nat.le_refl _)).get k hlt
        have hcell2 := (hc2.below hbel (Nat.le_refl _)).get k (by omega)
        have HB := Lib.hid hbel; clear hbel
        by_cases hx : xs[k] = ys[k]
        · have HS := Lib.hid (same_snoc xs ys k hlt (by omega) HP.out hx)
          have hxx : (xs[k] != ys[k]) = false := by simp [hx]
          clear hx
          go_wp2
          go_quiet (fail)
          go_wp2
          go_roundw
          case rel => exact ⟨k + 1, by omega, by go_num, HS.out, below_drewN HB.out _⟩
          case measure => simp [intOf]; omega
        · have hxx : (xs[k] != ys[k]) = true := by simp [hx]
          go_wp2
          go_quiet (fail)
          go_wp2
          go_ret
          exact ⟨by rw [same_no xs ys (same_ne xs ys k hlt (by omega) hx)]; rfl, below_drewN HB.out _⟩
      · have HS := Lib.hid (same_yes xs ys k hlt HL.out HP.out)
        go_wp2
        go_ret
        exact ⟨by simp [HS.out], hbel⟩
  · have hne : ((xs.length : Int) != (ys.length : Int)) = true := by simp; omega
    go_enter Try.func17, Try.ntmps17
    go_wp2
    go_ret
    exact ⟨by rw [same_no xs ys (fun h => hl (by rw [h]))]; rfl, Below.refl _ _⟩

/-- 'sameRunes' -/
theorem sameRunes_walk (a a2 : Option Addr) (n cap n2 cap2 : Nat) (xs ys : List Int) (w : World) (hn : xs.length = n) (hn2 : ys.length = n2) (hm : n ≤ 1048576) (hc : Ints .i32 w a xs) (hc2 : Ints .i32 w a2 ys) :
    Calls Try.prog 34 #[.slice a n cap, .slice a2 n2 cap2] w fun e w' => e = .returned (.bool (decide (xs = ys))) ∧ Below w.heap.size w w' := by
  subst hn
  subst hn2
  by_cases hl : xs.length = ys.length
  · have hl1 : xs.length ≤ ys.length := by omega
    have hl2 : ys.length ≤ xs.length := by omega
    have HL := Lib.hid hl; clear hl
    have hne : ((xs.length : Int) != (ys.length : Int)) = false := by simp; omega
    go_enter Try.func34, Try.ntmps34
    go_wp2
    go_loopw [5] (fun i wr => ∃ k : Nat, k ≤ xs.length ∧ i = .int .i64 k ∧ xs.take k = ys.take k ∧ Below w.heap.size w wr) (fun i _ => xs.length - (intOf i).toNat)
    case atStart => exact ⟨0, Nat.zero_le _, rfl, by simp, Below.refl _ _⟩
    case round =>
      obtain ⟨k, hk, rfl, hp, hbel⟩ := hrel
      have HP := Lib.hid hp; clear hp
      by_cases hlt : k < xs.length
      · obtain ⟨b, o, rfl⟩ := hc.some (by omega)
        obtain ⟨b2, o2, rfl⟩ := hc2.some (by omega)
        have hcell := (hc.below hbel (Nat.le_refl _)).get k hlt
        have hcell2 := (hc2.below hbel (Nat.le_refl _)).get k (by omega)
        have HB := Lib.hid hbel; clear hbel
        by_cases hx : xs[k] = ys[k]
        · have HS := Lib.hid (same_snoc xs ys k hlt (by omega) HP.out hx)
          have hxx : (xs[k] != ys[k]) = false := by simp [hx]
          clear hx
          go_wp2
          go_quiet (fail)
          go_wp2
          go_roundw
          case rel => exact ⟨k + 1, by omega, by go_num, HS.out, below_drewN HB.out _⟩
          case measure => simp [intOf]; omega
        · have hxx : (xs[k] != ys[k]) = true := by simp [hx]
          go_wp2
          go_quiet (fail)
          go_wp2
          go_ret
          exact ⟨by rw [same_no xs ys (same_ne xs ys k hlt (by omega) hx)]; rfl, below_drewN HB.out _⟩
      · have HS := Lib.hid (same_yes xs ys k hlt HL.out HP.out)
        go_wp2
        go_ret
        exact ⟨by simp [HS.out], hbel⟩
  · have hne : ((xs.length : Int) != (ys.length : Int)) = true := by simp; omega
    go_enter Try.func34, Try.ntmps34
    go_wp2
    go_ret
    exact ⟨by rw [same_no xs ys (fun h => hl (by rw [h]))]; rfl, Below.refl _ _⟩
end Go.Proofs.Ytcgdhgdblieaiaa
