/-
  Walks: the checks of levels, the levels that are shown, the comparison of two lists.
-/
import Derived.Test.YtnnfhldfdiaddaaProg
import Derived.Test.YtnnfhldfdiaddaaBase
import Derived.Deep.QuietTactic
import Derived.BigQuiet
namespace Go.Proofs.Ytnnfhldfdiaddaa
open Go.RowKit

def okL (l : List Int) : Bool := l.all (fun x => decide (-1 ≤ x ∧ x ≤ 126))
def mayN (l : List Int) : Int := if okL l = true then 0 else 2
def shownL (zs : List Int) : List Int := zs.filter (fun x => decide (0 ≤ x))

theorem okL_yes (zs : List Int) (k : Nat) (h : ¬ k < zs.length) (hp : okL (zs.take k) = true) : okL zs = true := by
  rwa [List.take_of_length_le (by omega)] at hp
theorem okL_no (zs : List Int) (k : Nat) (h : k < zs.length) (hx : ¬ (-1 ≤ zs[k] ∧ zs[k] ≤ 126)) : okL zs = false := by
  unfold okL; rw [Bool.eq_false_iff]; intro hh; rw [List.all_eq_true] at hh; exact hx (by simpa using hh zs[k] (List.getElem_mem h))
theorem okL_snoc (zs : List Int) (k : Nat) (h : k < zs.length) (hp : okL (zs.take k) = true) (hx : -1 ≤ zs[k] ∧ zs[k] ≤ 126) : okL (zs.take (k + 1)) = true := by
  unfold okL at *; rw [List.take_succ_eq_append_getElem h, List.all_append, hp]; simpa using hx
theorem okL_get (zs : List Int) (h : okL zs = true) (k : Nat) (hk : k < zs.length) : -1 ≤ zs[k] ∧ zs[k] ≤ 126 := by
  unfold okL at h; rw [List.all_eq_true] at h; simpa using h zs[k] (List.getElem_mem hk)
theorem shownL_yes (zs : List Int) (k : Nat) (h : k < zs.length) (hx : 0 ≤ zs[k]) : shownL (zs.take (k + 1)) = shownL (zs.take k) ++ [zs[k]] := by
  unfold shownL; rw [List.take_succ_eq_append_getElem h, List.filter_append]; simp [hx]
theorem shownL_no (zs : List Int) (k : Nat) (h : k < zs.length) (hx : ¬ 0 ≤ zs[k]) : shownL (zs.take (k + 1)) = shownL (zs.take k) := by
  unfold shownL; rw [List.take_succ_eq_append_getElem h, List.filter_append]; simp; omega
theorem shownL_le (zs : List Int) : (shownL zs).length ≤ zs.length := List.length_filter_le _ _

theorem Try.elemLevel : Elem Try.prog 24 23 (.int .i8 0) 1 := ⟨Try.underlying24, by kernel_rfl, by kernel_rfl⟩
theorem Try.elemInt : Elem Try.prog 25 3 (.int .i64 0) 8 := ⟨Try.underlying25, by kernel_rfl, by kernel_rfl⟩

/-- 'visual.may' -/
theorem vmay_walk (a : Option Addr) (n cap : Nat) (zs : List Int) (w : World) (hn : zs.length = n) (hlt : n ≤ 1048576) (hc : Ints .i8 w a zs) :
    Calls Try.prog 36 #[.slice a n cap] w fun e w' => e = .returned (.int .i64 (mayN zs)) ∧ w = w' := by
  subst hn
  go_enter Try.func36, Try.ntmps36
  go_wp2
  go_loop [10] (fun i => ∃ k : Nat, k ≤ zs.length ∧ i = .int .i64 k ∧ okL (zs.take k) = true) (fun i => zs.length - (intOf i).toNat)
  case atStart => exact ⟨0, Nat.zero_le _, rfl, rfl⟩
  case round =>
    obtain ⟨k, hk, rfl, hp⟩ := hrel
    have HP := Lib.hid hp; clear hp
    by_cases hlt : k < zs.length
    · obtain ⟨b, o, rfl⟩ := hc.some (by omega)
      have hcell := hc.get k hlt
      by_cases hx : -1 ≤ zs[k] ∧ zs[k] ≤ 126
      · have HS := Lib.hid (okL_snoc zs k hlt HP.out hx)
        obtain ⟨hx1, hx2⟩ := hx
        go_wp2
        go_round
        case rel => exact ⟨k + 1, by omega, by go_num, HS.out⟩
        case measure => simp [intOf]; omega
      · have HS := Lib.hid (okL_no zs k hlt hx)
        by_cases hx1 : -1 ≤ zs[k]
        · have hx2 : ¬ zs[k] ≤ 126 := fun h => hx ⟨hx1, h⟩
          clear hx
          go_wp2
          go_ret
          exact ⟨by simp [mayN, HS.out], rfl⟩
        · clear hx
          go_wp2
          go_ret
          exact ⟨by simp [mayN, HS.out], rfl⟩
    · have HS := Lib.hid (okL_yes zs k hlt HP.out)
      go_wp2
      go_ret
      exact ⟨by simp [mayN, HS.out], rfl⟩

end Go.Proofs.Ytnnfhldfdiaddaa
