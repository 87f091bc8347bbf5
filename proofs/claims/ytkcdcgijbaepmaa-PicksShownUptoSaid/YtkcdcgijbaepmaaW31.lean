/-
  Walks: the library's search in a list of numbers; picks.Columns.
-/
import Derived.Test.YtkcdcgijbaepmaaW26
set_option linter.unusedVariables false
set_option linter.unusedSimpArgs false
namespace Go.Proofs.Ytkcdcgijbaepmaa
open Go.RowKit

def NoneI (P : Int → Bool) (zs : List Int) (k : Nat) : Prop := ∀ j, (hj : j < k) → (hl : j < zs.length) → P zs[j] = false
def IdxI (n : Nat) (P : Int → Bool) (zs : List Int) (i : Value) : Prop := ∃ k : Nat, k ≤ n ∧ i = .int .i64 k ∧ NoneI P zs k
theorem NoneI.step {P : Int → Bool} {zs : List Int} {k : Nat} (h : NoneI P zs k) (hk : k < zs.length) (hx : P zs[k] = false) : NoneI P zs (k + 1) := fun j hj hl => by
  by_cases e : j = k
  · subst e; exact hx
  · exact h j (by omega) hl
theorem any_yes {P : Int → Bool} {zs : List Int} {k : Nat} (hk : k < zs.length) (hx : P zs[k] = true) : zs.any P = true := List.any_eq_true.2 ⟨_, List.getElem_mem hk, hx⟩
theorem any_no {P : Int → Bool} {zs : List Int} (h : NoneI P zs zs.length) : zs.any P = false := by
  rw [List.any_eq_false]
  intro x hx
  obtain ⟨j, hj, rfl⟩ := List.mem_iff_getElem.1 hx
  simpa using h j hj hj
def FirstI (P : Int → Bool) (zs : List Int) (e : Ending) : Prop := (∃ i : Nat, e = .returned (.int .i64 i) ∧ zs.any P = true) ∨ (e = .returned (.int .i64 (-1)) ∧ zs.any P = false)
def farP (m : Nat) (x : Int) : Bool := decide ((m : Int) ≤ x)
def widP (x : Int) : Bool := decide (x < 0 ∨ 1048576 < x)
theorem far_walk (m bn : Nat) (aW : Option Addr) (cW : Nat) (x : Int) (w : World) (hn : w.cell? ⟨bn, 0, none⟩ = some (.slice aW m cW)) :
    Calls Try.prog 45 #[.int .i64 x, .pointer (some ⟨bn, 0, none⟩)] w fun e w' => e = .returned (.bool (farP m x)) ∧ w = w' := by
  go_enter Try.func45, Try.ntmps45
  go_wp2
  go_ret
  exact ⟨rfl, rfl⟩
theorem wid_walk (x : Int) (w : World) : Calls Try.prog 46 #[.int .i64 x] w fun e w' => e = .returned (.bool (widP x)) ∧ w = w' := by
  by_cases h1 : x < 0
  · have HR := Lib.hid (show widP x = true from decide_eq_true (.inl h1))
    rw [HR.out]
    go_enter Try.func46, Try.ntmps46
    go_wp2
    go_ret
    exact ⟨rfl, rfl⟩
  · by_cases h2 : (1048576 : Int) < x
    · have HR := Lib.hid (show widP x = true from decide_eq_true (.inr h2))
      rw [HR.out]
      go_enter Try.func46, Try.ntmps46
      go_wp2
      go_ret
      exact ⟨rfl, rfl⟩
    · have HR := Lib.hid (show widP x = false from decide_eq_false (fun h => h.elim h1 h2))
      rw [HR.out]
      go_enter Try.func46, Try.ntmps46
      go_wp2
      go_ret
      exact ⟨rfl, rfl⟩

set_option maxHeartbeats 1000000 in
theorem Index_far_walk (m bn : Nat) (aW : Option Addr) (cW : Nat) (a : Option Addr) (n c : Nat) (zs : List Int) (w : World) (hn : zs.length = n) (hlt : n ≤ 1048576) (hc : Ints .i64 w a zs) (hcap : w.cell? ⟨bn, 0, none⟩ = some (.slice aW m cW)) :
    Calls Try.prog 66 #[.slice a n c, .func (.func 45) #[] #[.pointer (some ⟨bn, 0, none⟩)]] w fun e w' => FirstI (farP m) zs e ∧ w = w' := by
  have HN := Lib.hid hn; clear hn
  have HC := Lib.hid hc; clear hc
  go_enter Try.func66, Try.ntmps66
  go_wp2
  go_loop [8] (IdxI n (farP m) zs) (fun i => n - (intOf i).toNat)
  case atStart => exact ⟨0, Nat.zero_le _, rfl, fun j hj => absurd hj (Nat.not_lt_zero _)⟩
  case round =>
    obtain ⟨k, hk, rfl, hnone⟩ := hrel
    have HA := Lib.hid hnone; clear hnone
    by_cases hkn : k < n
    · have hk1 : k < zs.length := by rw [HN.out]; exact hkn
      obtain ⟨b, o, ha⟩ := HC.out.some (by omega)
      subst ha
      have u0 := HC.out.get k hk1
      have HY := Lib.hid (fun h => any_yes (P := farP m) hk1 h)
      have HS := Lib.hid (fun h => HA.out.step hk1 h)
      generalize zs[k] = x at *
      have hki : (k : Int) < (n : Int) := by omega
      go_wp2_with fail
      refine (far_walk m bn aW cW x w hcap).mono ?_
      rintro e w1 ⟨rfl, rfl⟩
      cases hP : (farP m) x
      · have HR := Lib.hid (HS.out hP)
        clear hP HY HS
        go_wp2
        go_round
        case rel => exact ⟨k + 1, by omega, by go_num, HR.out⟩
        case measure => simp [intOf]; omega
      · have HR := Lib.hid (HY.out hP)
        clear hP HY HS
        go_wp2
        go_ret
        exact ⟨.inl ⟨k, rfl, HR.out⟩, rfl⟩
    · obtain rfl : k = n := by omega
      have HR := Lib.hid (any_no (by have := HA.out; rwa [← HN.out] at this))
      have hki : ¬ (k : Int) < (k : Int) := by omega
      go_wp2
      go_ret
      exact ⟨.inr ⟨rfl, HR.out⟩, rfl⟩
theorem Contains_far_walk (m bn : Nat) (aW : Option Addr) (cW : Nat) (a : Option Addr) (n c : Nat) (zs : List Int) (w : World) (hn : zs.length = n) (hlt : n ≤ 1048576) (hc : Ints .i64 w a zs) (hcap : w.cell? ⟨bn, 0, none⟩ = some (.slice aW m cW)) :
    Calls Try.prog 44 #[.slice a n c, .func (.func 45) #[] #[.pointer (some ⟨bn, 0, none⟩)]] w fun e w' => e = .returned (.bool (zs.any (farP m))) ∧ w = w' := by
  have HI := Lib.hid (Index_far_walk m bn aW cW a n c zs w hn hlt hc hcap)
  clear hn hc
  go_enter Try.func44, Try.ntmps44
  go_wp2_with fail
  refine HI.out.mono ?_
  rintro e w1 ⟨hf, rfl⟩
  rcases hf with ⟨i, rfl, hP⟩ | ⟨rfl, hP⟩
  · have HR := Lib.hid hP; clear hP
    go_wp2
    go_ret
    exact ⟨by rw [HR.out]; rfl, rfl⟩
  · have HR := Lib.hid hP; clear hP
    go_wp2
    go_ret
    exact ⟨by rw [HR.out]; rfl, rfl⟩

set_option maxHeartbeats 1000000 in
theorem Index_wid_walk (a : Option Addr) (n c : Nat) (zs : List Int) (w : World) (hn : zs.length = n) (hlt : n ≤ 1048576) (hc : Ints .i64 w a zs) :
    Calls Try.prog 66 #[.slice a n c, .func (.func 46) #[] #[]] w fun e w' => FirstI (widP) zs e ∧ w = w' := by
  have HN := Lib.hid hn; clear hn
  have HC := Lib.hid hc; clear hc
  go_enter Try.func66, Try.ntmps66
  go_wp2
  go_loop [8] (IdxI n (widP) zs) (fun i => n - (intOf i).toNat)
  case atStart => exact ⟨0, Nat.zero_le _, rfl, fun j hj => absurd hj (Nat.not_lt_zero _)⟩
  case round =>
    obtain ⟨k, hk, rfl, hnone⟩ := hrel
    have HA := Lib.hid hnone; clear hnone
    by_cases hkn : k < n
    · have hk1 : k < zs.length := by rw [HN.out]; exact hkn
      obtain ⟨b, o, ha⟩ := HC.out.some (by omega)
      subst ha
      have u0 := HC.out.get k hk1
      have HY := Lib.hid (fun h => any_yes (P := widP) hk1 h)
      have HS := Lib.hid (fun h => HA.out.step hk1 h)
      generalize zs[k] = x at *
      have hki : (k : Int) < (n : Int) := by omega
      go_wp2_with fail
      refine (wid_walk x w).mono ?_
      rintro e w1 ⟨rfl, rfl⟩
      cases hP : (widP) x
      · have HR := Lib.hid (HS.out hP)
        clear hP HY HS
        go_wp2
        go_round
        case rel => exact ⟨k + 1, by omega, by go_num, HR.out⟩
        case measure => simp [intOf]; omega
      · have HR := Lib.hid (HY.out hP)
        clear hP HY HS
        go_wp2
        go_ret
        exact ⟨.inl ⟨k, rfl, HR.out⟩, rfl⟩
    · obtain rfl : k = n := by omega
      have HR := Lib.hid (any_no (by have := HA.out; rwa [← HN.out] at this))
      have hki : ¬ (k : Int) < (k : Int) := by omega
      go_wp2
      go_ret
      exact ⟨.inr ⟨rfl, HR.out⟩, rfl⟩
theorem Contains_wid_walk (a : Option Addr) (n c : Nat) (zs : List Int) (w : World) (hn : zs.length = n) (hlt : n ≤ 1048576) (hc : Ints .i64 w a zs) :
    Calls Try.prog 44 #[.slice a n c, .func (.func 46) #[] #[]] w fun e w' => e = .returned (.bool (zs.any (widP))) ∧ w = w' := by
  have HI := Lib.hid (Index_wid_walk  a n c zs w hn hlt hc)
  clear hn hc
  go_enter Try.func44, Try.ntmps44
  go_wp2_with fail
  refine HI.out.mono ?_
  rintro e w1 ⟨hf, rfl⟩
  rcases hf with ⟨i, rfl, hP⟩ | ⟨rfl, hP⟩
  · have HR := Lib.hid hP; clear hP
    go_wp2
    go_ret
    exact ⟨by rw [HR.out]; rfl, rfl⟩
  · have HR := Lib.hid hP; clear hP
    go_wp2
    go_ret
    exact ⟨by rw [HR.out]; rfl, rfl⟩
end Go.Proofs.Ytkcdcgijbaepmaa
