/-
  Walks of a line's methods that only read: Column, Right, Left, Place, Hit.
-/
import Derived.Test.YtnnfhldfdiaddaaL1
set_option linter.unusedVariables false
namespace Go.Proofs.Ytnnfhldfdiaddaa
open Go.RowKit

/-- 'Column' of a place that is there -/
theorem Column_walk (g : Nat) (base : Int) (lv ws : List Int) (w : World) (v : Nat) (h : IsLine w g base lv ws) (hv : v ≤ (ord lv).length) :
    Calls Try.prog 21 #[.pointer (some ⟨g, 0, none⟩), .int .i64 v] w fun e w' => e = .returned (.tuple #[.int .i64 (colAt ws (ord lv) v), .int .i64 0]) ∧ w = w' := by
  obtain ⟨n, m, aL, cL, aO, cO, aA, cA, bC, oC, cC, hn, hm, hM, hmn, hn2, iL, iO, iA, iC⟩ := h.open
  have HH := Lib.hid h; clear h
  have k2 := hM.k2
  have k4 := hM.k4
  have hvm : v ≤ m := by rw [← hm.out]; exact hv
  have hc := iC.out.get v (by rw [colsL_length]; omega)
  rw [colsL_get] at hc
  generalize colAt ws (ord lv) v = x at *
  clear hv
  go_enter Try.func21, Try.ntmps21
  go_wp2_with fail
  refine (none_walk g base lv ws _ HH.out).mono ?_
  rintro e w' ⟨rfl, rfl⟩
  go_wp2
  go_ret2
  exact ⟨rfl, rfl⟩
/-- 'Column' of one that is not -/
theorem Column_no (g : Nat) (base : Int) (lv ws : List Int) (w : World) (v : Int) (h : IsLine w g base lv ws) (hv : v < 0 ∨ (ord lv).length < v) :
    Calls Try.prog 21 #[.pointer (some ⟨g, 0, none⟩), .int .i64 v] w fun e w' => e = .returned (.tuple #[.int .i64 0, .int .i64 250]) ∧ w = w' := by
  obtain ⟨n, m, aL, cL, aO, cO, aA, cA, bC, oC, cC, hn, hm, hM, hmn, hn2, iL, iO, iA, iC⟩ := h.open
  have HH := Lib.hid h; clear h
  have k2 := hM.k2
  rw [hm.out] at hv
  rcases hv with hv | hv
  · go_enter Try.func21, Try.ntmps21
    go_wp2_with fail
    refine (none_walk g base lv ws _ HH.out).mono ?_
    rintro e w' ⟨rfl, rfl⟩
    go_wp2
    go_ret2
    exact ⟨rfl, rfl⟩
  · have hv0 : ¬ v < 0 := by omega
    go_enter Try.func21, Try.ntmps21
    go_wp2_with fail
    refine (none_walk g base lv ws _ HH.out).mono ?_
    rintro e w' ⟨rfl, rfl⟩
    go_wp2
    go_ret2
    exact ⟨rfl, rfl⟩

theorem Right_walk (g : Nat) (base : Int) (lv ws : List Int) (w : World) (v : Nat) (h : IsLine w g base lv ws) (hv : v < (ord lv).length) :
    Calls Try.prog 22 #[.pointer (some ⟨g, 0, none⟩), .int .i64 v] w fun e w' => e = .returned (.tuple #[.int .i64 ((v : Int) + 1), .bool true]) ∧ w = w' := by
  obtain ⟨n, m, aL, cL, aO, cO, aA, cA, bC, oC, cC, hn, hm, hM, hmn, hn2, iL, iO, iA, iC⟩ := h.open
  have HH := Lib.hid h; clear h
  have k2 := hM.k2
  rw [hm.out] at hv
  go_enter Try.func22, Try.ntmps22
  go_wp2_with fail
  refine (none_walk g base lv ws _ HH.out).mono ?_
  rintro e w' ⟨rfl, rfl⟩
  go_wp2
  go_ret2
  exact ⟨rfl, rfl⟩
theorem Right_no (g : Nat) (base : Int) (lv ws : List Int) (w : World) (v : Int) (h : IsLine w g base lv ws) (hv : v < 0 ∨ (ord lv).length ≤ v) :
    Calls Try.prog 22 #[.pointer (some ⟨g, 0, none⟩), .int .i64 v] w fun e w' => e = .returned (.tuple #[.int .i64 0, .bool false]) ∧ w = w' := by
  obtain ⟨n, m, aL, cL, aO, cO, aA, cA, bC, oC, cC, hn, hm, hM, hmn, hn2, iL, iO, iA, iC⟩ := h.open
  have HH := Lib.hid h; clear h
  have k2 := hM.k2
  rw [hm.out] at hv
  by_cases hv0 : v < 0
  · clear hv
    go_enter Try.func22, Try.ntmps22
    go_wp2_with fail
    refine (none_walk g base lv ws _ HH.out).mono ?_
    rintro e w' ⟨rfl, rfl⟩
    go_wp2
    go_ret2
    exact ⟨rfl, rfl⟩
  · have hv1 : (m : Int) ≤ v := by omega
    clear hv
    go_enter Try.func22, Try.ntmps22
    go_wp2_with fail
    refine (none_walk g base lv ws _ HH.out).mono ?_
    rintro e w' ⟨rfl, rfl⟩
    go_wp2
    go_ret2
    exact ⟨rfl, rfl⟩
theorem Left_walk (g : Nat) (base : Int) (lv ws : List Int) (w : World) (v : Nat) (h : IsLine w g base lv ws) (h1 : 1 ≤ v) (hv : v ≤ (ord lv).length) :
    Calls Try.prog 23 #[.pointer (some ⟨g, 0, none⟩), .int .i64 v] w fun e w' => e = .returned (.tuple #[.int .i64 ((v : Int) - 1), .bool true]) ∧ w = w' := by
  obtain ⟨n, m, aL, cL, aO, cO, aA, cA, bC, oC, cC, hn, hm, hM, hmn, hn2, iL, iO, iA, iC⟩ := h.open
  have HH := Lib.hid h; clear h
  have k2 := hM.k2
  rw [hm.out] at hv
  go_enter Try.func23, Try.ntmps23
  go_wp2_with fail
  refine (none_walk g base lv ws _ HH.out).mono ?_
  rintro e w' ⟨rfl, rfl⟩
  go_wp2
  go_ret2
  exact ⟨rfl, rfl⟩
theorem Left_no (g : Nat) (base : Int) (lv ws : List Int) (w : World) (v : Int) (h : IsLine w g base lv ws) (hv : v < 1 ∨ (ord lv).length < v) :
    Calls Try.prog 23 #[.pointer (some ⟨g, 0, none⟩), .int .i64 v] w fun e w' => e = .returned (.tuple #[.int .i64 0, .bool false]) ∧ w = w' := by
  obtain ⟨n, m, aL, cL, aO, cO, aA, cA, bC, oC, cC, hn, hm, hM, hmn, hn2, iL, iO, iA, iC⟩ := h.open
  have HH := Lib.hid h; clear h
  have k2 := hM.k2
  rw [hm.out] at hv
  by_cases hv0 : v < 1
  · clear hv
    go_enter Try.func23, Try.ntmps23
    go_wp2_with fail
    refine (none_walk g base lv ws _ HH.out).mono ?_
    rintro e w' ⟨rfl, rfl⟩
    go_wp2
    go_ret2
    exact ⟨rfl, rfl⟩
  · have hv1 : (m : Int) < v := by omega
    clear hv
    go_enter Try.func23, Try.ntmps23
    go_wp2_with fail
    refine (none_walk g base lv ws _ HH.out).mono ?_
    rintro e w' ⟨rfl, rfl⟩
    go_wp2
    go_ret2
    exact ⟨rfl, rfl⟩

/-- the logical place of a visual one, by its left character or its right one -/
def placeAt (base : Int) (lv : List Int) (v : Nat) (left : Bool) : Int :=
  if left then (if v = 0 then base * lv.length else (ord lv).getD (v - 1) 0 + 1 - lv.getD ((ord lv).getD (v - 1) 0).toNat 0 % 2)
  else (if v = (ord lv).length then (1 - base) * lv.length else (ord lv).getD v 0 + lv.getD ((ord lv).getD v 0).toNat 0 % 2)

theorem Place_left (g : Nat) (base : Int) (lv ws : List Int) (w : World) (v : Nat) (h : IsLine w g base lv ws) (hv : v ≤ (ord lv).length) :
    Calls Try.prog 14 #[.pointer (some ⟨g, 0, none⟩), .int .i64 v, .int .u8 1] w fun e w' => e = .returned (.tuple #[.int .i64 (placeAt base lv v true), .int .i64 0]) ∧ w = w' := by
  obtain ⟨n, m, aL, cL, aO, cO, aA, cA, bC, oC, cC, hn, hm, hM, hmn, hn2, iL, iO, iA, iC⟩ := h.open
  have HH := Lib.hid h
  have k0 := hM.k0
  have k2 := hM.k2
  have hvm : v ≤ m := by rw [← hm.out]; exact hv
  by_cases hv0 : v = 0
  · subst hv0
    have hz : placeAt base lv 0 true = base * n := by simp [placeAt, hn.out]
    rw [hz]
    clear hz hv
    rcases h.ok.h01 with rfl | rfl
    all_goals
      clear h
      go_enter Try.func14, Try.ntmps14
      go_wp2_with fail
      refine (Len_walk g _ lv ws _ HH.out).mono ?_
      rintro e w' ⟨rfl, rfl⟩
      rw [hn.out]
      go_wp2_with fail
      refine (none_walk g _ lv ws _ HH.out).mono ?_
      rintro e w' ⟨rfl, rfl⟩
      go_wp2
      go_ret2
      exact ⟨by simp, rfl⟩
  · have hk : v - 1 < (ord lv).length := by omega
    obtain ⟨x, hx, hxl⟩ := shownIdx_nonneg lv (ord lv) (ord_perm lv) (v - 1) hk
    have hz : placeAt base lv v true = (x : Int) + 1 - lv[x] % 2 := by
      unfold placeAt
      rw [if_pos rfl, if_neg hv0, ord_getD lv _ hk, hx]
      simp [hxl]
    rw [hz]
    have hok := okL_get lv h.ok.ok x hxl
    obtain ⟨bO, oO, ha⟩ := iO.out.some (by omega)
    subst ha
    have hc := iO.out.get (v - 1) hk
    rw [hx] at hc
    have hod := Lib.hid (odd_walk g base lv ws w (x : Int) HH.out (by omega) (by omega))
    have hve : ((v : Int) == 0) = false := by simp; omega
    have hv1 : 1 ≤ v := by omega
    have hxn : x < n := by rw [← hn.out]; exact hxl
    have hzz : lv.getD ((x : Int)).toNat 0 = lv[x] := by simp [hxl]
    rw [hzz] at hod
    generalize lv[x] = y at *
    have hy0 : 0 ≤ y % 2 := by omega
    have hy1 : y % 2 < 2 := by omega
    generalize y % 2 = y2 at *
    clear h hv hv0 hk hx hz hzz hxl
    go_enter Try.func14, Try.ntmps14
    go_wp2_with fail
    refine (Len_walk g base lv ws _ HH.out).mono ?_
    rintro e w' ⟨rfl, rfl⟩
    rw [hn.out]
    go_wp2_with fail
    refine (none_walk g base lv ws _ HH.out).mono ?_
    rintro e w' ⟨rfl, rfl⟩
    go_wp2_with fail
    refine hod.out.mono ?_
    rintro e w' ⟨rfl, rfl⟩
    go_wp2
    go_ret2
    exact ⟨rfl, rfl⟩

theorem Place_right (g : Nat) (base : Int) (lv ws : List Int) (w : World) (v : Nat) (h : IsLine w g base lv ws) (hv : v ≤ (ord lv).length) :
    Calls Try.prog 14 #[.pointer (some ⟨g, 0, none⟩), .int .i64 v, .int .u8 2] w fun e w' => e = .returned (.tuple #[.int .i64 (placeAt base lv v false), .int .i64 0]) ∧ w = w' := by
  obtain ⟨n, m, aL, cL, aO, cO, aA, cA, bC, oC, cC, hn, hm, hM, hmn, hn2, iL, iO, iA, iC⟩ := h.open
  have HH := Lib.hid h
  have k0 := hM.k0
  have k2 := hM.k2
  have hvm : v ≤ m := by rw [← hm.out]; exact hv
  by_cases hv0 : v = (ord lv).length
  · have hz : placeAt base lv v false = (1 - base) * n := by simp [placeAt, hn.out, hv0]
    rw [hz]
    have hve : ((v : Int) == (m : Int)) = true := by rw [beq_iff_eq, hv0, hm.out]
    clear hz hv hv0
    rcases h.ok.h01 with rfl | rfl
    all_goals
      clear h
      go_enter Try.func14, Try.ntmps14
      go_wp2_with fail
      refine (Len_walk g _ lv ws _ HH.out).mono ?_
      rintro e w' ⟨rfl, rfl⟩
      rw [hn.out]
      go_wp2_with fail
      refine (none_walk g _ lv ws _ HH.out).mono ?_
      rintro e w' ⟨rfl, rfl⟩
      go_wp2
      go_ret2
      exact ⟨by simp, rfl⟩
  · have hk : v < (ord lv).length := by omega
    obtain ⟨x, hx, hxl⟩ := shownIdx_nonneg lv (ord lv) (ord_perm lv) v hk
    have hz : placeAt base lv v false = (x : Int) + lv[x] % 2 := by
      unfold placeAt
      rw [if_neg (by simp), if_neg hv0, ord_getD lv _ hk, hx]
      simp [hxl]
    rw [hz]
    have hok := okL_get lv h.ok.ok x hxl
    obtain ⟨bO, oO, ha⟩ := iO.out.some (by omega)
    subst ha
    have hc := iO.out.get v hk
    rw [hx] at hc
    have hod := Lib.hid (odd_walk g base lv ws w (x : Int) HH.out (by omega) (by omega))
    have hve : ((v : Int) == (m : Int)) = false := by have := hm.out; simp; omega
    have hvm2 : v < m := by rw [← hm.out]; exact hk
    have hxn : x < n := by rw [← hn.out]; exact hxl
    have hzz : lv.getD ((x : Int)).toNat 0 = lv[x] := by simp [hxl]
    rw [hzz] at hod
    generalize lv[x] = y at *
    have hy0 : 0 ≤ y % 2 := by omega
    have hy1 : y % 2 < 2 := by omega
    generalize y % 2 = y2 at *
    clear h hv hv0 hk hx hz hzz hxl
    go_enter Try.func14, Try.ntmps14
    go_wp2_with fail
    refine (Len_walk g base lv ws _ HH.out).mono ?_
    rintro e w' ⟨rfl, rfl⟩
    rw [hn.out]
    go_wp2_with fail
    refine (none_walk g base lv ws _ HH.out).mono ?_
    rintro e w' ⟨rfl, rfl⟩
    go_wp2_with fail
    refine hod.out.mono ?_
    rintro e w' ⟨rfl, rfl⟩
    go_wp2
    go_ret2
    exact ⟨rfl, rfl⟩
end Go.Proofs.Ytnnfhldfdiaddaa
