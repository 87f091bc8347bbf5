/-
  The document's line: the logical place of a visual one; and the program's, whatever is asked.
-/
import Derived.Test.YtnnfhldfdiaddaaX5
set_option linter.unusedVariables false
namespace Go.Proofs.Ytnnfhldfdiaddaa
open Go.RowKit

/-- what 'Place' answers: the place, and the error -/
def placeN (base : Int) (lv : List Int) (v ed : Int) : Int × Int :=
  if v < 0 ∨ ((ord lv).length : Int) < v then (0, 250) else if ed = 1 then (placeAt base lv v.toNat true, 0) else if ed = 2 then (placeAt base lv v.toNat false, 0) else (0, 2)
def PlacePost (base : Int) (lv : List Int) (v ed : Int) (w : World) (e : Ending) (w' : World) : Prop := e = .returned (.tuple #[.int .i64 (placeN base lv v ed).1, .int .i64 (placeN base lv v ed).2]) ∧ w = w'
theorem placeN_no {base : Int} {lv : List Int} {v ed : Int} (h : v < 0 ∨ ((ord lv).length : Int) < v) : placeN base lv v ed = (0, 250) := if_pos h
theorem placeN_left {base : Int} {lv : List Int} {v : Nat} (h : v ≤ (ord lv).length) : placeN base lv v 1 = (placeAt base lv v true, 0) := by
  unfold placeN; rw [if_neg (by omega), if_pos rfl, Int.toNat_natCast]
theorem placeN_right {base : Int} {lv : List Int} {v : Nat} (h : v ≤ (ord lv).length) : placeN base lv v 2 = (placeAt base lv v false, 0) := by
  unfold placeN; rw [if_neg (by omega), if_neg (by omega), if_pos rfl, Int.toNat_natCast]
theorem placeN_arg {base : Int} {lv : List Int} {v : Nat} {ed : Int} (h : v ≤ (ord lv).length) (h1 : ed ≠ 1) (h2 : ed ≠ 2) : placeN base lv v ed = (0, 2) := by
  unfold placeN; rw [if_neg (by omega), if_neg h1, if_neg h2]
theorem placePost_of {base : Int} {lv : List Int} {v ed p q : Int} (h : placeN base lv v ed = (p, q)) {w : World} {e : Ending} {w' : World} (k : e = .returned (.tuple #[.int .i64 p, .int .i64 q]) ∧ w = w') : PlacePost base lv v ed w e w' := by
  unfold PlacePost; rw [h]; exact k

theorem rPlace_no (g : Nat) (base : Int) (lv ws : List Int) (w : World) (v ed : Int) (h : IsRef w g base lv ws) (hv : v < 0 ∨ ((ord lv).length : Int) < v) :
    Calls Try.prog 42 #[.pointer (some ⟨g, 0, none⟩), .int .i64 v, .int .u8 ed] w fun e w' => e = .returned (.tuple #[.int .i64 0, .int .i64 250]) ∧ w = w' := by
  obtain ⟨n, m, aL, cL, aW, cW, aO, cO, aA, cA, hn, hn2, hm, hM, hmn, hn3, iL, iW, iO, iA⟩ := h.open
  have k1 := hM.k1
  have k3 := hM.k3
  rw [hm.out] at hv
  clear h
  by_cases h1 : v < 0
  · clear hv
    go_enter Try.func42, Try.ntmps42
    go_wp2
    go_ret2
    exact ⟨rfl, rfl⟩
  · have h2 : (m : Int) < v := by omega
    clear hv
    go_enter Try.func42, Try.ntmps42
    go_wp2
    go_ret2
    exact ⟨rfl, rfl⟩
theorem rPlace_arg (g : Nat) (base : Int) (lv ws : List Int) (w : World) (v : Nat) (ed : Int) (h : IsRef w g base lv ws) (hv : v ≤ (ord lv).length) (h1 : ed ≠ 1) (h2 : ed ≠ 2) :
    Calls Try.prog 42 #[.pointer (some ⟨g, 0, none⟩), .int .i64 v, .int .u8 ed] w fun e w' => e = .returned (.tuple #[.int .i64 0, .int .i64 2]) ∧ w = w' := by
  obtain ⟨n, m, aL, cL, aW, cW, aO, cO, aA, cA, hn, hn2, hm, hM, hmn, hn3, iL, iW, iO, iA⟩ := h.open
  have k1 := hM.k1
  have k3 := hM.k3
  rw [hm.out] at hv
  have e1 : (ed == 1) = false := by simpa using h1
  have e2 : (ed == 2) = false := by simpa using h2
  clear h h1 h2
  go_enter Try.func42, Try.ntmps42
  go_wp2
  go_ret2
  exact ⟨rfl, rfl⟩
theorem rPlace_left (g : Nat) (base : Int) (lv ws : List Int) (w : World) (v : Nat) (h : IsRef w g base lv ws) (hv : v ≤ (ord lv).length) :
    Calls Try.prog 42 #[.pointer (some ⟨g, 0, none⟩), .int .i64 v, .int .u8 1] w fun e w' => e = .returned (.tuple #[.int .i64 (placeAt base lv v true), .int .i64 0]) ∧ w = w' := by
  obtain ⟨n, m, aL, cL, aW, cW, aO, cO, aA, cA, hn, hn2, hm, hM, hmn, hn3, iL, iW, iO, iA⟩ := h.open
  have k0 := hM.k0
  have k1 := hM.k1
  have k3 := hM.k3
  have hvm : v ≤ m := by rw [← hm.out]; exact hv
  by_cases hv0 : v = 0
  · subst hv0
    have hz : placeAt base lv 0 true = base * n := by simp [placeAt, hn.out]
    rw [hz]
    clear hz hv
    rcases h.ok.h01 with rfl | rfl
    all_goals
      clear h
      go_enter Try.func42, Try.ntmps42
      go_wp2
      go_ret2
      exact ⟨by simp, rfl⟩
  · have hk : v - 1 < (ord lv).length := by omega
    obtain ⟨x, hx, hxl⟩ := shownIdx_nonneg lv (ord lv) (ord_perm lv) (v - 1) hk
    have hz : placeAt base lv v true = (x : Int) + 1 - lv[x] % 2 := by
      unfold placeAt
      rw [if_pos rfl, if_neg hv0, ord_getD lv _ hk, hx]
      simp [hxl]
    rw [hz]
    have hpos : 0 ≤ lv[x] := by
      have hm2 : (x : Int) ∈ ord lv := by rw [← hx]; exact List.getElem_mem hk
      rw [mem_ord, Int.toNat_natCast, show lv.getD x 0 = lv[x] by simp [hxl]] at hm2
      have := okL_get lv h.ok.ok x hxl
      omega
    have hle : lv[x] ≤ 126 := (okL_get lv h.ok.ok x hxl).2
    have htm : lv[x].tmod 2 = lv[x] % 2 := Int.tmod_eq_emod_of_nonneg hpos
    obtain ⟨bO, oO, ha⟩ := iO.out.some (by omega)
    subst ha
    obtain ⟨bL, oL, ha⟩ := iL.out.some (by omega)
    subst ha
    have hc := iO.out.get (v - 1) hk
    rw [hx] at hc
    have hcl := iL.out.get x hxl
    have hve : ((v : Int) == 0) = false := by simp; omega
    have hv1 : 1 ≤ v := by omega
    have hxn : x < n := by rw [← hn.out]; exact hxl
    generalize lv[x] = y at *
    clear h hv hv0 hk hx hz hxl
    by_cases hy : y % 2 = 1
    · rw [hy] at htm ⊢
      clear hy
      go_enter Try.func42, Try.ntmps42
      go_wp2
      go_ret2
      exact ⟨by simp, rfl⟩
    · have hy2 : y % 2 = 0 := by omega
      rw [hy2] at htm ⊢
      clear hy hy2
      go_enter Try.func42, Try.ntmps42
      go_wp2
      go_ret2
      exact ⟨by simp, rfl⟩
theorem rPlace_right (g : Nat) (base : Int) (lv ws : List Int) (w : World) (v : Nat) (h : IsRef w g base lv ws) (hv : v ≤ (ord lv).length) :
    Calls Try.prog 42 #[.pointer (some ⟨g, 0, none⟩), .int .i64 v, .int .u8 2] w fun e w' => e = .returned (.tuple #[.int .i64 (placeAt base lv v false), .int .i64 0]) ∧ w = w' := by
  obtain ⟨n, m, aL, cL, aW, cW, aO, cO, aA, cA, hn, hn2, hm, hM, hmn, hn3, iL, iW, iO, iA⟩ := h.open
  have k0 := hM.k0
  have k1 := hM.k1
  have k3 := hM.k3
  have hvm : v ≤ m := by rw [← hm.out]; exact hv
  by_cases hv0 : v = (ord lv).length
  · have hz : placeAt base lv v false = (1 - base) * n := by simp [placeAt, hn.out, hv0]
    rw [hz]
    have hve : ((v : Int) == (m : Int)) = true := by rw [beq_iff_eq, hv0, hm.out]
    clear hz hv hv0
    rcases h.ok.h01 with rfl | rfl
    all_goals
      clear h
      go_enter Try.func42, Try.ntmps42
      go_wp2
      go_ret2
      exact ⟨by simp, rfl⟩
  · have hk : v < (ord lv).length := by omega
    obtain ⟨x, hx, hxl⟩ := shownIdx_nonneg lv (ord lv) (ord_perm lv) v hk
    have hz : placeAt base lv v false = (x : Int) + lv[x] % 2 := by
      unfold placeAt
      rw [if_neg (by simp), if_neg hv0, ord_getD lv _ hk, hx]
      simp [hxl]
    rw [hz]
    have hpos : 0 ≤ lv[x] := by
      have hm2 : (x : Int) ∈ ord lv := by rw [← hx]; exact List.getElem_mem hk
      rw [mem_ord, Int.toNat_natCast, show lv.getD x 0 = lv[x] by simp [hxl]] at hm2
      have := okL_get lv h.ok.ok x hxl
      omega
    have hle : lv[x] ≤ 126 := (okL_get lv h.ok.ok x hxl).2
    have htm : lv[x].tmod 2 = lv[x] % 2 := Int.tmod_eq_emod_of_nonneg hpos
    obtain ⟨bO, oO, ha⟩ := iO.out.some (by omega)
    subst ha
    obtain ⟨bL, oL, ha⟩ := iL.out.some (by omega)
    subst ha
    have hc := iO.out.get v hk
    rw [hx] at hc
    have hcl := iL.out.get x hxl
    have hve : ((v : Int) == (m : Int)) = false := by have := hm.out; simp; omega
    have hvm2 : v < m := by rw [← hm.out]; exact hk
    have hxn : x < n := by rw [← hn.out]; exact hxl
    generalize lv[x] = y at *
    clear h hv hv0 hk hx hz hxl
    by_cases hy : y % 2 = 1
    · rw [hy] at htm ⊢
      clear hy
      go_enter Try.func42, Try.ntmps42
      go_wp2
      go_ret2
      exact ⟨rfl, rfl⟩
    · have hy2 : y % 2 = 0 := by omega
      rw [hy2] at htm ⊢
      clear hy hy2
      go_enter Try.func42, Try.ntmps42
      go_wp2
      go_ret2
      exact ⟨by simp, rfl⟩
theorem rPlace_walk (g : Nat) (base : Int) (lv ws : List Int) (w : World) (v ed : Int) (h : IsRef w g base lv ws) :
    Calls Try.prog 42 #[.pointer (some ⟨g, 0, none⟩), .int .i64 v, .int .u8 ed] w (PlacePost base lv v ed w) := by
  by_cases hv : v < 0 ∨ ((ord lv).length : Int) < v
  · exact (rPlace_no g base lv ws w v ed h hv).mono (fun _ _ h => placePost_of (placeN_no hv) h)
  · obtain ⟨k, rfl⟩ := Int.eq_ofNat_of_zero_le (show 0 ≤ v by omega)
    have hk : k ≤ (ord lv).length := by omega
    by_cases h1 : ed = 1
    · subst h1
      exact (rPlace_left g base lv ws w k h hk).mono (fun _ _ h => placePost_of (placeN_left hk) h)
    · by_cases h2 : ed = 2
      · subst h2
        exact (rPlace_right g base lv ws w k h hk).mono (fun _ _ h => placePost_of (placeN_right hk) h)
      · exact (rPlace_arg g base lv ws w k ed h hk h1 h2).mono (fun _ _ h => placePost_of (placeN_arg hk h1 h2) h)

/-! ### the program's -/
theorem Place_no (g : Nat) (base : Int) (lv ws : List Int) (w : World) (v ed : Int) (h : IsLine w g base lv ws) (hv : v < 0 ∨ ((ord lv).length : Int) < v) :
    Calls Try.prog 14 #[.pointer (some ⟨g, 0, none⟩), .int .i64 v, .int .u8 ed] w fun e w' => e = .returned (.tuple #[.int .i64 0, .int .i64 250]) ∧ w = w' := by
  obtain ⟨n, m, aL, cL, aO, cO, aA, cA, bC, oC, cC, hn, hm, hM, hmn, hn2, iL, iO, iA, iC⟩ := h.open
  have HH := Lib.hid h; clear h
  have k2 := hM.k2
  rw [hm.out] at hv
  by_cases h1 : v < 0
  · clear hv
    go_enter Try.func14, Try.ntmps14
    go_wp2_with fail
    refine (Len_walk g base lv ws _ HH.out).mono ?_
    rintro e w' ⟨rfl, rfl⟩
    rw [hn.out]
    go_wp2_with fail
    refine (none_walk g base lv ws _ HH.out).mono ?_
    rintro e w' ⟨rfl, rfl⟩
    go_wp2
    go_ret2
    exact ⟨rfl, rfl⟩
  · have h2 : (m : Int) < v := by omega
    clear hv
    go_enter Try.func14, Try.ntmps14
    go_wp2_with fail
    refine (Len_walk g base lv ws _ HH.out).mono ?_
    rintro e w' ⟨rfl, rfl⟩
    rw [hn.out]
    go_wp2_with fail
    refine (none_walk g base lv ws _ HH.out).mono ?_
    rintro e w' ⟨rfl, rfl⟩
    go_wp2
    go_ret2
    exact ⟨rfl, rfl⟩
theorem Place_arg (g : Nat) (base : Int) (lv ws : List Int) (w : World) (v : Nat) (ed : Int) (h : IsLine w g base lv ws) (hv : v ≤ (ord lv).length) (h1 : ed ≠ 1) (h2 : ed ≠ 2) :
    Calls Try.prog 14 #[.pointer (some ⟨g, 0, none⟩), .int .i64 v, .int .u8 ed] w fun e w' => e = .returned (.tuple #[.int .i64 0, .int .i64 2]) ∧ w = w' := by
  obtain ⟨n, m, aL, cL, aO, cO, aA, cA, bC, oC, cC, hn, hm, hM, hmn, hn2, iL, iO, iA, iC⟩ := h.open
  have HH := Lib.hid h; clear h
  have k2 := hM.k2
  rw [hm.out] at hv
  have e1 : (ed != 1) = true := by simpa using h1
  have e2 : (ed != 2) = true := by simpa using h2
  clear h1 h2
  go_enter Try.func14, Try.ntmps14
  go_wp2_with fail
  refine (Len_walk g base lv ws _ HH.out).mono ?_
  rintro e w' ⟨rfl, rfl⟩
  rw [hn.out]
  go_wp2_with fail
  refine (none_walk g base lv ws _ HH.out).mono ?_
  rintro e w' ⟨rfl, rfl⟩
  go_wp2
  go_ret2
  exact ⟨rfl, rfl⟩
theorem Place_all (g : Nat) (base : Int) (lv ws : List Int) (w : World) (v ed : Int) (h : IsLine w g base lv ws) :
    Calls Try.prog 14 #[.pointer (some ⟨g, 0, none⟩), .int .i64 v, .int .u8 ed] w (PlacePost base lv v ed w) := by
  by_cases hv : v < 0 ∨ ((ord lv).length : Int) < v
  · exact (Place_no g base lv ws w v ed h hv).mono (fun _ _ h => placePost_of (placeN_no hv) h)
  · obtain ⟨k, rfl⟩ := Int.eq_ofNat_of_zero_le (show 0 ≤ v by omega)
    have hk : k ≤ (ord lv).length := by omega
    by_cases h1 : ed = 1
    · subst h1
      exact (Place_left g base lv ws w k h hk).mono (fun _ _ h => placePost_of (placeN_left hk) h)
    · by_cases h2 : ed = 2
      · subst h2
        exact (Place_right g base lv ws w k h hk).mono (fun _ _ h => placePost_of (placeN_right hk) h)
      · exact (Place_arg g base lv ws w k ed h hk h1 h2).mono (fun _ _ h => placePost_of (placeN_arg hk h1 h2) h)
end Go.Proofs.Ytnnfhldfdiaddaa
