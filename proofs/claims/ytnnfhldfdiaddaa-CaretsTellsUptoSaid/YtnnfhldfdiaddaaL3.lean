/-
  Walks of a line's methods: Hit, Next, Back.
-/
import Derived.Test.YtnnfhldfdiaddaaL2
set_option linter.unusedVariables false
namespace Go.Proofs.Ytnnfhldfdiaddaa
open Go.RowKit

theorem Shown_drewN : True := trivial

/-- what 'Hit' answers of a column within the line -/
def HitRes (ws o : List Int) (c : Int) (r : Value) : Prop :=
  ∃ v, v < o.length ∧ colAt ws o v ≤ c ∧ c < colAt ws o (v + 1) ∧
    ((2 * (c - colAt ws o v) < colAt ws o (v + 1) - colAt ws o v ∧ r = .tuple #[.int .i64 (v : Nat), .int .u8 2]) ∨
     (¬ 2 * (c - colAt ws o v) < colAt ws o (v + 1) - colAt ws o v ∧ r = .tuple #[.int .i64 ((v + 1 : Nat) : Int), .int .u8 1]))
def HitPost (ws o : List Int) (c : Int) (w : World) (e : Ending) (w' : World) : Prop := ∃ r, e = .returned r ∧ HitRes ws o c r ∧ Below w.heap.size w w'

theorem Hit_before (g : Nat) (base : Int) (lv ws : List Int) (w : World) (c : Int) (h : IsLine w g base lv ws) (hc : c < 0 ∨ (ord lv).length = 0) :
    Calls Try.prog 20 #[.pointer (some ⟨g, 0, none⟩), .int .i64 c] w fun e w' => e = .returned (.tuple #[.int .i64 0, .int .u8 2]) ∧ w = w' := by
  obtain ⟨n, m, aL, cL, aO, cO, aA, cA, bC, oC, cC, hn, hm, hM, hmn, hn2, iL, iO, iA, iC⟩ := h.open
  have HH := Lib.hid h; clear h
  rw [hm.out] at hc
  by_cases hm0 : m = 0
  · have hme : ((m : Int) == 0) = true := by simp [hm0]
    clear hc hm0
    go_enter Try.func20, Try.ntmps20
    go_wp2_with fail
    refine (Shown_walk g base lv ws _ HH.out).mono ?_
    rintro e w' ⟨rfl, rfl⟩
    rw [hm.out]
    go_wp2
    go_ret2
    exact ⟨rfl, rfl⟩
  · have hme : ((m : Int) == 0) = false := by simp; omega
    have hc0 : c < 0 := by omega
    clear hc hm0
    go_enter Try.func20, Try.ntmps20
    go_wp2_with fail
    refine (Shown_walk g base lv ws _ HH.out).mono ?_
    rintro e w' ⟨rfl, rfl⟩
    rw [hm.out]
    go_wp2
    go_ret2
    exact ⟨rfl, rfl⟩

theorem Hit_behind (g : Nat) (base : Int) (lv ws : List Int) (w : World) (c : Int) (h : IsLine w g base lv ws) (hc0 : 0 ≤ c) (hm1 : 0 < (ord lv).length) (hc : colAt ws (ord lv) (ord lv).length ≤ c) :
    Calls Try.prog 20 #[.pointer (some ⟨g, 0, none⟩), .int .i64 c] w fun e w' => e = .returned (.tuple #[.int .i64 ((ord lv).length : Nat), .int .u8 1]) ∧ Below w.heap.size w w' := by
  obtain ⟨n, m, aL, cL, aO, cO, aA, cA, bC, oC, cC, hn, hm, hM, hmn, hn2, iL, iO, iA, iC⟩ := h.open
  have HH := Lib.hid h; clear h
  have hme : ((m : Int) == 0) = false := by have := hm.out; simp; omega
  have hW := Lib.hid (Width_walk g base lv ws w HH.out)
  generalize colAt ws (ord lv) (ord lv).length = W at *
  clear hm1
  go_enter Try.func20, Try.ntmps20
  go_wp2_with fail
  refine (Shown_walk g base lv ws _ HH.out).mono ?_
  rintro e w' ⟨rfl, rfl⟩
  rw [hm.out]
  go_wp2_with fail
  refine hW.out.mono ?_
  rintro e w' ⟨rfl, d, rfl⟩
  go_wp2
  go_ret2
  exact ⟨by rw [hm.out]; rfl, below_drewN (Below.refl _ _) _⟩

def HitLe (ws o : List Int) (c : Int) (m : Nat) (v : Value) : Prop := ∃ k : Nat, k < m ∧ v = .int .i64 k ∧ colAt ws o k ≤ c

theorem Hit_in (g : Nat) (base : Int) (lv ws : List Int) (w : World) (c : Int) (h : IsLine w g base lv ws) (hc0 : 0 ≤ c) (hm1 : 0 < (ord lv).length) (hc : c < colAt ws (ord lv) (ord lv).length) :
    Calls Try.prog 20 #[.pointer (some ⟨g, 0, none⟩), .int .i64 c] w (HitPost ws (ord lv) c w) := by
  obtain ⟨n, m, aL, cL, aO, cO, aA, cA, bC, oC, cC, hn, hm, hM, hmn, hn2, iL, iO, iA, iC⟩ := h.open
  have HH := Lib.hid h
  have HR := Lib.hid (fun k => colAt_mono h.ok.range (ord lv) k)
  clear h
  have hm1' : 0 < m := by rw [← hm.out]; exact hm1
  have hme : ((m : Int) == 0) = false := by simp; omega
  have hW := Lib.hid (Width_walk g base lv ws w HH.out)
  have hcm : c < colAt ws (ord lv) m := by rw [← hm.out]; exact hc
  have HCm := Lib.hid hcm; clear hcm
  generalize colAt ws (ord lv) (ord lv).length = W at *
  clear hm1
  have k4 := hM.k4
  go_enter Try.func20, Try.ntmps20
  go_wp2_with fail
  refine (Shown_walk g base lv ws _ HH.out).mono ?_
  rintro e w' ⟨rfl, rfl⟩
  rw [hm.out]
  go_wp2_with fail
  refine hW.out.mono ?_
  rintro e w' ⟨rfl, d, rfl⟩
  go_wp2
  go_loop [7] (HitLe ws (ord lv) c m) (fun v => m - (intOf v).toNat)
  case atStart => exact ⟨0, hm1', rfl, by rw [colAt_zero]; exact hc0⟩
  case round =>
    obtain ⟨k, hk, rfl, hle⟩ := hrel
    have hk0 := iC.out.get k (by rw [colsL_length, hm.out]; omega)
    have hk1 := iC.out.get (k + 1) (by rw [colsL_length, hm.out]; omega)
    rw [colsL_get] at hk0 hk1
    have b0 := HR.out k
    have b1 := HR.out (k + 1)
    have HC0 : Hid (c < colAt ws (ord lv) (k + 1) → HitRes ws (ord lv) c (.tuple #[.int .i64 (k : Nat), .int .u8 2]) ∨ HitRes ws (ord lv) c (.tuple #[.int .i64 ((k + 1 : Nat) : Int), .int .u8 1])) := by
      refine Lib.hid (fun h => ?_)
      by_cases e : 2 * (c - colAt ws (ord lv) k) < colAt ws (ord lv) (k + 1) - colAt ws (ord lv) k
      · exact .inl ⟨k, by rw [hm.out]; exact hk, hle, h, .inl ⟨e, rfl⟩⟩
      · exact .inr ⟨k, by rw [hm.out]; exact hk, hle, h, .inr ⟨e, rfl⟩⟩
    clear HC0
    by_cases hgo : colAt ws (ord lv) (k + 1) ≤ c
    · have hkm : k + 1 < m := by
        by_cases e : k + 1 = m
        · have := HCm.out; rw [← e] at this; omega
        · omega
      have HG := Lib.hid hgo
      generalize hy : colAt ws (ord lv) (k + 1) = y at *
      have HY := Lib.hid hy; clear hy
      generalize colAt ws (ord lv) k = x at *
      have hk1' : (w.drewN d).cell? ⟨bC, oC + (k + 1), none⟩ = some (.int .i64 y) := by simpa using hk1
      go_wp2
      go_round
      case rel => exact ⟨k + 1, hkm, by go_num, by rw [HY.out]; exact HG.out⟩
      case measure => simp [intOf]; omega
    · have hlt : c < colAt ws (ord lv) (k + 1) := by omega
      have HV := Lib.hid (show ∀ r, (2 * (c - colAt ws (ord lv) k) < colAt ws (ord lv) (k + 1) - colAt ws (ord lv) k ∧ r = .tuple #[.int .i64 (k : Nat), .int .u8 2]) ∨ (¬ 2 * (c - colAt ws (ord lv) k) < colAt ws (ord lv) (k + 1) - colAt ws (ord lv) k ∧ r = .tuple #[.int .i64 ((k + 1 : Nat) : Int), .int .u8 1]) → HitRes ws (ord lv) c r from fun r hr => ⟨k, by rw [hm.out]; exact hk, hle, hlt, hr⟩)
      generalize colAt ws (ord lv) (k + 1) = y at *
      generalize colAt ws (ord lv) k = x at *
      clear hgo
      by_cases hnear : 2 * (c - x) < y - x
      · go_wp2
        go_quiet (fail)
        go_wp2
        go_ret2
        exact ⟨_, rfl, HV.out _ (.inl ⟨hnear, rfl⟩), by first | exact below_drewN (Below.refl _ _) _ | exact below_drewN (below_drewN (Below.refl _ _) _) _⟩
      · go_wp2
        go_quiet (fail)
        go_wp2
        go_ret2
        exact ⟨_, rfl, HV.out _ (.inr ⟨hnear, by go_num⟩), by first | exact below_drewN (Below.refl _ _) _ | exact below_drewN (below_drewN (Below.refl _ _) _) _⟩
end Go.Proofs.Ytnnfhldfdiaddaa
