/-
  A question, held against the document's answer: columns, steps to either side, how long the line is.
-/
import Derived.Test.YtnnfhldfdiaddaaX13
set_option linter.unusedVariables false
namespace Go.Proofs.Ytnnfhldfdiaddaa
open Go.RowKit

set_option maxRecDepth 100000 in
set_option maxHeartbeats 4000000 in
theorem asked_2 (g gr : Nat) (base : Int) (lv ws : List Int) (a ed : Int) (w : World) (hl : IsLine w g base lv ws) (hr : IsRef w gr base lv ws) : Calls Try.prog 26 #[.pointer (some ⟨g, 0, none⟩), .pointer (some ⟨gr, 0, none⟩), .agg #[.int .i64 2, .int .i64 a, .int .u8 ed]] w (AskPost w) := by
  have HC0 := Lib.hid (AskC.new 2 a ed hl hr)
  obtain ⟨n, m, aL, cL, aW, cW, aO, cO, aA, cA, hn, hn2, hm, hM, hmn, hn3, iL, iW, iO, iA⟩ := (HC0.out.hr).open
  have k3 := hM.k3
  have hgr := hr.lt
  clear hl hr
  by_cases ha : a < 0 ∨ (m : Int) < a
  · have HA : Hid (a < 0 ∨ ((ord lv).length : Int) < a) := Lib.hid (by rw [hm.out]; exact ha)
    rcases (show a < 0 ∨ (¬ a < 0 ∧ (m : Int) < a) by omega) with h1 | ⟨h1, h2⟩
    · have d1 : decide (a < 0) = true := decide_eq_true h1
      clear ha
      go_enter Try.func26, Try.ntmps26
      go_wp2_with fail
      refine (Column_no g base lv ws _ a HC0.out.hl HA.out).mono ?_
      rintro e w1 ⟨rfl, rfl⟩
      go_wp2
      go_quiet (fail)
      go_wp2
      go_ret
      exact ⟨rfl, below_drewN HC0.out.bel _⟩
    · have d1 : decide (a < 0) = false := decide_eq_false h1
      have d2 : decide ((m : Int) < a) = true := decide_eq_true h2
      clear ha
      go_enter Try.func26, Try.ntmps26
      go_wp2_with fail
      refine (Column_no g base lv ws _ a HC0.out.hl HA.out).mono ?_
      rintro e w1 ⟨rfl, rfl⟩
      go_wp2
      go_quiet (fail)
      go_wp2
      go_ret
      exact ⟨rfl, below_drewN HC0.out.bel _⟩
  · obtain ⟨k, rfl⟩ := Int.eq_ofNat_of_zero_le (show 0 ≤ a by omega)
    have HA := Lib.hid (show k ≤ (ord lv).length by rw [hm.out]; omega)
    have d1 : decide ((k : Int) < 0) = false := decide_eq_false (by omega)
    have d2 : decide (m < k) = false := decide_eq_false (by omega)
    clear ha
    go_enter Try.func26, Try.ntmps26
    go_wp2_with fail
    refine (Column_walk g base lv ws _ k HC0.out.hl HA.out).mono ?_
    rintro e w1 ⟨rfl, rfl⟩
    go_wp2
    go_quiet (fail)
    go_wp2_with fail
    refine (rColumn_walk gr base lv ws k _ (HC0.out.next (below_drewN (Below.refl _ _) _)).hr HA.out).mono ?_
    rintro e w2 ⟨rfl, d, rfl⟩
    generalize colAt ws (ord lv) k = x at *
    go_wp2
    go_ret
    exact ⟨rfl, by first | exact below_drewN HC0.out.bel _ | exact below_drewN (below_drewN HC0.out.bel _) _⟩

set_option maxRecDepth 100000 in
set_option maxHeartbeats 4000000 in
theorem asked_4 (g gr : Nat) (base : Int) (lv ws : List Int) (a ed : Int) (w : World) (hl : IsLine w g base lv ws) (hr : IsRef w gr base lv ws) : Calls Try.prog 26 #[.pointer (some ⟨g, 0, none⟩), .pointer (some ⟨gr, 0, none⟩), .agg #[.int .i64 4, .int .i64 a, .int .u8 ed]] w (AskPost w) := by
  have HC0 := Lib.hid (AskC.new 4 a ed hl hr)
  obtain ⟨n, m, aL, cL, aW, cW, aO, cO, aA, cA, hn, hn2, hm, hM, hmn, hn3, iL, iW, iO, iA⟩ := (HC0.out.hr).open
  have k3 := hM.k3
  have hgr := hr.lt
  obtain ⟨v, b, hR, hRv⟩ := Right_is g base lv ws w a hl
  obtain ⟨y, c, hL, hLv⟩ := Left_is g base lv ws w a hl
  have HR := Lib.hid hR; clear hR
  have HL := Lib.hid hL; clear hL
  rw [hm.out] at hRv hLv
  clear hl hr
  rcases hRv with ⟨rfl, h1, h2, rfl⟩ | ⟨rfl, h1, rfl⟩
  · rcases hLv with ⟨rfl, h3, h4, rfl⟩ | ⟨rfl, h3, rfl⟩
    · skip
      have d1 : decide (0 ≤ a) = true := decide_eq_true (by omega)
      have i1 : 0 ≤ a := by omega
      have d2 : decide (a < (m : Int)) = true := decide_eq_true (by omega)
      have i2 : a < (m : Int) := by omega
      have d3 : decide (1 ≤ a) = true := decide_eq_true (by omega)
      have i3 : 1 ≤ a := by omega
      have d4 : decide (a ≤ (m : Int)) = true := decide_eq_true (by omega)
      have i4 : a ≤ (m : Int) := by omega
      clear h1 h3 h2 h4
      go_enter Try.func26, Try.ntmps26
      go_wp2_with fail
      refine (HR.out _ HC0.out.hl).mono ?_
      rintro e w1 ⟨rfl, rfl⟩
      go_wp2_with fail
      refine (HL.out _ HC0.out.hl).mono ?_
      rintro e w1 ⟨rfl, rfl⟩
      go_wp2
      go_quiet (fail)
      go_wp2
      go_quiet (fail)
      go_wp2
      go_ret
      exact ⟨rfl, by first | exact below_drewN HC0.out.bel _ | exact below_drewN (below_drewN HC0.out.bel _) _⟩
    · skip
      have d1 : decide (0 ≤ a) = true := decide_eq_true (by omega)
      have i1 : 0 ≤ a := by omega
      have d2 : decide (a < (m : Int)) = true := decide_eq_true (by omega)
      have i2 : a < (m : Int) := by omega
      have d3 : decide (1 ≤ a) = false := decide_eq_false (by omega)
      have i3 : a < 1 := by omega
      clear h1 h3 h2
      go_enter Try.func26, Try.ntmps26
      go_wp2_with fail
      refine (HR.out _ HC0.out.hl).mono ?_
      rintro e w1 ⟨rfl, rfl⟩
      go_wp2_with fail
      refine (HL.out _ HC0.out.hl).mono ?_
      rintro e w1 ⟨rfl, rfl⟩
      go_wp2
      go_quiet (fail)
      go_wp2
      go_quiet (fail)
      go_wp2
      go_ret
      exact ⟨rfl, by first | exact below_drewN HC0.out.bel _ | exact below_drewN (below_drewN HC0.out.bel _) _⟩
  · rcases hLv with ⟨rfl, h3, h4, rfl⟩ | ⟨rfl, h3, rfl⟩
    · skip
      have d1 : decide (0 ≤ a) = true := decide_eq_true (by omega)
      have i1 : 0 ≤ a := by omega
      have d2 : decide (a < (m : Int)) = false := decide_eq_false (by omega)
      have i2 : (m : Int) ≤ a := by omega
      have d3 : decide (1 ≤ a) = true := decide_eq_true (by omega)
      have i3 : 1 ≤ a := by omega
      have d4 : decide (a ≤ (m : Int)) = true := decide_eq_true (by omega)
      have i4 : a ≤ (m : Int) := by omega
      clear h1 h3 h4
      go_enter Try.func26, Try.ntmps26
      go_wp2_with fail
      refine (HR.out _ HC0.out.hl).mono ?_
      rintro e w1 ⟨rfl, rfl⟩
      go_wp2_with fail
      refine (HL.out _ HC0.out.hl).mono ?_
      rintro e w1 ⟨rfl, rfl⟩
      go_wp2
      go_quiet (fail)
      go_wp2
      go_quiet (fail)
      go_wp2
      go_ret
      exact ⟨rfl, by first | exact below_drewN HC0.out.bel _ | exact below_drewN (below_drewN HC0.out.bel _) _⟩
    · rcases (show a < 0 ∨ a = 0 ∨ (1 ≤ a ∧ (m : Int) < a) by omega) with h5 | h5 | ⟨h5, h6⟩
      · skip
        have d1 : decide (0 ≤ a) = false := decide_eq_false (by omega)
        have i1 : a < 0 := by omega
        have d3 : decide (1 ≤ a) = false := decide_eq_false (by omega)
        have i3 : a < 1 := by omega
        clear h1 h3 h5
        go_enter Try.func26, Try.ntmps26
        go_wp2_with fail
        refine (HR.out _ HC0.out.hl).mono ?_
        rintro e w1 ⟨rfl, rfl⟩
        go_wp2_with fail
        refine (HL.out _ HC0.out.hl).mono ?_
        rintro e w1 ⟨rfl, rfl⟩
        go_wp2
        go_quiet (fail)
        go_wp2
        go_quiet (fail)
        go_wp2
        go_ret
        exact ⟨rfl, by first | exact below_drewN HC0.out.bel _ | exact below_drewN (below_drewN HC0.out.bel _) _⟩
      · have hm0 : m = 0 := by omega
        have d1 : decide (0 ≤ a) = true := decide_eq_true (by omega)
        have i1 : 0 ≤ a := by omega
        have d2 : decide (a < (m : Int)) = false := decide_eq_false (by omega)
        have i2 : (m : Int) ≤ a := by omega
        have d3 : decide (1 ≤ a) = false := decide_eq_false (by omega)
        have i3 : a < 1 := by omega
        clear h1 h3 h5
        go_enter Try.func26, Try.ntmps26
        go_wp2_with fail
        refine (HR.out _ HC0.out.hl).mono ?_
        rintro e w1 ⟨rfl, rfl⟩
        go_wp2_with fail
        refine (HL.out _ HC0.out.hl).mono ?_
        rintro e w1 ⟨rfl, rfl⟩
        go_wp2
        go_quiet (fail)
        go_wp2
        go_quiet (fail)
        go_wp2
        go_ret
        exact ⟨rfl, by first | exact below_drewN HC0.out.bel _ | exact below_drewN (below_drewN HC0.out.bel _) _⟩
      · skip
        have d1 : decide (0 ≤ a) = true := decide_eq_true (by omega)
        have i1 : 0 ≤ a := by omega
        have d2 : decide (a < (m : Int)) = false := decide_eq_false (by omega)
        have i2 : (m : Int) ≤ a := by omega
        have d3 : decide (1 ≤ a) = true := decide_eq_true (by omega)
        have i3 : 1 ≤ a := by omega
        have d4 : decide (a ≤ (m : Int)) = false := decide_eq_false (by omega)
        have i4 : (m : Int) < a := by omega
        clear h1 h3 h5 h6
        go_enter Try.func26, Try.ntmps26
        go_wp2_with fail
        refine (HR.out _ HC0.out.hl).mono ?_
        rintro e w1 ⟨rfl, rfl⟩
        go_wp2_with fail
        refine (HL.out _ HC0.out.hl).mono ?_
        rintro e w1 ⟨rfl, rfl⟩
        go_wp2
        go_quiet (fail)
        go_wp2
        go_quiet (fail)
        go_wp2
        go_ret
        exact ⟨rfl, by first | exact below_drewN HC0.out.bel _ | exact below_drewN (below_drewN HC0.out.bel _) _⟩

set_option maxRecDepth 100000 in
set_option maxHeartbeats 4000000 in
theorem asked_else (g gr : Nat) (base : Int) (lv ws : List Int) (a ed : Int) (w : World) (hl : IsLine w g base lv ws) (hr : IsRef w gr base lv ws) (d : Int) (hd : d < 0 ∨ 6 < d) : Calls Try.prog 26 #[.pointer (some ⟨g, 0, none⟩), .pointer (some ⟨gr, 0, none⟩), .agg #[.int .i64 d, .int .i64 a, .int .u8 ed]] w (AskPost w) := by
  have HC0 := Lib.hid (AskC.new d a ed hl hr)
  obtain ⟨n, m, aL, cL, aW, cW, aO, cO, aA, cA, hn, hn2, hm, hM, hmn, hn3, iL, iW, iO, iA⟩ := (HC0.out.hr).open
  have k1 := hM.k1
  have k3 := hM.k3
  have hgr := hr.lt
  have e0 : (d == 0) = false := by simp; omega
  have e1 : (d == 1) = false := by simp; omega
  have e2 : (d == 2) = false := by simp; omega
  have e3 : (d == 3) = false := by simp; omega
  have e4 : (d == 4) = false := by simp; omega
  have e5 : (d == 5) = false := by simp; omega
  have e6 : (d == 6) = false := by simp; omega
  have q1 := Lib.hid (fun W (hW : IsLine W g base lv ws) => Len_walk g base lv ws W hW)
  have q2 := Lib.hid (fun W (hW : IsLine W g base lv ws) => Shown_walk g base lv ws W hW)
  have q3 := Lib.hid (fun W (hW : IsLine W g base lv ws) => Width_walk g base lv ws W hW)
  have q4 := Lib.hid (fun W (hW : IsRef W gr base lv ws) => rColumn_walk gr base lv ws m W hW (by rw [hm.out]; exact Nat.le_refl _))
  rw [hn.out] at q1
  rw [hm.out] at q2 q3
  generalize colAt ws (ord lv) m = x at *
  clear hl hr hd
  go_enter Try.func26, Try.ntmps26
  go_wp2
  go_quiet ((first
    | (go_at_call 16; exact quiet_left (q1.out _ (HC0.out.next (below_drewN (Below.refl _ _) _)).hl))
    | (go_at_call 13; exact quiet_left (q2.out _ (HC0.out.next (below_drewN (Below.refl _ _) _)).hl))
    | (go_at_call 19; exact Calls.quiet_of (q3.out _ (HC0.out.next (below_drewN (Below.refl _ _) _)).hl))
    | (go_at_call 43; exact Calls.quiet_of (q4.out _ (HC0.out.next (below_drewN (Below.refl _ _) _)).hr))))
  go_wp2
  go_ret
  exact ⟨rfl, by first | exact below_drewN HC0.out.bel _ | exact below_drewN (below_drewN HC0.out.bel _) _⟩

theorem asked_walk (g gr : Nat) (base : Int) (lv ws : List Int) (a ed : Int) (w : World) (hl : IsLine w g base lv ws) (hr : IsRef w gr base lv ws) (d : Int) (ha : -9223372036854775808 ≤ a ∧ a ≤ 9223372036854775807) : Calls Try.prog 26 #[.pointer (some ⟨g, 0, none⟩), .pointer (some ⟨gr, 0, none⟩), .agg #[.int .i64 d, .int .i64 a, .int .u8 ed]] w (AskPost w) := by
  by_cases hd : d < 0 ∨ 6 < d
  · exact asked_else g gr base lv ws a ed w hl hr d hd
  · have : d = 0 ∨ d = 1 ∨ d = 2 ∨ d = 3 ∨ d = 4 ∨ d = 5 ∨ d = 6 := by omega
    rcases this with rfl | rfl | rfl | rfl | rfl | rfl | rfl
    · exact asked_0 g gr base lv ws a ed w hl hr
    · exact asked_1 g gr base lv ws a ed w hl hr
    · exact asked_2 g gr base lv ws a ed w hl hr
    · exact asked_3 g gr base lv ws a ed w hl hr
    · exact asked_4 g gr base lv ws a ed w hl hr
    · exact asked_5 g gr base lv ws a ed w hl hr
    · exact asked_6 g gr base lv ws a ed w hl hr ha
end Go.Proofs.Ytnnfhldfdiaddaa
