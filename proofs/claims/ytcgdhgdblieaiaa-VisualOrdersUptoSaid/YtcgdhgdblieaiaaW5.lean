/-
  The walk of VisualTwice.
-/
import Derived.Test.YtcgdhgdblieaiaaW4
import Derived.Test.YtcgdhgdblieaiaaP2
namespace Go.Proofs.Ytcgdhgdblieaiaa
open Go.RowKit

theorem shownL_ok (zs : List Int) (h : okL zs = true) : ∀ x ∈ shownL zs, 0 ≤ x ∧ x ≤ 126 := by
  intro x hx
  unfold shownL at hx
  rw [List.mem_filter] at hx
  obtain ⟨i, hi, rfl⟩ := List.getElem_of_mem hx.1
  have := okL_get zs h i hi
  simp at hx
  omega
theorem okL_of (zs : List Int) (h : ∀ x ∈ zs, 0 ≤ x ∧ x ≤ 126) : okL zs = true := by
  unfold okL
  rw [List.all_eq_true]
  intro x hx
  have := h x hx
  simp; omega

theorem below_seq {w w1 w2 : World} (h1 : Below w.heap.size w w1) (h2 : Below w1.heap.size w1 w2) : Below w.heap.size w w2 := h1.trans (h2.mono h1.size)

set_option maxHeartbeats 1000000 in
theorem twice_walk (a : Option Addr) (n cap : Nat) (zs : List Int) (w : World) (hn : zs.length = n) (hm : n ≤ 9223372036854775807) (hc : Ints .i8 w a zs) :
    Calls Try.prog 3 #[.slice a n cap] w fun e w' => e = .returned (.bool true) ∧ Below w.heap.size w w' := by
  have HN := Lib.hid hn; clear hn
  by_cases hok : (okL zs && decide (n ≤ 65536)) = true
  · have HC := Lib.hid hok
    rw [Bool.and_eq_true, decide_eq_true_eq] at hok
    obtain ⟨hk, h65⟩ := hok
    have HK := Lib.hid hk; clear hk
    go_enter Try.func3, Try.ntmps3
    go_wp2_with fail
    refine (lmay_walk a n cap zs _ HN.out hm hc).mono ?_
    rintro e w' ⟨rfl, rfl⟩
    rw [HC.out]
    go_wp2_with fail
    refine (lives_walk _).mono ?_
    rintro e w1 ⟨rfl, hb1⟩
    have hc1 := hc.below hb1 (Nat.le_refl _)
    have HB1 := Lib.hid hb1; clear hb1
    go_wp2_with fail
    refine (shown_walk a n cap zs _ HN.out (by omega) hc1).mono ?_
    rintro e w2 ⟨a2, n2, cap2, rfl, hown2, hb2⟩
    have hl2 : n2 ≤ n := by have := hown2.lenI; have := shownL_le zs; have := HN.out; omega
    have hl2' := Lib.hid hown2.lenI
    have HO2 := Lib.hid hown2; clear hown2
    have HB2 := Lib.hid (below_seq HB1.out hb2); clear hb2 HB1
    have HLk := Lib.hid (shownL_ok zs HK.out)
    have HLo := Lib.hid (okL_of _ HLk.out)
    go_wp2_with fail
    refine (Order_walk a2 n2 cap2 (shownL zs) _ hl2'.out (by omega) HLo.out HO2.out.ints).mono ?_
    rintro e w3 ⟨a3, n3, cap3, rfl, hown3, hb3⟩
    have HO3 := Lib.hid hown3; clear hown3
    have HB3 := Lib.hid hb3; clear hb3
    go_wp2_with fail
    refine (TurnLevel_walk a2 a2 cap2 n2 cap2 (shownL zs) (shownL zs) _ hl2'.out hl2'.out (by omega) HLo.out (HO2.out.ints.below HB3.out (Nat.le_refl _)) (HO2.out.ints.below HB3.out (Nat.le_refl _))).mono ?_
    rintro e w4 ⟨a4, n4, cap4, rfl, hown4, hb4⟩
    have HO4 := Lib.hid hown4; clear hown4
    have HB4 := Lib.hid hb4; clear hb4
    have hlo : (ord (shownL zs)).length = n2 := by
      rw [ord_length, shownIdx_all _ (fun x hx => by have := HLk.out x hx; omega)]
      simp [hl2'.out]
    obtain rfl : n2 = n3 := by have := HO3.out.lenI; omega
    obtain rfl : n2 = n4 := by have := HO4.out.lenI; rw [pickL_length] at this; omega
    have hnn : ((n2 : Int) != (n2 : Int)) = false := by simp
    have HLO := Lib.hid hlo; clear hlo
    obtain ⟨M, hM⟩ : ∃ M, M = pickL (shownL zs) (ord (shownL zs)) := ⟨_, rfl⟩
    rw [← hM] at HO4
    have HM := Lib.hid hM; clear hM
    have HMk : ∀ x ∈ M, 0 ≤ x ∧ x ≤ 126 := by
      rw [HM.out]
      intro x hx
      unfold pickL at hx
      rw [List.mem_map] at hx
      obtain ⟨i, hi, rfl⟩ := hx
      rw [mem_ord] at hi
      simp only [List.getD_eq_getElem?_getD, List.getElem?_eq_getElem (show i.toNat < (shownL zs).length by omega), Option.getD_some]
      exact HLk.out _ (List.getElem_mem _)
    have HMo := Lib.hid (okL_of _ HMk)
    have hMl := Lib.hid HO4.out.lenI
    have hlo : (ord M).length = n2 := by
      rw [ord_length, shownIdx_all _ (fun x hx => by have := HMk x hx; omega)]
      simp [hMl.out]
    have HMO := Lib.hid hlo; clear hlo HMk
    go_wp2_with fail
    refine (Order_walk a4 n2 cap4 M _ hMl.out (by omega) HMo.out HO4.out.ints).mono ?_
    rintro e w5 ⟨a5, n5, cap5, rfl, hown5, hb5⟩
    obtain rfl : n2 = n5 := by have := hown5.lenI; have := HMO.out; omega
    have HO5 := Lib.hid hown5; clear hown5
    have HB5 := Lib.hid hb5; clear hb5
    have HI3 := Lib.hid ((HO3.out.ints.below HB4.out (Nat.le_refl _)).below HB5.out (Nat.le_refl _))
    have HT := Lib.hid (twice_at (shownL zs) HLk.out M HM.out)
    have HB := Lib.hid (below_seq HB2.out (below_seq HB3.out (below_seq HB4.out HB5.out)))
    go_wp2
    go_loop [10] (fun i => ∃ k : Nat, k ≤ n2 ∧ i = .int .i64 k) (fun i => n2 - (intOf i).toNat)
    case atStart => exact ⟨0, Nat.zero_le _, rfl⟩
    case round =>
      obtain ⟨k, hk, rfl⟩ := hrel
      by_cases hlt : k < n2
      · obtain ⟨j, hj1, hj2, hj3⟩ := HT.out k (by rw [HMO.out]; exact hlt)
        obtain ⟨g5, ha, _⟩ := HO5.out.at (by omega)
        subst ha
        obtain ⟨g3, ha, _⟩ := HO3.out.at (by omega)
        subst ha
        have c5 := HO5.out.ints.get k (by rw [HMO.out]; exact hlt)
        have c3 := HI3.out.get j hj2
        rw [hj1] at c5
        rw [hj3] at c3
        simp only [Nat.zero_add] at c5 c3
        have hjn : j < n2 := by have := HLO.out; omega
        have hkk : ((k : Int) != (k : Int)) = false := by simp
        clear hj1 hj3 hj2
        go_wp2
        go_round
        case rel => exact ⟨k + 1, by omega, by go_num⟩
        case measure => simp [intOf]; omega
      · go_wp2
        go_ret
        exact ⟨rfl, HB.out⟩
  · have hf : (okL zs && decide (n ≤ 65536)) = false := by simpa using hok
    have HC := Lib.hid hf; clear hf hok
    go_enter Try.func3, Try.ntmps3
    go_wp2_with fail
    refine (lmay_walk a n cap zs _ HN.out hm hc).mono ?_
    rintro e w' ⟨rfl, rfl⟩
    rw [HC.out]
    go_wp2_with fail
    refine (lives_walk _).mono ?_
    rintro e w1 ⟨rfl, hb1⟩
    go_wp2
    go_ret
    exact ⟨rfl, hb1⟩
end Go.Proofs.Ytcgdhgdblieaiaa
