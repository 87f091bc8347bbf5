/-
  The document's functions: 'At'.
-/
import Derived.Test.YtabbabkmojaoaaaWC
set_option linter.unusedVariables false
set_option linter.unusedSimpArgs false
namespace Go.Proofs.Ytabbabkmojaoaaa
open Go.RowKit
attribute [local go_sem] Oper.semAt_some

def AtR (m : Nat) (w2 : World) (iv : Value) (wr : World) : Prop := ∃ k : Nat, k ≤ m ∧ iv = .int .i64 (k : Nat) ∧ wr = w2
set_option maxRecDepth 100000 in
set_option maxHeartbeats 1600000 in
theorem refAt_walk (w : World) (fv : Value) (F : Nat → Int) (N : Nat) (hN : N = 1114112) (hf : FnAt w fv (runL F N)) (r : Int) (hr1 : -2147483648 ≤ r) (hr2 : r ≤ 2147483647) :
    Calls Try.prog 81 #[fv, .int .i32 r] w fun e w' => e = .returned (.int .i64 (F (runeR r))) ∧ Below w.heap.size w w' := by
  obtain ⟨aT, cT, aV, cV, rfl, hT, hV, -, -⟩ := hf
  obtain ⟨q, hq⟩ : ∃ q : Nat, q = runeR r := ⟨_, rfl⟩
  have hql : q ≤ 1114111 := by rw [hq]; exact runeR_le r
  rw [← hq]
  obtain ⟨A, x, B, k1, k2, k3, k4⟩ := runL_find F N q (by omega)
  have hle := runL_length F N
  have hlen : (runL F N).length = A.length + 1 + B.length := by rw [k1]; simp; omega
  have hAx : (runL F N)[A.length]? = some x := by rw [k1]; simp
  have hAj : ∀ j, j < A.length → ∃ y, (runL F N)[j]? = some y ∧ y.1 < (q : Int) := fun j hj => ⟨A[j], by rw [k1, List.getElem?_append_left hj, List.getElem?_eq_getElem hj], k2 _ (List.getElem_mem hj)⟩
  obtain ⟨n, hn⟩ : ∃ n, n = (runL F N).length := ⟨_, rfl⟩
  obtain ⟨m, hm⟩ : ∃ m, m = A.length := ⟨_, rfl⟩
  rw [← hn] at hlen hle ⊢
  rw [← hm] at hlen hAx hAj
  have HT := Lib.hid hT; have HV := Lib.hid hV; have HAx := Lib.hid hAx; have HAj := Lib.hid hAj; have HNn := Lib.hid hn; have HQ := Lib.hid hq
  have HK := Lib.hid (And.intro k3 k4)
  have HSz := Lib.hid (show m < n ∧ n ≤ 1114112 by omega)
  clear hT hV hAx hAj hn hq k1 k2 k3 k4 hlen hle hm
  have HA := Lib.hid (heap_alloc_new w (.cells #[.slice aT n cT, .slice aV n cV] 63))
  have HB := Lib.hid ((Below.refl _ w).alloc (Nat.le_refl _) (.cells #[.slice aT n cT, .slice aV n cV] 63))
  go_enter Try.func81, Try.ntmps81
  go_upto_region 1 with (fail)
  generalize w.alloc (.cells #[.slice aT n cT, .slice aV n cV] 63) = w2 at *
  obtain ⟨b0, hb0⟩ : ∃ b0, b0 = w.heap.size := ⟨_, rfl⟩
  rw [← hb0] at HA ⊢
  have q0 := cell_of_row w2 b0 0 _ _ (0, 0) HA.out
  have q1 := cell_of_row w2 b0 1 _ _ (0, 0) HA.out
  simp at q0 q1
  have HBz := Lib.hid hb0; clear hb0
  have HT2 := Lib.hid (HT.out.below HB.out (Nat.le_refl _)); have HV2 := Lib.hid (HV.out.below HB.out (Nat.le_refl _))
  have hcs : r < 0 ∧ q = 65533 ∨ (¬ r < 0 ∧ 1114111 < r) ∧ q = 65533 ∨ (¬ r < 0 ∧ ¬ 1114111 < r) ∧ (q : Int) = r := by
    rw [HQ.out]
    unfold runeR
    by_cases h : r < 0 ∨ 1114111 < r
    · rw [if_pos h]; omega
    · rw [if_neg h]; omega
  rcases hcs with ⟨h1, h2⟩ | ⟨⟨h0, h1⟩, h2⟩ | ⟨⟨h0, h1⟩, h2⟩
  · have h3 : (65533 : Int) = (q : Int) := by omega
    clear h2
    go_upto_region 3 with (fail)
    rw [h3]
    clear h3
    clear HQ
    go_wp2
    go_loopw [5] (AtR m w2) (fun i _ => m + 1 - (intOf i).toNat)
    case atStart => exact ⟨0, Nat.zero_le _, rfl, rfl⟩
    case round =>
      obtain ⟨k, hk, rfl, rfl⟩ := hrel
      obtain ⟨hmn, hn2⟩ := HSz.out
      have hki : (k : Int) < (n : Int) := by omega
      have hkT : k < ((runL F N).map (·.1)).length := by rw [List.length_map, ← HNn.out]; omega
      have hkV : k < ((runL F N).map (·.2)).length := by rw [List.length_map, ← HNn.out]; omega
      obtain ⟨bT, oT, haT⟩ := HT2.out.some (by omega)
      obtain ⟨bV, oV, haV⟩ := HV2.out.some (by omega)
      subst haT haV
      have c1 := HT2.out.get k hkT
      have c2 := HV2.out.get k hkV
      by_cases hkm : k < m
      · obtain ⟨y, hy, hlt⟩ := HAj.out k hkm
        have e1 : ((runL F N).map (·.1))[k] = y.1 := by simp only [List.getElem_map]; rw [(List.getElem?_eq_some_iff.1 hy).2]
        rw [e1] at c1
        have hnle : ¬ (q : Int) ≤ y.1 := by omega
        clear hkT hkV c2 e1 hy
        go_wp2
        go_roundw
        case rel => exact ⟨k + 1, by omega, by go_num, rfl⟩
        case measure => simp [intOf]; omega
      · obtain rfl : k = m := by omega
        have e1 : ((runL F N).map (·.1))[k] = x.1 := by simp only [List.getElem_map]; rw [(List.getElem?_eq_some_iff.1 HAx.out).2]
        have e2 : ((runL F N).map (·.2))[k] = x.2 := by simp only [List.getElem_map]; rw [(List.getElem?_eq_some_iff.1 HAx.out).2]
        rw [e1] at c1
        rw [e2, HK.out.2] at c2
        have hle := HK.out.1
        clear hkT hkV e1 e2
        go_wp2
        go_ret
        exact ⟨rfl, HB.out⟩
  · have h3 : (65533 : Int) = (q : Int) := by omega
    clear h2
    go_upto_region 3 with (fail)
    rw [h3]
    clear h3
    clear HQ
    go_wp2
    go_loopw [5] (AtR m w2) (fun i _ => m + 1 - (intOf i).toNat)
    case atStart => exact ⟨0, Nat.zero_le _, rfl, rfl⟩
    case round =>
      obtain ⟨k, hk, rfl, rfl⟩ := hrel
      obtain ⟨hmn, hn2⟩ := HSz.out
      have hki : (k : Int) < (n : Int) := by omega
      have hkT : k < ((runL F N).map (·.1)).length := by rw [List.length_map, ← HNn.out]; omega
      have hkV : k < ((runL F N).map (·.2)).length := by rw [List.length_map, ← HNn.out]; omega
      obtain ⟨bT, oT, haT⟩ := HT2.out.some (by omega)
      obtain ⟨bV, oV, haV⟩ := HV2.out.some (by omega)
      subst haT haV
      have c1 := HT2.out.get k hkT
      have c2 := HV2.out.get k hkV
      by_cases hkm : k < m
      · obtain ⟨y, hy, hlt⟩ := HAj.out k hkm
        have e1 : ((runL F N).map (·.1))[k] = y.1 := by simp only [List.getElem_map]; rw [(List.getElem?_eq_some_iff.1 hy).2]
        rw [e1] at c1
        have hnle : ¬ (q : Int) ≤ y.1 := by omega
        clear hkT hkV c2 e1 hy
        go_wp2
        go_roundw
        case rel => exact ⟨k + 1, by omega, by go_num, rfl⟩
        case measure => simp [intOf]; omega
      · obtain rfl : k = m := by omega
        have e1 : ((runL F N).map (·.1))[k] = x.1 := by simp only [List.getElem_map]; rw [(List.getElem?_eq_some_iff.1 HAx.out).2]
        have e2 : ((runL F N).map (·.2))[k] = x.2 := by simp only [List.getElem_map]; rw [(List.getElem?_eq_some_iff.1 HAx.out).2]
        rw [e1] at c1
        rw [e2, HK.out.2] at c2
        have hle := HK.out.1
        clear hkT hkV e1 e2
        go_wp2
        go_ret
        exact ⟨rfl, HB.out⟩
  · go_upto_region 3 with (fail)
    rw [← h2]
    clear h2
    clear HQ
    go_wp2
    go_loopw [5] (AtR m w2) (fun i _ => m + 1 - (intOf i).toNat)
    case atStart => exact ⟨0, Nat.zero_le _, rfl, rfl⟩
    case round =>
      obtain ⟨k, hk, rfl, rfl⟩ := hrel
      obtain ⟨hmn, hn2⟩ := HSz.out
      have hki : (k : Int) < (n : Int) := by omega
      have hkT : k < ((runL F N).map (·.1)).length := by rw [List.length_map, ← HNn.out]; omega
      have hkV : k < ((runL F N).map (·.2)).length := by rw [List.length_map, ← HNn.out]; omega
      obtain ⟨bT, oT, haT⟩ := HT2.out.some (by omega)
      obtain ⟨bV, oV, haV⟩ := HV2.out.some (by omega)
      subst haT haV
      have c1 := HT2.out.get k hkT
      have c2 := HV2.out.get k hkV
      by_cases hkm : k < m
      · obtain ⟨y, hy, hlt⟩ := HAj.out k hkm
        have e1 : ((runL F N).map (·.1))[k] = y.1 := by simp only [List.getElem_map]; rw [(List.getElem?_eq_some_iff.1 hy).2]
        rw [e1] at c1
        have hnle : ¬ (q : Int) ≤ y.1 := by omega
        clear hkT hkV c2 e1 hy
        go_wp2
        go_roundw
        case rel => exact ⟨k + 1, by omega, by go_num, rfl⟩
        case measure => simp [intOf]; omega
      · obtain rfl : k = m := by omega
        have e1 : ((runL F N).map (·.1))[k] = x.1 := by simp only [List.getElem_map]; rw [(List.getElem?_eq_some_iff.1 HAx.out).2]
        have e2 : ((runL F N).map (·.2))[k] = x.2 := by simp only [List.getElem_map]; rw [(List.getElem?_eq_some_iff.1 HAx.out).2]
        rw [e1] at c1
        rw [e2, HK.out.2] at c2
        have hle := HK.out.1
        clear hkT hkV e1 e2
        go_wp2
        go_ret
        exact ⟨rfl, HB.out⟩
end Go.Proofs.Ytabbabkmojaoaaa
