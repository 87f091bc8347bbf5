/- several texts in one: WC WD WE -/
import Derived.Test.YtabbabkmojaoaaaWB
set_option linter.unusedVariables false
set_option linter.unusedSimpArgs false
/-
  The document's functions: plain laws of runs (what is found at a number).
-/
namespace Go.Proofs.Ytabbabkmojaoaaa

theorem withL_form (L : List (Int × Int)) (t v : Int) : (∃ x, L = L.dropLast ++ [x] ∧ x.2 = v ∧ withL L t v = L.dropLast ++ [(t, v)]) ∨ withL L t v = L ++ [(t, v)] := by
  unfold withL
  cases h : L.getLast? with
  | none => exact .inr (by rw [List.getLast?_eq_none_iff.1 h]; rfl)
  | some x =>
    simp only
    by_cases e : x.2 = v
    · rw [if_pos e]
      obtain ⟨hne, e2⟩ := List.getLast?_eq_some_iff.1 h
      exact .inl ⟨x, by rw [e2]; simp, e, rfl⟩
    · rw [if_neg e]; exact .inr rfl
/-- the ends of the runs lie ahead of n -/
theorem runL_lt (F : Nat → Int) : ∀ n, ∀ x ∈ runL F n, x.1 < (n : Int)
  | 0, x, h => by simp [runL] at h
  | n + 1, x, h => by
    have ih := runL_lt F n
    rw [runL] at h
    rcases withL_form (runL F n) (n : Nat) (F n) with ⟨y, h1, h2, h3⟩ | h3
    · rw [h3] at h
      rcases List.mem_append.1 h with h | h
      · have := ih x (List.dropLast_subset _ h); omega
      · rw [List.mem_singleton.1 h]; simp only; omega
    · rw [h3] at h
      rcases List.mem_append.1 h with h | h
      · have := ih x h; omega
      · rw [List.mem_singleton.1 h]; simp only; omega
/-- what is found at r: the first run that ends at r or behind it -/
theorem runL_find (F : Nat → Int) : ∀ n r, r < n → ∃ A x B, runL F n = A ++ x :: B ∧ (∀ y ∈ A, y.1 < (r : Int)) ∧ (r : Int) ≤ x.1 ∧ x.2 = F r
  | 0, r, h => absurd h (Nat.not_lt_zero _)
  | n + 1, r, h => by
    have ih := runL_find F n
    have hlt := runL_lt F n
    rw [runL]
    rcases withL_form (runL F n) (n : Nat) (F n) with ⟨y, h1, h2, h3⟩ | h3
    · rw [h3]
      by_cases e : r = n
      · subst e
        exact ⟨_, (_, _), [], rfl, fun z hz => hlt z (List.dropLast_subset _ hz), Int.le_refl _, rfl⟩
      · obtain ⟨A, x, B, k1, k2, k3, k4⟩ := ih r (by omega)
        rw [h1] at k1
        rcases List.append_eq_append_iff.1 k1 with ⟨C, e1, e2⟩ | ⟨C, e1, e2⟩
        · cases C with
          | nil =>
            rw [List.nil_append] at e2
            have : y = x := by simpa using (List.cons.inj e2).1
            subst this
            refine ⟨A, ((n : Int), F n), [], ?_, k2, by simp only; omega, by simp only; rw [← h2, k4]⟩
            rw [e1]; simp
          | cons z C =>
            have := congrArg List.length e2
            simp at this
        · cases C with
          | nil =>
            rw [List.nil_append] at e2
            have : x = y := by simpa using (List.cons.inj e2).1
            subst this
            refine ⟨A, ((n : Int), F n), [], ?_, k2, by simp only; omega, by simp only; rw [← h2, k4]⟩
            rw [e1]; simp
          | cons z C =>
            obtain ⟨e3, e4⟩ := List.cons.inj e2
            subst e3
            exact ⟨A, x, C ++ [((n : Int), F n)], by rw [e1]; simp, k2, k3, k4⟩
    · rw [h3]
      by_cases e : r = n
      · subst e
        exact ⟨_, (_, _), [], rfl, hlt, Int.le_refl _, rfl⟩
      · obtain ⟨A, x, B, k1, k2, k3, k4⟩ := ih r (by omega)
        exact ⟨A, x, B ++ [((n : Int), F n)], by rw [k1]; simp, k2, k3, k4⟩
end Go.Proofs.Ytabbabkmojaoaaa

/-
  The document's functions: 'At'.
-/
namespace Go.Proofs.Ytabbabkmojaoaaa
open Go.RowKit
attribute [local go_sem] Oper.semAt_some

def AtR (m : Nat) (w2 : World) (iv : Value) (wr : World) : Prop := ∃ k : Nat, k ≤ m ∧ iv = .int .i64 (k : Nat) ∧ wr = w2
set_option maxRecDepth 100000 in
set_option maxHeartbeats 1600000 in
theorem refAt_walk (w : World) (fv : Value) (F : Nat → Int) (N : Nat) (hN : N = 1114112) (hf : FnAt w fv (runL F N)) (r : Int) (hr1 : -2147483648 ≤ r) (hr2 : r ≤ 2147483647) :
    Calls Try.prog 81 #[fv, .int .i32 r] w fun e w' => e = .returned (.int .i64 (F (runeR r))) ∧ Below w.heap.size w w' := by
  obtain ⟨aT, cT, aV, cV, rfl, hT, hV, -, -⟩ := hf
  obtain ⟨q, hq⟩ : ∃ q : Nat, q = runeR r := ⟨_, rfl⟩
  have hql : q ≤ 1114111 := by rw [hq]; exact runeR_le r
  rw [← hq]
  obtain ⟨A, x, B, k1, k2, k3, k4⟩ := runL_find F N q (by omega)
  have hle := runL_length F N
  have hlen : (runL F N).length = A.length + 1 + B.length := by rw [k1]; simp; omega
  have hAx : (runL F N)[A.length]? = some x := by rw [k1]; simp
  have hAj : ∀ j, j < A.length → ∃ y, (runL F N)[j]? = some y ∧ y.1 < (q : Int) := fun j hj => ⟨A[j], by rw [k1, List.getElem?_append_left hj, List.getElem?_eq_getElem hj], k2 _ (List.getElem_mem hj)⟩
  obtain ⟨n, hn⟩ : ∃ n, n = (runL F N).length := ⟨_, rfl⟩
  obtain ⟨m, hm⟩ : ∃ m, m = A.length := ⟨_, rfl⟩
  rw [← hn] at hlen hle ⊢
  rw [← hm] at hlen hAx hAj
  have HT := Lib.hid hT; have HV := Lib.hid hV; have HAx := Lib.hid hAx; have HAj := Lib.hid hAj; have HNn := Lib.hid hn; have HQ := Lib.hid hq
  have HK := Lib.hid (And.intro k3 k4)
  have HSz := Lib.hid (show m < n ∧ n ≤ 1114112 by omega)
  clear hT hV hAx hAj hn hq k1 k2 k3 k4 hlen hle hm
  have HA := Lib.hid (heap_alloc_new w (.cells #[.slice aT n cT, .slice aV n cV] 63))
  have HB := Lib.hid ((Below.refl _ w).alloc (Nat.le_refl _) (.cells #[.slice aT n cT, .slice aV n cV] 63))
  go_enter Try.func81, Try.ntmps81
  go_upto_region 1 with (fail)
  generalize w.alloc (.cells #[.slice aT n cT, .slice aV n cV] 63) = w2 at *
  obtain ⟨b0, hb0⟩ : ∃ b0, b0 = w.heap.size := ⟨_, rfl⟩
  rw [← hb0] at HA ⊢
  have q0 := cell_of_row w2 b0 0 _ _ (0, 0) HA.out
  have q1 := cell_of_row w2 b0 1 _ _ (0, 0) HA.out
  simp at q0 q1
  have HBz := Lib.hid hb0; clear hb0
  have HT2 := Lib.hid (HT.out.below HB.out (Nat.le_refl _)); have HV2 := Lib.hid (HV.out.below HB.out (Nat.le_refl _))
  have hcs : r < 0 ∧ q = 65533 ∨ (¬ r < 0 ∧ 1114111 < r) ∧ q = 65533 ∨ (¬ r < 0 ∧ ¬ 1114111 < r) ∧ (q : Int) = r := by
    rw [HQ.out]
    unfold runeR
    by_cases h : r < 0 ∨ 1114111 < r
    · rw [if_pos h]; omega
    · rw [if_neg h]; omega
  rcases hcs with ⟨h1, h2⟩ | ⟨⟨h0, h1⟩, h2⟩ | ⟨⟨h0, h1⟩, h2⟩
  · have h3 : (65533 : Int) = (q : Int) := by omega
    clear h2
    go_upto_region 3 with (fail)
    rw [h3]
    clear h3
    clear HQ
    go_wp2
    go_loopw [5] (AtR m w2) (fun i _ => m + 1 - (intOf i).toNat)
    case atStart => exact ⟨0, Nat.zero_le _, rfl, rfl⟩
    case round =>
      obtain ⟨k, hk, rfl, rfl⟩ := hrel
      obtain ⟨hmn, hn2⟩ := HSz.out
      have hki : (k : Int) < (n : Int) := by omega
      have hkT : k < ((runL F N).map (·.1)).length := by rw [List.length_map, ← HNn.out]; omega
      have hkV : k < ((runL F N).map (·.2)).length := by rw [List.length_map, ← HNn.out]; omega
      obtain ⟨bT, oT, haT⟩ := HT2.out.some (by omega)
      obtain ⟨bV, oV, haV⟩ := HV2.out.some (by omega)
      subst haT haV
      have c1 := HT2.out.get k hkT
      have c2 := HV2.out.get k hkV
      by_cases hkm : k < m
      · obtain ⟨y, hy, hlt⟩ := HAj.out k hkm
        have e1 : ((runL F N).map (·.1))[k] = y.1 := by simp only [List.getElem_map]; rw [(List.getElem?_eq_some_iff.1 hy).2]
        rw [e1] at c1
        have hnle : ¬ (q : Int) ≤ y.1 := by omega
        clear hkT hkV c2 e1 hy
        go_wp2
        go_roundw
        case rel => exact ⟨k + 1, by omega, by go_num, rfl⟩
        case measure => simp [intOf]; omega
      · obtain rfl : k = m := by omega
        have e1 : ((runL F N).map (·.1))[k] = x.1 := by simp only [List.getElem_map]; rw [(List.getElem?_eq_some_iff.1 HAx.out).2]
        have e2 : ((runL F N).map (·.2))[k] = x.2 := by simp only [List.getElem_map]; rw [(List.getElem?_eq_some_iff.1 HAx.out).2]
        rw [e1] at c1
        rw [e2, HK.out.2] at c2
        have hle := HK.out.1
        clear hkT hkV e1 e2
        go_wp2
        go_ret
        exact ⟨rfl, HB.out⟩
  · have h3 : (65533 : Int) = (q : Int) := by omega
    clear h2
    go_upto_region 3 with (fail)
    rw [h3]
    clear h3
    clear HQ
    go_wp2
    go_loopw [5] (AtR m w2) (fun i _ => m + 1 - (intOf i).toNat)
    case atStart => exact ⟨0, Nat.zero_le _, rfl, rfl⟩
    case round =>
      obtain ⟨k, hk, rfl, rfl⟩ := hrel
      obtain ⟨hmn, hn2⟩ := HSz.out
      have hki : (k : Int) < (n : Int) := by omega
      have hkT : k < ((runL F N).map (·.1)).length := by rw [List.length_map, ← HNn.out]; omega
      have hkV : k < ((runL F N).map (·.2)).length := by rw [List.length_map, ← HNn.out]; omega
      obtain ⟨bT, oT, haT⟩ := HT2.out.some (by omega)
      obtain ⟨bV, oV, haV⟩ := HV2.out.some (by omega)
      subst haT haV
      have c1 := HT2.out.get k hkT
      have c2 := HV2.out.get k hkV
      by_cases hkm : k < m
      · obtain ⟨y, hy, hlt⟩ := HAj.out k hkm
        have e1 : ((runL F N).map (·.1))[k] = y.1 := by simp only [List.getElem_map]; rw [(List.getElem?_eq_some_iff.1 hy).2]
        rw [e1] at c1
        have hnle : ¬ (q : Int) ≤ y.1 := by omega
        clear hkT hkV c2 e1 hy
        go_wp2
        go_roundw
        case rel => exact ⟨k + 1, by omega, by go_num, rfl⟩
        case measure => simp [intOf]; omega
      · obtain rfl : k = m := by omega
        have e1 : ((runL F N).map (·.1))[k] = x.1 := by simp only [List.getElem_map]; rw [(List.getElem?_eq_some_iff.1 HAx.out).2]
        have e2 : ((runL F N).map (·.2))[k] = x.2 := by simp only [List.getElem_map]; rw [(List.getElem?_eq_some_iff.1 HAx.out).2]
        rw [e1] at c1
        rw [e2, HK.out.2] at c2
        have hle := HK.out.1
        clear hkT hkV e1 e2
        go_wp2
        go_ret
        exact ⟨rfl, HB.out⟩
  · go_upto_region 3 with (fail)
    rw [← h2]
    clear h2
    clear HQ
    go_wp2
    go_loopw [5] (AtR m w2) (fun i _ => m + 1 - (intOf i).toNat)
    case atStart => exact ⟨0, Nat.zero_le _, rfl, rfl⟩
    case round =>
      obtain ⟨k, hk, rfl, rfl⟩ := hrel
      obtain ⟨hmn, hn2⟩ := HSz.out
      have hki : (k : Int) < (n : Int) := by omega
      have hkT : k < ((runL F N).map (·.1)).length := by rw [List.length_map, ← HNn.out]; omega
      have hkV : k < ((runL F N).map (·.2)).length := by rw [List.length_map, ← HNn.out]; omega
      obtain ⟨bT, oT, haT⟩ := HT2.out.some (by omega)
      obtain ⟨bV, oV, haV⟩ := HV2.out.some (by omega)
      subst haT haV
      have c1 := HT2.out.get k hkT
      have c2 := HV2.out.get k hkV
      by_cases hkm : k < m
      · obtain ⟨y, hy, hlt⟩ := HAj.out k hkm
        have e1 : ((runL F N).map (·.1))[k] = y.1 := by simp only [List.getElem_map]; rw [(List.getElem?_eq_some_iff.1 hy).2]
        rw [e1] at c1
        have hnle : ¬ (q : Int) ≤ y.1 := by omega
        clear hkT hkV c2 e1 hy
        go_wp2
        go_roundw
        case rel => exact ⟨k + 1, by omega, by go_num, rfl⟩
        case measure => simp [intOf]; omega
      · obtain rfl : k = m := by omega
        have e1 : ((runL F N).map (·.1))[k] = x.1 := by simp only [List.getElem_map]; rw [(List.getElem?_eq_some_iff.1 HAx.out).2]
        have e2 : ((runL F N).map (·.2))[k] = x.2 := by simp only [List.getElem_map]; rw [(List.getElem?_eq_some_iff.1 HAx.out).2]
        rw [e1] at c1
        rw [e2, HK.out.2] at c2
        have hle := HK.out.1
        clear hkT hkV e1 e2
        go_wp2
        go_ret
        exact ⟨rfl, HB.out⟩
end Go.Proofs.Ytabbabkmojaoaaa

/-
  The document's functions: 'Same'.
-/
namespace Go.Proofs.Ytabbabkmojaoaaa
open Go.RowKit
attribute [local go_sem] Oper.semAt_some

def SaR (n : Nat) (w2 : World) (L1 L2 : List (Int × Int)) (iv : Value) (wr : World) : Prop := ∃ k q : Nat, k ≤ n ∧ iv = .int .i64 (k : Nat) ∧ wr = w2.drewN q ∧ ∀ j, j < k → L1[j]? = L2[j]?
set_option maxRecDepth 100000 in
set_option maxHeartbeats 1600000 in
theorem refSame_walk (w : World) (f g : Value) (L1 L2 : List (Int × Int)) (h1 : L1.length ≤ 1114112) (h2 : L2.length ≤ 1114112) (hf : FnAt w f L1) (hg : FnAt w g L2) :
    Calls Try.prog 45 #[f, g] w fun e w' => e = .returned (.bool (decide (L1 = L2))) ∧ Below w.heap.size w w' := by
  obtain ⟨aT, cT, aV, cV, rfl, hT, hV, -, -⟩ := hf
  obtain ⟨bT, dT, bV, dV, rfl, hU, hX, -, -⟩ := hg
  obtain ⟨n, hn⟩ : ∃ n, n = L1.length := ⟨_, rfl⟩
  obtain ⟨m, hm⟩ : ∃ m, m = L2.length := ⟨_, rfl⟩
  rw [← hn] at h1 ⊢
  rw [← hm] at h2 ⊢
  have HT := Lib.hid hT; have HV := Lib.hid hV; have HU := Lib.hid hU; have HX := Lib.hid hX
  have HN := Lib.hid hn; have HM := Lib.hid hm
  clear hT hV hU hX hn hm
  have HA := Lib.hid (heap_alloc_new w (.cells #[.slice aT n cT, .slice aV n cV] 63))
  have HB := Lib.hid ((Below.refl _ w).alloc (Nat.le_refl _) (.cells #[.slice aT n cT, .slice aV n cV] 63))
  have HZ := Lib.hid (World.size_alloc w (.cells #[.slice aT n cT, .slice aV n cV] 63))
  go_enter Try.func45, Try.ntmps45
  go_upto_region 1 with (fail)
  generalize w.alloc (.cells #[.slice aT n cT, .slice aV n cV] 63) = w1 at *
  have HA2 := Lib.hid (heap_alloc_new w1 (.cells #[.slice bT m dT, .slice bV m dV] 63))
  have HB2 := Lib.hid ((Below.refl _ w1).alloc (Nat.le_refl _) (.cells #[.slice bT m dT, .slice bV m dV] 63))
  obtain ⟨b0, hb0⟩ : ∃ b0, b0 = w.heap.size := ⟨_, rfl⟩
  rw [← hb0] at HA HZ ⊢
  rw [HZ.out] at HA2
  have HB3 : Hid (Below w.heap.size w (w1.alloc (.cells #[.slice bT m dT, .slice bV m dV] 63))) := Lib.hid (HB.out.trans (HB2.out.mono HB.out.size))
  have HA3 := Lib.hid ((HB2.out.block b0 (by rw [HZ.out]; omega)).trans HA.out)
  generalize w1.alloc (.cells #[.slice bT m dT, .slice bV m dV] 63) = w2 at *
  have HBz := Lib.hid hb0; clear hb0
  have q0 := cell_of_row w2 b0 0 _ _ (0, 0) HA3.out
  have q1 := cell_of_row w2 b0 1 _ _ (0, 0) HA3.out
  have p0 := cell_of_row w2 (b0 + 1) 0 _ _ (0, 0) HA2.out
  have p1 := cell_of_row w2 (b0 + 1) 1 _ _ (0, 0) HA2.out
  simp at q0 q1 p0 p1
  have HT2 := Lib.hid (HT.out.below HB3.out (Nat.le_refl _)); have HV2 := Lib.hid (HV.out.below HB3.out (Nat.le_refl _))
  have HU2 := Lib.hid (HU.out.below HB3.out (Nat.le_refl _)); have HX2 := Lib.hid (HX.out.below HB3.out (Nat.le_refl _))
  by_cases hnm : n = m
  · subst hnm
    go_wp2
    go_loopw [5] (SaR n w2 L1 L2) (fun i _ => n - (intOf i).toNat)
    case atStart => exact ⟨0, 0, Nat.zero_le _, rfl, rfl, fun j hj => by omega⟩
    case round =>
      obtain ⟨k, q, hk, rfl, rfl, hsame⟩ := hrel
      have HSm := Lib.hid hsame; clear hsame
      by_cases hkn : k < n
      · have hki : (k : Int) < (n : Int) := by omega
        have k1 : k < L1.length := by rw [← HN.out]; exact hkn
        have k2 : k < L2.length := by rw [← HM.out]; exact hkn
        obtain ⟨b1, o1, e1⟩ := HT2.out.some (by rw [List.length_map]; omega)
        obtain ⟨b2, o2, e2⟩ := HV2.out.some (by rw [List.length_map]; omega)
        obtain ⟨b3, o3, e3⟩ := HU2.out.some (by rw [List.length_map]; omega)
        obtain ⟨b4, o4, e4⟩ := HX2.out.some (by rw [List.length_map]; omega)
        subst e1 e2 e3 e4
        have c1 := HT2.out.get k (by rw [List.length_map]; exact k1)
        have c2 := HV2.out.get k (by rw [List.length_map]; exact k1)
        have c3 := HU2.out.get k (by rw [List.length_map]; exact k2)
        have c4 := HX2.out.get k (by rw [List.length_map]; exact k2)
        simp only [List.getElem_map] at c1 c2 c3 c4
        have HNx := Lib.hid (show L1 = L2 → L1[k] = L2[k] from fun h => by subst h; rfl)
        have HSx := Lib.hid (fun (h : L1[k] = L2[k]) j (hj : j < k + 1) => show L1[j]? = L2[j]? from by
          by_cases e : j = k
          · subst e; rw [List.getElem?_eq_getElem k1, List.getElem?_eq_getElem k2, h]
          · exact HSm.out j (by omega))
        generalize L1[k] = x at *
        generalize L2[k] = y at *
        by_cases ht : x.1 = y.1
        · have n1 : (x.1 != y.1) = false := by simp [ht]
          by_cases hv : x.2 = y.2
          · have n2 : (x.2 != y.2) = false := by simp [hv]
            have HE := Lib.hid (Prod.ext ht hv)
            clear ht hv
            go_upto_region 6 with (fail)
            refine wp_region_quiet_lit (by kernel_rfl) (by kernel_rfl) ?_
            iterate 24 (go_big_quiet_step (fail))
            refine wpQuiet_nil ?_
            rintro _ ⟨nq, rfl⟩
            have HB4 : Hid (Below w.heap.size w ((w2.drewN q).drewN nq)) := Lib.hid (below_drewN (below_drewN HB3.out q) nq)
            go_wp2
            go_roundw
            case rel => exact ⟨k + 1, q + nq, by omega, by go_num, by first | rfl | (simp [World.drewN, Nat.add_assoc]), HSx.out HE.out⟩
            case measure => simp [intOf]; omega
          · have n2 : (x.2 != y.2) = true := by simp [hv]
            have HNe : Hid (¬ L1 = L2) := Lib.hid (fun h => hv (by rw [HNx.out h]))
            clear ht hv
            go_upto_region 6 with (fail)
            refine wp_region_quiet_lit (by kernel_rfl) (by kernel_rfl) ?_
            iterate 24 (go_big_quiet_step (fail))
            refine wpQuiet_nil ?_
            rintro _ ⟨nq, rfl⟩
            have HB4 : Hid (Below w.heap.size w ((w2.drewN q).drewN nq)) := Lib.hid (below_drewN (below_drewN HB3.out q) nq)
            go_wp2
            go_ret
            exact ⟨by rw [decide_eq_false HNe.out]; rfl, HB4.out⟩
        · have n1 : (x.1 != y.1) = true := by simp [ht]
          have HNe : Hid (¬ L1 = L2) := Lib.hid (fun h => ht (by rw [HNx.out h]))
          clear ht
          go_upto_region 6 with (fail)
          refine wp_region_quiet_lit (by kernel_rfl) (by kernel_rfl) ?_
          iterate 24 (go_big_quiet_step (fail))
          refine wpQuiet_nil ?_
          rintro _ ⟨nq, rfl⟩
          have HB4 : Hid (Below w.heap.size w ((w2.drewN q).drewN nq)) := Lib.hid (below_drewN (below_drewN HB3.out q) nq)
          go_wp2
          go_ret
          exact ⟨by rw [decide_eq_false HNe.out]; rfl, HB4.out⟩
      · obtain rfl : k = n := by omega
        have hki : ¬ (k : Int) < (k : Int) := by omega
        have HEq : Hid (L1 = L2) := Lib.hid (List.ext_getElem? fun j => by
          by_cases hj : j < k
          · exact HSm.out j hj
          · rw [List.getElem?_eq_none (by rw [← HN.out]; omega), List.getElem?_eq_none (by rw [← HM.out]; omega)])
        go_wp2
        go_ret
        exact ⟨by rw [decide_eq_true HEq.out]; rfl, below_drewN HB3.out q⟩
  · have hnb : ((n : Int) != (m : Int)) = true := by simp; omega
    have HNe : Hid (¬ L1 = L2) := Lib.hid (fun h => hnm (by rw [HN.out, HM.out, h]))
    clear hnm
    go_wp2
    go_ret
    exact ⟨by rw [decide_eq_false HNe.out]; rfl, HB3.out⟩
end Go.Proofs.Ytabbabkmojaoaaa
