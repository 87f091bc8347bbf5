/-
  The document's functions: 'Same'.
-/
import Derived.Test.YtabbabkmojaoaaaWD
set_option linter.unusedVariables false
set_option linter.unusedSimpArgs false
namespace Go.Proofs.Ytabbabkmojaoaaa
open Go.RowKit
attribute [local go_sem] Oper.semAt_some

def SaR (n : Nat) (w2 : World) (L1 L2 : List (Int × Int)) (iv : Value) (wr : World) : Prop := ∃ k q : Nat, k ≤ n ∧ iv = .int .i64 (k : Nat) ∧ wr = w2.drewN q ∧ ∀ j, j < k → L1[j]? = L2[j]?
set_option maxRecDepth 100000 in
set_option maxHeartbeats 1600000 in
theorem refSame_walk (w : World) (f g : Value) (L1 L2 : List (Int × Int)) (h1 : L1.length ≤ 1114112) (h2 : L2.length ≤ 1114112) (hf : FnAt w f L1) (hg : FnAt w g L2) :
    Calls Try.prog 45 #[f, g] w fun e w' => e = .returned (.bool (decide (L1 = L2))) ∧ Below w.heap.size w w' := by
  obtain ⟨aT, cT, aV, cV, rfl, hT, hV, -, -⟩ := hf
  obtain ⟨bT, dT, bV, dV, rfl, hU, hX, -, -⟩ := hg
  obtain ⟨n, hn⟩ : ∃ n, n = L1.length := ⟨_, rfl⟩
  obtain ⟨m, hm⟩ : ∃ m, m = L2.length := ⟨_, rfl⟩
  rw [← hn] at h1 ⊢
  rw [← hm] at h2 ⊢
  have HT := Lib.hid hT; have HV := Lib.hid hV; have HU := Lib.hid hU; have HX := Lib.hid hX
  have HN := Lib.hid hn; have HM := Lib.hid hm
  clear hT hV hU hX hn hm
  have HA := Lib.hid (heap_alloc_new w (.cells #[.slice aT n cT, .slice aV n cV] 63))
  have HB := Lib.hid ((Below.refl _ w).alloc (Nat.le_refl _) (.cells #[.slice aT n cT, .slice aV n cV] 63))
  have HZ := Lib.hid (World.size_alloc w (.cells #[.slice aT n cT, .slice aV n cV] 63))
  go_enter Try.func45, Try.ntmps45
  go_upto_region 1 with (fail)
  generalize w.alloc (.cells #[.slice aT n cT, .slice aV n cV] 63) = w1 at *
  have HA2 := Lib.hid (heap_alloc_new w1 (.cells #[.slice bT m dT, .slice bV m dV] 63))
  have HB2 := Lib.hid ((Below.refl _ w1).alloc (Nat.le_refl _) (.cells #[.slice bT m dT, .slice bV m dV] 63))
  obtain ⟨b0, hb0⟩ : ∃ b0, b0 = w.heap.size := ⟨_, rfl⟩
  rw [← hb0] at HA HZ ⊢
  rw [HZ.out] at HA2
  have HB3 : Hid (Below w.heap.size w (w1.alloc (.cells #[.slice bT m dT, .slice bV m dV] 63))) := Lib.hid (HB.out.trans (HB2.out.mono HB.out.size))
  have HA3 := Lib.hid ((HB2.out.block b0 (by rw [HZ.out]; omega)).trans HA.out)
  generalize w1.alloc (.cells #[.slice bT m dT, .slice bV m dV] 63) = w2 at *
  have HBz := Lib.hid hb0; clear hb0
  have q0 := cell_of_row w2 b0 0 _ _ (0, 0) HA3.out
  have q1 := cell_of_row w2 b0 1 _ _ (0, 0) HA3.out
  have p0 := cell_of_row w2 (b0 + 1) 0 _ _ (0, 0) HA2.out
  have p1 := cell_of_row w2 (b0 + 1) 1 _ _ (0, 0) HA2.out
  simp at q0 q1 p0 p1
  have HT2 := Lib.hid (HT.out.below HB3.out (Nat.le_refl _)); have HV2 := Lib.hid (HV.out.below HB3.out (Nat.le_refl _))
  have HU2 := Lib.hid (HU.out.below HB3.out (Nat.le_refl _)); have HX2 := Lib.hid (HX.out.below HB3.out (Nat.le_refl _))
  by_cases hnm : n = m
  · subst hnm
    go_wp2
    go_loopw [5] (SaR n w2 L1 L2) (fun i _ => n - (intOf i).toNat)
    case atStart => exact ⟨0, 0, Nat.zero_le _, rfl, rfl, fun j hj => by omega⟩
    case round =>
      obtain ⟨k, q, hk, rfl, rfl, hsame⟩ := hrel
      have HSm := Lib.hid hsame; clear hsame
      by_cases hkn : k < n
      · have hki : (k : Int) < (n : Int) := by omega
        have k1 : k < L1.length := by rw [← HN.out]; exact hkn
        have k2 : k < L2.length := by rw [← HM.out]; exact hkn
        obtain ⟨b1, o1, e1⟩ := HT2.out.some (by rw [List.length_map]; omega)
        obtain ⟨b2, o2, e2⟩ := HV2.out.some (by rw [List.length_map]; omega)
        obtain ⟨b3, o3, e3⟩ := HU2.out.some (by rw [List.length_map]; omega)
        obtain ⟨b4, o4, e4⟩ := HX2.out.some (by rw [List.length_map]; omega)
        subst e1 e2 e3 e4
        have c1 := HT2.out.get k (by rw [List.length_map]; exact k1)
        have c2 := HV2.out.get k (by rw [List.length_map]; exact k1)
        have c3 := HU2.out.get k (by rw [List.length_map]; exact k2)
        have c4 := HX2.out.get k (by rw [List.length_map]; exact k2)
        simp only [List.getElem_map] at c1 c2 c3 c4
        have HNx := Lib.hid (show L1 = L2 → L1[k] = L2[k] from fun h => by subst h; rfl)
        have HSx := Lib.hid (fun (h : L1[k] = L2[k]) j (hj : j < k + 1) => show L1[j]? = L2[j]? from by
          by_cases e : j = k
          · subst e; rw [List.getElem?_eq_getElem k1, List.getElem?_eq_getElem k2, h]
          · exact HSm.out j (by omega))
        generalize L1[k] = x at *
        generalize L2[k] = y at *
        by_cases ht : x.1 = y.1
        · have n1 : (x.1 != y.1) = false := by simp [ht]
          by_cases hv : x.2 = y.2
          · have n2 : (x.2 != y.2) = false := by simp [hv]
            have HE := Lib.hid (Prod.ext ht hv)
            clear ht hv
            go_upto_region 6 with (fail)
            refine wp_region_quiet_lit (by kernel_rfl) (by kernel_rfl) ?_
            iterate 24 (go_big_quiet_step (fail))
            refine wpQuiet_nil ?_
            rintro _ ⟨nq, rfl⟩
            have HB4 : Hid (Below w.heap.size w ((w2.drewN q).drewN nq)) := Lib.hid (below_drewN (below_drewN HB3.out q) nq)
            go_wp2
            go_roundw
            case rel => exact ⟨k + 1, q + nq, by omega, by go_num, by first | rfl | (simp [World.drewN, Nat.add_assoc]), HSx.out HE.out⟩
            case measure => simp [intOf]; omega
          · have n2 : (x.2 != y.2) = true := by simp [hv]
            have HNe : Hid (¬ L1 = L2) := Lib.hid (fun h => hv (by rw [HNx.out h]))
            clear ht hv
            go_upto_region 6 with (fail)
            refine wp_region_quiet_lit (by kernel_rfl) (by kernel_rfl) ?_
            iterate 24 (go_big_quiet_step (fail))
            refine wpQuiet_nil ?_
            rintro _ ⟨nq, rfl⟩
            have HB4 : Hid (Below w.heap.size w ((w2.drewN q).drewN nq)) := Lib.hid (below_drewN (below_drewN HB3.out q) nq)
            go_wp2
            go_ret
            exact ⟨by rw [decide_eq_false HNe.out]; rfl, HB4.out⟩
        · have n1 : (x.1 != y.1) = true := by simp [ht]
          have HNe : Hid (¬ L1 = L2) := Lib.hid (fun h => ht (by rw [HNx.out h]))
          clear ht
          go_upto_region 6 with (fail)
          refine wp_region_quiet_lit (by kernel_rfl) (by kernel_rfl) ?_
          iterate 24 (go_big_quiet_step (fail))
          refine wpQuiet_nil ?_
          rintro _ ⟨nq, rfl⟩
          have HB4 : Hid (Below w.heap.size w ((w2.drewN q).drewN nq)) := Lib.hid (below_drewN (below_drewN HB3.out q) nq)
          go_wp2
          go_ret
          exact ⟨by rw [decide_eq_false HNe.out]; rfl, HB4.out⟩
      · obtain rfl : k = n := by omega
        have hki : ¬ (k : Int) < (k : Int) := by omega
        have HEq : Hid (L1 = L2) := Lib.hid (List.ext_getElem? fun j => by
          by_cases hj : j < k
          · exact HSm.out j hj
          · rw [List.getElem?_eq_none (by rw [← HN.out]; omega), List.getElem?_eq_none (by rw [← HM.out]; omega)])
        go_wp2
        go_ret
        exact ⟨by rw [decide_eq_true HEq.out]; rfl, below_drewN HB3.out q⟩
  · have hnb : ((n : Int) != (m : Int)) = true := by simp; omega
    have HNe : Hid (¬ L1 = L2) := Lib.hid (fun h => hnm (by rw [HN.out, HM.out, h]))
    clear hnm
    go_wp2
    go_ret
    exact ⟨by rw [decide_eq_false HNe.out]; rfl, HB3.out⟩
end Go.Proofs.Ytabbabkmojaoaaa
