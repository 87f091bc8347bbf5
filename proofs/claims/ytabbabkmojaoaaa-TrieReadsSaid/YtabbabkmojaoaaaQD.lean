/- several texts in one: RR6 -/
import Derived.Test.YtabbabkmojaoaaaQB
import Derived.Test.YtabbabkmojaoaaaQC
set_option linter.unusedVariables false
set_option linter.unusedSimpArgs false
/-
  The walk of TrieReads.
-/
namespace Go.Proofs.Ytabbabkmojaoaaa
open Go.RowKit
attribute [local go_sem] Oper.semAt_some

set_option maxRecDepth 100000 in
set_option maxHeartbeats 4000000 in
theorem trieReads_walk (a : Option Addr) (n c : Nat) (l : List SpanD) (pa : Option Addr) (pn pc : Nat) (ps : List PatchD) (oT : Option Addr) (nT cT : Nat) (zT : List Int) (oM : Option Addr) (nM cM : Nat) (zM : List Int) (oL : Option Addr) (nL cL : Nat) (zL : List Int) (w : World)
    (hl : l.length = n) (hs : SpansAt w a l) (hwf : ∀ s ∈ l, -2147483648 ≤ s.f ∧ s.f ≤ 2147483647 ∧ -2147483648 ≤ s.t ∧ s.t ≤ 2147483647) (hv : ∀ s ∈ l, 0 ≤ s.v ∧ s.v ≤ 255) (hps : ps.length = pn) (hpn : pn ≤ 9223372036854775807) (hpa : PatchesAt w pa ps) (hpw : ∀ s ∈ ps, patchW s)
    (rT : IsRow .u16 w oT nT cT zT) (rM : IsRow .u16 w oM nM cM zM) (rL : IsRow .u8 w oL nL cL zL) :
    Calls Try.prog 10 #[.slice a n c, .slice pa pn pc, .agg #[.slice oT nT cT, .slice oM nM cM, .slice oL nL cL]] w fun e w' => e = .returned (.bool true) ∧ Below w.heap.size w w' := by
  obtain ⟨iT, lT, bT, wT⟩ := isRow_ints rT
  obtain ⟨iM, lM, bM, wM⟩ := isRow_ints rM
  obtain ⟨iL, lL, bL, wL⟩ := isRow_ints rL
  have HnoT := Lib.hid rT.none; have HnoM := Lib.hid rM.none; have HnoL := Lib.hid rL.none
  have gT : ∀ x ∈ zT.take nT, 0 ≤ x ∧ x ≤ 65535 := fun x hx => b16 (wT x hx)
  have gM : ∀ x ∈ zM.take nM, 0 ≤ x ∧ x ≤ 65535 := fun x hx => b16 (wM x hx)
  have gL : ∀ x ∈ zL.take nL, 0 ≤ x ∧ x ≤ 255 := fun x hx => b8 (wL x hx)
  obtain ⟨T0, hT0⟩ : ∃ T0, T0 = natL (zT.take nT) := ⟨_, rfl⟩
  obtain ⟨M0, hM0⟩ : ∃ M0, M0 = natL (zM.take nM) := ⟨_, rfl⟩
  obtain ⟨L0, hL0⟩ : ∃ L0, L0 = zL.take nL := ⟨_, rfl⟩
  have kT : natsI T0 = zT.take nT := by rw [hT0]; exact natL_back (fun x hx => (gT x hx).1)
  have kM : natsI M0 = zM.take nM := by rw [hM0]; exact natL_back (fun x hx => (gM x hx).1)
  have HIT : Hid (Ints .u16 w oT (natsI T0)) := Lib.hid (by rw [kT]; exact iT)
  have HIM : Hid (Ints .u16 w oM (natsI M0)) := Lib.hid (by rw [kM]; exact iM)
  have HIL : Hid (Ints .u8 w oL L0) := Lib.hid (by rw [hL0]; exact iL)
  have HlT : Hid (T0.length = nT) := Lib.hid (by rw [hT0]; unfold natL; rw [List.length_map]; exact lT)
  have HlM : Hid (M0.length = nM) := Lib.hid (by rw [hM0]; unfold natL; rw [List.length_map]; exact lM)
  have HlL : Hid (L0.length = nL) := Lib.hid (by rw [hL0]; exact lL)
  have HrT : Hid (∀ x ∈ T0, x < 65536) := Lib.hid (fun x hx => by
    have : (x : Int) ∈ natsI T0 := List.mem_map.2 ⟨x, hx, rfl⟩
    rw [kT] at this
    have := gT _ this
    omega)
  have HrM : Hid (∀ x ∈ M0, x < 65536) := Lib.hid (fun x hx => by
    have : (x : Int) ∈ natsI M0 := List.mem_map.2 ⟨x, hx, rfl⟩
    rw [kM] at this
    have := gM _ this
    omega)
  have HrL : Hid (∀ x ∈ L0, 0 ≤ x ∧ x ≤ 255) := Lib.hid (by rw [hL0]; exact gL)
  have HL := Lib.hid hl; have HS := Lib.hid hs; have HWf := Lib.hid hwf; have HV := Lib.hid hv; have HPs := Lib.hid hps; have HPa := Lib.hid hpa; have HPw := Lib.hid hpw
  clear hl hs hwf hv hps hpa hpw rT rM rL iT lT wT iM lM wM iL lL wL gT gM gL hT0 hM0 hL0 kT kM
  obtain ⟨b0, hb0⟩ : ∃ b0, b0 = w.heap.size := ⟨_, rfl⟩
  obtain ⟨W1, hW1⟩ : ∃ W1, W1 = w.alloc (.cells #[.slice oT nT cT, .slice oM nM cM, .slice oL nL cL] 79) := ⟨_, rfl⟩
  have HP : Hid (Below w.heap.size w W1 ∧ W1.heap[b0]? = some (.cells #[.slice oT nT cT, .slice oM nM cM, .slice oL nL cL] 79 (0, 0)) ∧ W1.heap.size = b0 + 1) := Lib.hid (by
    rw [hb0, hW1]
    exact ⟨(Below.refl _ w).alloc (Nat.le_refl _) _, heap_alloc_new w _, World.size_alloc w _⟩)
  have HW := Lib.hid hW1; have HB0 := Lib.hid hb0; clear hW1 hb0
  have q0 := cell_of_row W1 b0 0 _ _ (0, 0) HP.out.2.1
  have q1 := cell_of_row W1 b0 1 _ _ (0, 0) HP.out.2.1
  have q2 := cell_of_row W1 b0 2 _ _ (0, 0) HP.out.2.1
  simp at q0 q1 q2
  go_enter Try.func10, Try.ntmps10
  go_upto_region 1 with (fail)
  rw [← HB0.out, ← HW.out]
  by_cases g1 : 60 < n
  · have g1i : (60 : Int) < (n : Int) := by omega
    go_wp2_with fail
    refine (awake_walk _).mono ?_
    rintro e w3 ⟨rfl, hb⟩
    have HB3 := Lib.hid (HP.out.1.trans (hb.mono HP.out.1.size)); clear hb
    go_wp2
    go_ret
    exact ⟨rfl, HB3.out⟩
  have g1i : ¬ (60 : Int) < (n : Int) := by omega
  by_cases g2 : 300 < nT
  · have g2i : (300 : Int) < (nT : Int) := by omega
    go_wp2_with fail
    refine (awake_walk _).mono ?_
    rintro e w3 ⟨rfl, hb⟩
    have HB3 := Lib.hid (HP.out.1.trans (hb.mono HP.out.1.size)); clear hb
    go_wp2
    go_ret
    exact ⟨rfl, HB3.out⟩
  have g2i : ¬ (300 : Int) < (nT : Int) := by omega
  by_cases g3 : 20000 < nM
  · have g3i : (20000 : Int) < (nM : Int) := by omega
    go_wp2_with fail
    refine (awake_walk _).mono ?_
    rintro e w3 ⟨rfl, hb⟩
    have HB3 := Lib.hid (HP.out.1.trans (hb.mono HP.out.1.size)); clear hb
    go_wp2
    go_ret
    exact ⟨rfl, HB3.out⟩
  have g3i : ¬ (20000 : Int) < (nM : Int) := by omega
  by_cases g4 : 200000 < nL
  · have g4i : (200000 : Int) < (nL : Int) := by omega
    go_wp2_with fail
    refine (awake_walk _).mono ?_
    rintro e w3 ⟨rfl, hb⟩
    have HB3 := Lib.hid (HP.out.1.trans (hb.mono HP.out.1.size)); clear hb
    go_wp2
    go_ret
    exact ⟨rfl, HB3.out⟩
  have g4i : ¬ (200000 : Int) < (nL : Int) := by omega
  go_upto_region 3 with (fail)
  clear q0 q1 q2
  go_cut [7] from 43 to 52 (fun p wx => ∃ bp, p = .pointer (some ⟨bp, 0, none⟩) ∧ PSt w bp T0 M0 L0 wx)
  case first =>
    refine (wpIn_wide (n := 2)).1 ?_
    refine wpIn_region_calm [11] (fun w' : World => w'.heap[b0]? = some (.cells #[.slice oT nT cT, .slice oM nM cM, .slice oL nL cL] 79 (0, 0))) (by kernel_rfl) ?_
    have HCx : Hid ((fun w' : World => w'.heap[b0]? = some (.cells #[.slice oT nT cT, .slice oM nM cM, .slice oL nL cL] 79 (0, 0))) W1.drew) := Lib.hid HP.out.2.1
    have HBv : Hid (Below w.heap.size w W1.drew) := Lib.hid HP.out.1.drew
    have HZv : Hid (b0 + 1 ≤ W1.drew.heap.size) := Lib.hid (by show b0 + 1 ≤ W1.heap.size; have := HP.out.2.2; omega)
    generalize W1.drew = v0 at *
    refine' anyD_take (i := 0) (v := _) [1, 2, 5, 8, 9, 11] (by kernel_rfl) rfl (by rfl) (by kernel_rfl) (fun _ _ _ h => h) (by rfl) ?h0 HCx.out ?k0
    case h0 =>
      intro w' c0
      have d0 := cell_of_row w' b0 0 _ _ (0, 0) c0
      have d1 := cell_of_row w' b0 1 _ _ (0, 0) c0
      have d2 := cell_of_row w' b0 2 _ _ (0, 0) c0
      simp at d0 d1 d2
      clear c0
      go_simp
      try with_reducible rfl
    simp only [List.getElem_toArray, List.getElem_cons_zero, List.getElem_cons_succ, Act.put, List.setIfInBounds_toArray, List.set_cons_zero, List.set_cons_succ]
    refine' anyD_take (i := 1) (v := _) [2, 5, 8, 9, 11] (by kernel_rfl) rfl (by rfl) (by kernel_rfl) (fun _ _ _ h => h) (by rfl) ?h1 HCx.out ?k1
    case h1 =>
      intro w' c0
      have d0 := cell_of_row w' b0 0 _ _ (0, 0) c0
      have d1 := cell_of_row w' b0 1 _ _ (0, 0) c0
      have d2 := cell_of_row w' b0 2 _ _ (0, 0) c0
      simp at d0 d1 d2
      clear c0
      go_simp
      try with_reducible rfl
    simp only [List.getElem_toArray, List.getElem_cons_zero, List.getElem_cons_succ, Act.put, List.setIfInBounds_toArray, List.set_cons_zero, List.set_cons_succ]
    refine' anyD_take (i := 3) (v := _) [4, 5, 8, 9, 11] (by kernel_rfl) rfl (by rfl) (by kernel_rfl) (fun _ _ _ h => h) (by rfl) ?h3 HCx.out ?k3
    case h3 =>
      intro w' c0
      have d0 := cell_of_row w' b0 0 _ _ (0, 0) c0
      have d1 := cell_of_row w' b0 1 _ _ (0, 0) c0
      have d2 := cell_of_row w' b0 2 _ _ (0, 0) c0
      simp at d0 d1 d2
      clear c0
      go_simp
      try with_reducible rfl
    simp only [List.getElem_toArray, List.getElem_cons_zero, List.getElem_cons_succ, Act.put, List.setIfInBounds_toArray, List.set_cons_zero, List.set_cons_succ]
    refine' anyD_take (i := 4) (v := _) [5, 8, 9, 11] (by kernel_rfl) rfl (by rfl) (by kernel_rfl) (fun _ _ _ h => h) (by rfl) ?h4 HCx.out ?k4
    case h4 =>
      intro w' c0
      have d0 := cell_of_row w' b0 0 _ _ (0, 0) c0
      have d1 := cell_of_row w' b0 1 _ _ (0, 0) c0
      have d2 := cell_of_row w' b0 2 _ _ (0, 0) c0
      simp at d0 d1 d2
      clear c0
      go_simp
      try with_reducible rfl
    simp only [List.getElem_toArray, List.getElem_cons_zero, List.getElem_cons_succ, Act.put, List.setIfInBounds_toArray, List.set_cons_zero, List.set_cons_succ]
    refine' anyD_take (i := 6) (v := _) [7, 8, 9, 11] (by kernel_rfl) rfl (by rfl) (by kernel_rfl) (fun _ _ _ h => h) (by rfl) ?h6 HCx.out ?k6
    case h6 =>
      intro w' c0
      have d0 := cell_of_row w' b0 0 _ _ (0, 0) c0
      have d1 := cell_of_row w' b0 1 _ _ (0, 0) c0
      have d2 := cell_of_row w' b0 2 _ _ (0, 0) c0
      simp at d0 d1 d2
      clear c0
      go_simp
      try with_reducible rfl
    simp only [List.getElem_toArray, List.getElem_cons_zero, List.getElem_cons_succ, Act.put, List.setIfInBounds_toArray, List.set_cons_zero, List.set_cons_succ]
    refine' anyD_take (i := 7) (v := _) [8, 9, 11] (by kernel_rfl) rfl (by rfl) (by kernel_rfl) (fun _ _ _ h => h) (by rfl) ?h7 HCx.out ?k7
    case h7 =>
      intro w' c0
      have d0 := cell_of_row w' b0 0 _ _ (0, 0) c0
      have d1 := cell_of_row w' b0 1 _ _ (0, 0) c0
      have d2 := cell_of_row w' b0 2 _ _ (0, 0) c0
      simp at d0 d1 d2
      clear c0
      go_simp
      try with_reducible rfl
    simp only [List.getElem_toArray, List.getElem_cons_zero, List.getElem_cons_succ, Act.put, List.setIfInBounds_toArray, List.set_cons_zero, List.set_cons_succ]
    have HZ0 : Hid (w.heap.size ≤ v0.heap.size) := Lib.hid HBv.out.size
    refine anyC_r2 (i := 2) (i' := 10) (by kernel_rfl) ?_ ?_
    · refine step_cp (i := 2) Try.elemI16N rfl (by rfl) (fun _ _ => trivial) (by rfl) (.tmp 44) rfl (by rw [ivs_length, natsI_length, HlT.out]) (HIT.out.below HBv.out (Nat.le_refl _)).src HnoT.out (ivs_one _ _) (by omega) (by unfold maxLen; omega) rfl (fun w' hb => (hb.block b0 (Array.getElem?_eq_some_iff.1 HCx.out).1).trans HCx.out) ?_
      intro gT dT v1 ho hb
      simp only [List.getElem_toArray, List.getElem_cons_zero, List.getElem_cons_succ, Act.put, List.setIfInBounds_toArray, List.set_cons_zero, List.set_cons_succ]
      have HOT := Lib.hid ho
      have HKT := Lib.hid ho.blt
      clear ho
      have hz := hb.size
      have HZv1 : Hid (v0.heap.size ≤ v1.heap.size) := Lib.hid hz
      replace HCx : Hid ((fun w' : World => w'.heap[b0]? = some (.cells #[.slice oT nT cT, .slice oM nM cM, .slice oL nL cL] 79 (0, 0))) v1) := Lib.hid ((hb.block b0 (Array.getElem?_eq_some_iff.1 HCx.out).1).trans HCx.out)
      replace HBv : Hid (Below w.heap.size w v1) := Lib.hid (HBv.out.trans (hb.mono HBv.out.size))
      replace HZv : Hid (b0 + 1 ≤ v1.heap.size) := Lib.hid (Nat.le_trans HZv.out hz)
      clear hb hz
      refine anyC_r2 (i := 5) (i' := 10) (by kernel_rfl) ?_ ?_
      · refine step_cp (i := 5) Try.elemI16N rfl (by rfl) (fun _ _ => trivial) (by rfl) (.tmp 47) rfl (by rw [ivs_length, natsI_length, HlM.out]) (HIM.out.below HBv.out (Nat.le_refl _)).src HnoM.out (ivs_one _ _) (by omega) (by unfold maxLen; omega) rfl (fun w' hb => (hb.block b0 (Array.getElem?_eq_some_iff.1 HCx.out).1).trans HCx.out) ?_
        intro gM dM v2 ho hb
        simp only [List.getElem_toArray, List.getElem_cons_zero, List.getElem_cons_succ, Act.put, List.setIfInBounds_toArray, List.set_cons_zero, List.set_cons_succ]
        have HOM := Lib.hid ho
        have HKM := Lib.hid ho.blt
        clear ho
        have hz := hb.size
        have HZv2 : Hid (v1.heap.size ≤ v2.heap.size) := Lib.hid hz
        replace HCx : Hid ((fun w' : World => w'.heap[b0]? = some (.cells #[.slice oT nT cT, .slice oM nM cM, .slice oL nL cL] 79 (0, 0))) v2) := Lib.hid ((hb.block b0 (Array.getElem?_eq_some_iff.1 HCx.out).1).trans HCx.out)
        replace HBv : Hid (Below w.heap.size w v2) := Lib.hid (HBv.out.trans (hb.mono HBv.out.size))
        replace HZv : Hid (b0 + 1 ≤ v2.heap.size) := Lib.hid (Nat.le_trans HZv.out hz)
        replace HOT := Lib.hid (HOT.out.below hb (Nat.le_refl _))
        clear hb hz
        refine anyC_r2 (i := 8) (i' := 10) (by kernel_rfl) ?_ ?_
        · refine step_cp (i := 8) Try.elemI8N rfl (by rfl) (fun _ _ => trivial) (by rfl) (.tmp 50) rfl (by rw [ivs_length, HlL.out]) (HIL.out.below HBv.out (Nat.le_refl _)).src HnoL.out (ivs_one _ _) (by omega) (by unfold maxLen; omega) rfl (fun w' hb => (hb.block b0 (Array.getElem?_eq_some_iff.1 HCx.out).1).trans HCx.out) ?_
          intro gL dL v3 ho hb
          simp only [List.getElem_toArray, List.getElem_cons_zero, List.getElem_cons_succ, Act.put, List.setIfInBounds_toArray, List.set_cons_zero, List.set_cons_succ]
          have HOL := Lib.hid ho
          have HKL := Lib.hid ho.blt
          clear ho
          have hz := hb.size
          have HZv3 : Hid (v2.heap.size ≤ v3.heap.size) := Lib.hid hz
          replace HCx : Hid ((fun w' : World => w'.heap[b0]? = some (.cells #[.slice oT nT cT, .slice oM nM cM, .slice oL nL cL] 79 (0, 0))) v3) := Lib.hid ((hb.block b0 (Array.getElem?_eq_some_iff.1 HCx.out).1).trans HCx.out)
          replace HBv : Hid (Below w.heap.size w v3) := Lib.hid (HBv.out.trans (hb.mono HBv.out.size))
          replace HZv : Hid (b0 + 1 ≤ v3.heap.size) := Lib.hid (Nat.le_trans HZv.out hz)
          replace HOT := Lib.hid (HOT.out.below hb (Nat.le_refl _))
          replace HOM := Lib.hid (HOM.out.below hb (Nat.le_refl _))
          clear hb hz
          refine anyC_r2 (i := 9) (i' := 10) (by kernel_rfl) ?_ ?_
          · refine stepV (i := 9) (v := .agg #[.slice gT nT dT, .slice gM nM dM, .slice gL nL dL]) (w' := v3) rfl (by rfl) (fun _ _ => trivial) (by rfl) (exec_build3 79 (.tmp 45) (.tmp 48) (.tmp 51) rfl (.slice gT nT dT) (.slice gM nM dM) (.slice gL nL dL) _ rfl rfl rfl (by kernel_rfl)) (fun _ => HCx.out) ?_
            simp only [List.getElem_toArray, List.getElem_cons_zero, List.getElem_cons_succ, Act.put, List.setIfInBounds_toArray, List.set_cons_zero, List.set_cons_succ]
            refine anyC_r1 (i := 10) (by kernel_rfl) ?_
            obtain ⟨v4, hv2⟩ : ∃ vv, vv = v3.alloc (.cells #[.slice none 0 0, .slice none 0 0, .slice none 0 0] 79) := ⟨_, rfl⟩
            have hb : Below v3.heap.size v3 v4 := by rw [hv2]; exact (Below.refl _ _).alloc (Nat.le_refl _) _
            have hA : v4.heap[v3.heap.size]? = some (.cells #[.slice none 0 0, .slice none 0 0, .slice none 0 0] 79 (0, 0)) := by rw [hv2]; exact heap_alloc_new _ _
            have hS : v4.heap.size = v3.heap.size + 1 := by rw [hv2]; exact World.size_alloc _ _
            refine stepV (i := 10) (v := .pointer (some ⟨v3.heap.size, 0, none⟩)) (w' := v4) rfl (by rfl) (fun _ _ => trivial) (by rfl) (by rw [hv2]; kernel_rfl) (fun _ => (hb.block b0 (Array.getElem?_eq_some_iff.1 HCx.out).1).trans HCx.out) ?_
            simp only [List.getElem_toArray, List.getElem_cons_zero, List.getElem_cons_succ, Act.put, List.setIfInBounds_toArray, List.set_cons_zero, List.set_cons_succ]
            obtain ⟨bp, hbp⟩ : ∃ bp, bp = v3.heap.size := ⟨_, rfl⟩
            rw [← hbp] at hA ⊢
            have Hbp := Lib.hid hA
            have HKp : Hid (v3.heap.size ≤ bp ∧ bp < v4.heap.size ∧ w.heap.size ≤ bp) := Lib.hid (by have := HZv.out; have := HB0.out; omega)
            clear hA hS hbp hv2
            have hz := hb.size
            have HZv4 : Hid (v3.heap.size ≤ v4.heap.size) := Lib.hid hz
            replace HCx : Hid ((fun w' : World => w'.heap[b0]? = some (.cells #[.slice oT nT cT, .slice oM nM cM, .slice oL nL cL] 79 (0, 0))) v4) := Lib.hid ((hb.block b0 (Array.getElem?_eq_some_iff.1 HCx.out).1).trans HCx.out)
            replace HBv : Hid (Below w.heap.size w v4) := Lib.hid (HBv.out.trans (hb.mono HBv.out.size))
            replace HZv : Hid (b0 + 1 ≤ v4.heap.size) := Lib.hid (Nat.le_trans HZv.out hz)
            replace HOT := Lib.hid (HOT.out.below hb (Nat.le_refl _))
            replace HOM := Lib.hid (HOM.out.below hb (Nat.le_refl _))
            replace HOL := Lib.hid (HOL.out.below hb (Nat.le_refl _))
            clear hb hz
            have HF : Hid (Own w.heap.size 91 v4 gT T0.length dT (ivs .u16 (natsI T0)) ∧ Own w.heap.size 91 v4 gM M0.length dM (ivs .u16 (natsI M0)) ∧ Own w.heap.size 5 v4 gL L0.length dL (ivs .u8 L0) ∧ Dis3 gT gM gL ∧ (blkO gT ≠ some bp ∧ blkO gM ≠ some bp ∧ blkO gL ≠ some bp) ∧ w.heap.size ≤ bp) := Lib.hid (by
              have := HZv1.out; have := HZv2.out; have := HZv3.out; have := HZv4.out
              have kp := HKp.out
              have wz : w.heap.size ≤ v0.heap.size := HZ0.out
              rw [HlT.out, HlM.out, HlL.out]
              refine ⟨HOT.out.mono (by omega), HOM.out.mono (by omega), HOL.out.mono (by omega), ⟨fun q e => ⟨fun e2 => ?_, fun e2 => ?_⟩, fun q e e2 => ?_⟩, ⟨fun e => ?_, fun e => ?_, fun e => ?_⟩, kp.2.2⟩
              · have a1 := HKT.out q e; have a2 := HKM.out q e2; omega
              · have a1 := HKT.out q e; have a2 := HKL.out q e2; omega
              · have a1 := HKM.out q e; have a2 := HKL.out q e2; omega
              · have a1 := HKT.out bp e; omega
              · have a1 := HKM.out bp e; omega
              · have a1 := HKL.out bp e; omega)
            obtain ⟨v9, hv9⟩ : ∃ v9, v9 = v4 := ⟨_, rfl⟩
            rw [← hv9] at HF Hbp HBv ⊢
            clear hv9
            refine anyC_tail 11 (by rfl) (by kernel_rfl) (by kernel_rfl) ?_
            simp only [List.drop_succ_cons, List.drop_zero]
            have r0 := cell_of_row v9 bp 0 _ _ (0, 0) Hbp.out
            have r1 := cell_of_row v9 bp 1 _ _ (0, 0) Hbp.out
            have r2 := cell_of_row v9 bp 2 _ _ (0, 0) Hbp.out
            have f0 := frozen_of_row v9 bp 0 _ _ Hbp.out
            have f1 := frozen_of_row v9 bp 1 _ _ Hbp.out
            have f2 := frozen_of_row v9 bp 2 _ _ Hbp.out
            simp at r0 r1 r2
            have HJ := Lib.hid (PSt.put0 (w := w) (X := v9) (bp := bp) (T := T0) (M := M0) (L := L0) Hbp.out HF.out.1 HF.out.2.1 HF.out.2.2.1 HF.out.2.2.2.1 HF.out.2.2.2.2.1 HF.out.2.2.2.2.2 HBv.out)
            rw [HlT.out, HlM.out, HlL.out] at HJ
            gi_wp2
            go_meet
            exact ⟨bp, rfl, HJ.out⟩
          · obtain ⟨v5, hv2⟩ : ∃ vv, vv = v3.alloc (.cells #[.slice none 0 0, .slice none 0 0, .slice none 0 0] 79) := ⟨_, rfl⟩
            have hb : Below v3.heap.size v3 v5 := by rw [hv2]; exact (Below.refl _ _).alloc (Nat.le_refl _) _
            have hA : v5.heap[v3.heap.size]? = some (.cells #[.slice none 0 0, .slice none 0 0, .slice none 0 0] 79 (0, 0)) := by rw [hv2]; exact heap_alloc_new _ _
            have hS : v5.heap.size = v3.heap.size + 1 := by rw [hv2]; exact World.size_alloc _ _
            refine stepV (i := 10) (v := .pointer (some ⟨v3.heap.size, 0, none⟩)) (w' := v5) rfl (by rfl) (fun _ _ => trivial) (by rfl) (by rw [hv2]; kernel_rfl) (fun _ => (hb.block b0 (Array.getElem?_eq_some_iff.1 HCx.out).1).trans HCx.out) ?_
            simp only [List.getElem_toArray, List.getElem_cons_zero, List.getElem_cons_succ, Act.put, List.setIfInBounds_toArray, List.set_cons_zero, List.set_cons_succ]
            obtain ⟨bp, hbp⟩ : ∃ bp, bp = v3.heap.size := ⟨_, rfl⟩
            rw [← hbp] at hA ⊢
            have Hbp := Lib.hid hA
            have HKp : Hid (v3.heap.size ≤ bp ∧ bp < v5.heap.size ∧ w.heap.size ≤ bp) := Lib.hid (by have := HZv.out; have := HB0.out; omega)
            clear hA hS hbp hv2
            have hz := hb.size
            have HZv5 : Hid (v3.heap.size ≤ v5.heap.size) := Lib.hid hz
            replace HCx : Hid ((fun w' : World => w'.heap[b0]? = some (.cells #[.slice oT nT cT, .slice oM nM cM, .slice oL nL cL] 79 (0, 0))) v5) := Lib.hid ((hb.block b0 (Array.getElem?_eq_some_iff.1 HCx.out).1).trans HCx.out)
            replace HBv : Hid (Below w.heap.size w v5) := Lib.hid (HBv.out.trans (hb.mono HBv.out.size))
            replace HZv : Hid (b0 + 1 ≤ v5.heap.size) := Lib.hid (Nat.le_trans HZv.out hz)
            replace HOT := Lib.hid (HOT.out.below hb (Nat.le_refl _))
            replace HOM := Lib.hid (HOM.out.below hb (Nat.le_refl _))
            replace HOL := Lib.hid (HOL.out.below hb (Nat.le_refl _))
            clear hb hz
            refine anyC_r1 (i := 9) (by kernel_rfl) ?_
            refine stepV (i := 9) (v := .agg #[.slice gT nT dT, .slice gM nM dM, .slice gL nL dL]) (w' := v5) rfl (by rfl) (fun _ _ => trivial) (by rfl) (exec_build3 79 (.tmp 45) (.tmp 48) (.tmp 51) rfl (.slice gT nT dT) (.slice gM nM dM) (.slice gL nL dL) _ rfl rfl rfl (by kernel_rfl)) (fun _ => HCx.out) ?_
            simp only [List.getElem_toArray, List.getElem_cons_zero, List.getElem_cons_succ, Act.put, List.setIfInBounds_toArray, List.set_cons_zero, List.set_cons_succ]
            have HF : Hid (Own w.heap.size 91 v5 gT T0.length dT (ivs .u16 (natsI T0)) ∧ Own w.heap.size 91 v5 gM M0.length dM (ivs .u16 (natsI M0)) ∧ Own w.heap.size 5 v5 gL L0.length dL (ivs .u8 L0) ∧ Dis3 gT gM gL ∧ (blkO gT ≠ some bp ∧ blkO gM ≠ some bp ∧ blkO gL ≠ some bp) ∧ w.heap.size ≤ bp) := Lib.hid (by
              have := HZv1.out; have := HZv2.out; have := HZv3.out; have := HZv5.out
              have kp := HKp.out
              have wz : w.heap.size ≤ v0.heap.size := HZ0.out
              rw [HlT.out, HlM.out, HlL.out]
              refine ⟨HOT.out.mono (by omega), HOM.out.mono (by omega), HOL.out.mono (by omega), ⟨fun q e => ⟨fun e2 => ?_, fun e2 => ?_⟩, fun q e e2 => ?_⟩, ⟨fun e => ?_, fun e => ?_, fun e => ?_⟩, kp.2.2⟩
              · have a1 := HKT.out q e; have a2 := HKM.out q e2; omega
              · have a1 := HKT.out q e; have a2 := HKL.out q e2; omega
              · have a1 := HKM.out q e; have a2 := HKL.out q e2; omega
              · have a1 := HKT.out bp e; omega
              · have a1 := HKM.out bp e; omega
              · have a1 := HKL.out bp e; omega)
            obtain ⟨v9, hv9⟩ : ∃ v9, v9 = v5 := ⟨_, rfl⟩
            rw [← hv9] at HF Hbp HBv ⊢
            clear hv9
            refine anyC_tail 11 (by rfl) (by kernel_rfl) (by kernel_rfl) ?_
            simp only [List.drop_succ_cons, List.drop_zero]
            have r0 := cell_of_row v9 bp 0 _ _ (0, 0) Hbp.out
            have r1 := cell_of_row v9 bp 1 _ _ (0, 0) Hbp.out
            have r2 := cell_of_row v9 bp 2 _ _ (0, 0) Hbp.out
            have f0 := frozen_of_row v9 bp 0 _ _ Hbp.out
            have f1 := frozen_of_row v9 bp 1 _ _ Hbp.out
            have f2 := frozen_of_row v9 bp 2 _ _ Hbp.out
            simp at r0 r1 r2
            have HJ := Lib.hid (PSt.put0 (w := w) (X := v9) (bp := bp) (T := T0) (M := M0) (L := L0) Hbp.out HF.out.1 HF.out.2.1 HF.out.2.2.1 HF.out.2.2.2.1 HF.out.2.2.2.2.1 HF.out.2.2.2.2.2 HBv.out)
            rw [HlT.out, HlM.out, HlL.out] at HJ
            gi_wp2
            go_meet
            exact ⟨bp, rfl, HJ.out⟩
        · obtain ⟨v6, hv2⟩ : ∃ vv, vv = v2.alloc (.cells #[.slice none 0 0, .slice none 0 0, .slice none 0 0] 79) := ⟨_, rfl⟩
          have hb : Below v2.heap.size v2 v6 := by rw [hv2]; exact (Below.refl _ _).alloc (Nat.le_refl _) _
          have hA : v6.heap[v2.heap.size]? = some (.cells #[.slice none 0 0, .slice none 0 0, .slice none 0 0] 79 (0, 0)) := by rw [hv2]; exact heap_alloc_new _ _
          have hS : v6.heap.size = v2.heap.size + 1 := by rw [hv2]; exact World.size_alloc _ _
          refine stepV (i := 10) (v := .pointer (some ⟨v2.heap.size, 0, none⟩)) (w' := v6) rfl (by rfl) (fun _ _ => trivial) (by rfl) (by rw [hv2]; kernel_rfl) (fun _ => (hb.block b0 (Array.getElem?_eq_some_iff.1 HCx.out).1).trans HCx.out) ?_
          simp only [List.getElem_toArray, List.getElem_cons_zero, List.getElem_cons_succ, Act.put, List.setIfInBounds_toArray, List.set_cons_zero, List.set_cons_succ]
          obtain ⟨bp, hbp⟩ : ∃ bp, bp = v2.heap.size := ⟨_, rfl⟩
          rw [← hbp] at hA ⊢
          have Hbp := Lib.hid hA
          have HKp : Hid (v2.heap.size ≤ bp ∧ bp < v6.heap.size ∧ w.heap.size ≤ bp) := Lib.hid (by have := HZv.out; have := HB0.out; omega)
          clear hA hS hbp hv2
          have hz := hb.size
          have HZv6 : Hid (v2.heap.size ≤ v6.heap.size) := Lib.hid hz
          replace HCx : Hid ((fun w' : World => w'.heap[b0]? = some (.cells #[.slice oT nT cT, .slice oM nM cM, .slice oL nL cL] 79 (0, 0))) v6) := Lib.hid ((hb.block b0 (Array.getElem?_eq_some_iff.1 HCx.out).1).trans HCx.out)
          replace HBv : Hid (Below w.heap.size w v6) := Lib.hid (HBv.out.trans (hb.mono HBv.out.size))
          replace HZv : Hid (b0 + 1 ≤ v6.heap.size) := Lib.hid (Nat.le_trans HZv.out hz)
          replace HOT := Lib.hid (HOT.out.below hb (Nat.le_refl _))
          replace HOM := Lib.hid (HOM.out.below hb (Nat.le_refl _))
          clear hb hz
          refine anyC_r1 (i := 8) (by kernel_rfl) ?_
          refine step_cp (i := 8) Try.elemI8N rfl (by rfl) (fun _ _ => trivial) (by rfl) (.tmp 50) rfl (by rw [ivs_length, HlL.out]) (HIL.out.below HBv.out (Nat.le_refl _)).src HnoL.out (ivs_one _ _) (by omega) (by unfold maxLen; omega) rfl (fun w' hb => (hb.block b0 (Array.getElem?_eq_some_iff.1 HCx.out).1).trans HCx.out) ?_
          intro gL dL v7 ho hb
          simp only [List.getElem_toArray, List.getElem_cons_zero, List.getElem_cons_succ, Act.put, List.setIfInBounds_toArray, List.set_cons_zero, List.set_cons_succ]
          have HOL := Lib.hid ho
          have HKL := Lib.hid ho.blt
          clear ho
          have hz := hb.size
          have HZv7 : Hid (v6.heap.size ≤ v7.heap.size) := Lib.hid hz
          replace HCx : Hid ((fun w' : World => w'.heap[b0]? = some (.cells #[.slice oT nT cT, .slice oM nM cM, .slice oL nL cL] 79 (0, 0))) v7) := Lib.hid ((hb.block b0 (Array.getElem?_eq_some_iff.1 HCx.out).1).trans HCx.out)
          replace HBv : Hid (Below w.heap.size w v7) := Lib.hid (HBv.out.trans (hb.mono HBv.out.size))
          replace HZv : Hid (b0 + 1 ≤ v7.heap.size) := Lib.hid (Nat.le_trans HZv.out hz)
          replace HOT := Lib.hid (HOT.out.below hb (Nat.le_refl _))
          replace HOM := Lib.hid (HOM.out.below hb (Nat.le_refl _))
          replace Hbp := Lib.hid ((hb.block bp (Array.getElem?_eq_some_iff.1 Hbp.out).1).trans Hbp.out)
          clear hb hz
          refine anyC_r1 (i := 9) (by kernel_rfl) ?_
          refine stepV (i := 9) (v := .agg #[.slice gT nT dT, .slice gM nM dM, .slice gL nL dL]) (w' := v7) rfl (by rfl) (fun _ _ => trivial) (by rfl) (exec_build3 79 (.tmp 45) (.tmp 48) (.tmp 51) rfl (.slice gT nT dT) (.slice gM nM dM) (.slice gL nL dL) _ rfl rfl rfl (by kernel_rfl)) (fun _ => HCx.out) ?_
          simp only [List.getElem_toArray, List.getElem_cons_zero, List.getElem_cons_succ, Act.put, List.setIfInBounds_toArray, List.set_cons_zero, List.set_cons_succ]
          have HF : Hid (Own w.heap.size 91 v7 gT T0.length dT (ivs .u16 (natsI T0)) ∧ Own w.heap.size 91 v7 gM M0.length dM (ivs .u16 (natsI M0)) ∧ Own w.heap.size 5 v7 gL L0.length dL (ivs .u8 L0) ∧ Dis3 gT gM gL ∧ (blkO gT ≠ some bp ∧ blkO gM ≠ some bp ∧ blkO gL ≠ some bp) ∧ w.heap.size ≤ bp) := Lib.hid (by
            have := HZv1.out; have := HZv2.out; have := HZv6.out; have := HZv7.out
            have kp := HKp.out
            have wz : w.heap.size ≤ v0.heap.size := HZ0.out
            rw [HlT.out, HlM.out, HlL.out]
            refine ⟨HOT.out.mono (by omega), HOM.out.mono (by omega), HOL.out.mono (by omega), ⟨fun q e => ⟨fun e2 => ?_, fun e2 => ?_⟩, fun q e e2 => ?_⟩, ⟨fun e => ?_, fun e => ?_, fun e => ?_⟩, kp.2.2⟩
            · have a1 := HKT.out q e; have a2 := HKM.out q e2; omega
            · have a1 := HKT.out q e; have a2 := HKL.out q e2; omega
            · have a1 := HKM.out q e; have a2 := HKL.out q e2; omega
            · have a1 := HKT.out bp e; omega
            · have a1 := HKM.out bp e; omega
            · have a1 := HKL.out bp e; omega)
          obtain ⟨v9, hv9⟩ : ∃ v9, v9 = v7 := ⟨_, rfl⟩
          rw [← hv9] at HF Hbp HBv ⊢
          clear hv9
          refine anyC_tail 11 (by rfl) (by kernel_rfl) (by kernel_rfl) ?_
          simp only [List.drop_succ_cons, List.drop_zero]
          have r0 := cell_of_row v9 bp 0 _ _ (0, 0) Hbp.out
          have r1 := cell_of_row v9 bp 1 _ _ (0, 0) Hbp.out
          have r2 := cell_of_row v9 bp 2 _ _ (0, 0) Hbp.out
          have f0 := frozen_of_row v9 bp 0 _ _ Hbp.out
          have f1 := frozen_of_row v9 bp 1 _ _ Hbp.out
          have f2 := frozen_of_row v9 bp 2 _ _ Hbp.out
          simp at r0 r1 r2
          have HJ := Lib.hid (PSt.put0 (w := w) (X := v9) (bp := bp) (T := T0) (M := M0) (L := L0) Hbp.out HF.out.1 HF.out.2.1 HF.out.2.2.1 HF.out.2.2.2.1 HF.out.2.2.2.2.1 HF.out.2.2.2.2.2 HBv.out)
          rw [HlT.out, HlM.out, HlL.out] at HJ
          gi_wp2
          go_meet
          exact ⟨bp, rfl, HJ.out⟩
      · obtain ⟨v8, hv2⟩ : ∃ vv, vv = v1.alloc (.cells #[.slice none 0 0, .slice none 0 0, .slice none 0 0] 79) := ⟨_, rfl⟩
        have hb : Below v1.heap.size v1 v8 := by rw [hv2]; exact (Below.refl _ _).alloc (Nat.le_refl _) _
        have hA : v8.heap[v1.heap.size]? = some (.cells #[.slice none 0 0, .slice none 0 0, .slice none 0 0] 79 (0, 0)) := by rw [hv2]; exact heap_alloc_new _ _
        have hS : v8.heap.size = v1.heap.size + 1 := by rw [hv2]; exact World.size_alloc _ _
        refine stepV (i := 10) (v := .pointer (some ⟨v1.heap.size, 0, none⟩)) (w' := v8) rfl (by rfl) (fun _ _ => trivial) (by rfl) (by rw [hv2]; kernel_rfl) (fun _ => (hb.block b0 (Array.getElem?_eq_some_iff.1 HCx.out).1).trans HCx.out) ?_
        simp only [List.getElem_toArray, List.getElem_cons_zero, List.getElem_cons_succ, Act.put, List.setIfInBounds_toArray, List.set_cons_zero, List.set_cons_succ]
        obtain ⟨bp, hbp⟩ : ∃ bp, bp = v1.heap.size := ⟨_, rfl⟩
        rw [← hbp] at hA ⊢
        have Hbp := Lib.hid hA
        have HKp : Hid (v1.heap.size ≤ bp ∧ bp < v8.heap.size ∧ w.heap.size ≤ bp) := Lib.hid (by have := HZv.out; have := HB0.out; omega)
        clear hA hS hbp hv2
        have hz := hb.size
        have HZv8 : Hid (v1.heap.size ≤ v8.heap.size) := Lib.hid hz
        replace HCx : Hid ((fun w' : World => w'.heap[b0]? = some (.cells #[.slice oT nT cT, .slice oM nM cM, .slice oL nL cL] 79 (0, 0))) v8) := Lib.hid ((hb.block b0 (Array.getElem?_eq_some_iff.1 HCx.out).1).trans HCx.out)
        replace HBv : Hid (Below w.heap.size w v8) := Lib.hid (HBv.out.trans (hb.mono HBv.out.size))
        replace HZv : Hid (b0 + 1 ≤ v8.heap.size) := Lib.hid (Nat.le_trans HZv.out hz)
        replace HOT := Lib.hid (HOT.out.below hb (Nat.le_refl _))
        clear hb hz
        refine anyC_r1 (i := 5) (by kernel_rfl) ?_
        refine step_cp (i := 5) Try.elemI16N rfl (by rfl) (fun _ _ => trivial) (by rfl) (.tmp 47) rfl (by rw [ivs_length, natsI_length, HlM.out]) (HIM.out.below HBv.out (Nat.le_refl _)).src HnoM.out (ivs_one _ _) (by omega) (by unfold maxLen; omega) rfl (fun w' hb => (hb.block b0 (Array.getElem?_eq_some_iff.1 HCx.out).1).trans HCx.out) ?_
        intro gM dM v9 ho hb
        simp only [List.getElem_toArray, List.getElem_cons_zero, List.getElem_cons_succ, Act.put, List.setIfInBounds_toArray, List.set_cons_zero, List.set_cons_succ]
        have HOM := Lib.hid ho
        have HKM := Lib.hid ho.blt
        clear ho
        have hz := hb.size
        have HZv9 : Hid (v8.heap.size ≤ v9.heap.size) := Lib.hid hz
        replace HCx : Hid ((fun w' : World => w'.heap[b0]? = some (.cells #[.slice oT nT cT, .slice oM nM cM, .slice oL nL cL] 79 (0, 0))) v9) := Lib.hid ((hb.block b0 (Array.getElem?_eq_some_iff.1 HCx.out).1).trans HCx.out)
        replace HBv : Hid (Below w.heap.size w v9) := Lib.hid (HBv.out.trans (hb.mono HBv.out.size))
        replace HZv : Hid (b0 + 1 ≤ v9.heap.size) := Lib.hid (Nat.le_trans HZv.out hz)
        replace HOT := Lib.hid (HOT.out.below hb (Nat.le_refl _))
        replace Hbp := Lib.hid ((hb.block bp (Array.getElem?_eq_some_iff.1 Hbp.out).1).trans Hbp.out)
        clear hb hz
        refine anyC_r1 (i := 8) (by kernel_rfl) ?_
        refine step_cp (i := 8) Try.elemI8N rfl (by rfl) (fun _ _ => trivial) (by rfl) (.tmp 50) rfl (by rw [ivs_length, HlL.out]) (HIL.out.below HBv.out (Nat.le_refl _)).src HnoL.out (ivs_one _ _) (by omega) (by unfold maxLen; omega) rfl (fun w' hb => (hb.block b0 (Array.getElem?_eq_some_iff.1 HCx.out).1).trans HCx.out) ?_
        intro gL dL v10 ho hb
        simp only [List.getElem_toArray, List.getElem_cons_zero, List.getElem_cons_succ, Act.put, List.setIfInBounds_toArray, List.set_cons_zero, List.set_cons_succ]
        have HOL := Lib.hid ho
        have HKL := Lib.hid ho.blt
        clear ho
        have hz := hb.size
        have HZv10 : Hid (v9.heap.size ≤ v10.heap.size) := Lib.hid hz
        replace HCx : Hid ((fun w' : World => w'.heap[b0]? = some (.cells #[.slice oT nT cT, .slice oM nM cM, .slice oL nL cL] 79 (0, 0))) v10) := Lib.hid ((hb.block b0 (Array.getElem?_eq_some_iff.1 HCx.out).1).trans HCx.out)
        replace HBv : Hid (Below w.heap.size w v10) := Lib.hid (HBv.out.trans (hb.mono HBv.out.size))
        replace HZv : Hid (b0 + 1 ≤ v10.heap.size) := Lib.hid (Nat.le_trans HZv.out hz)
        replace HOT := Lib.hid (HOT.out.below hb (Nat.le_refl _))
        replace Hbp := Lib.hid ((hb.block bp (Array.getElem?_eq_some_iff.1 Hbp.out).1).trans Hbp.out)
        replace HOM := Lib.hid (HOM.out.below hb (Nat.le_refl _))
        clear hb hz
        refine anyC_r1 (i := 9) (by kernel_rfl) ?_
        refine stepV (i := 9) (v := .agg #[.slice gT nT dT, .slice gM nM dM, .slice gL nL dL]) (w' := v10) rfl (by rfl) (fun _ _ => trivial) (by rfl) (exec_build3 79 (.tmp 45) (.tmp 48) (.tmp 51) rfl (.slice gT nT dT) (.slice gM nM dM) (.slice gL nL dL) _ rfl rfl rfl (by kernel_rfl)) (fun _ => HCx.out) ?_
        simp only [List.getElem_toArray, List.getElem_cons_zero, List.getElem_cons_succ, Act.put, List.setIfInBounds_toArray, List.set_cons_zero, List.set_cons_succ]
        have HF : Hid (Own w.heap.size 91 v10 gT T0.length dT (ivs .u16 (natsI T0)) ∧ Own w.heap.size 91 v10 gM M0.length dM (ivs .u16 (natsI M0)) ∧ Own w.heap.size 5 v10 gL L0.length dL (ivs .u8 L0) ∧ Dis3 gT gM gL ∧ (blkO gT ≠ some bp ∧ blkO gM ≠ some bp ∧ blkO gL ≠ some bp) ∧ w.heap.size ≤ bp) := Lib.hid (by
          have := HZv1.out; have := HZv8.out; have := HZv9.out; have := HZv10.out
          have kp := HKp.out
          have wz : w.heap.size ≤ v0.heap.size := HZ0.out
          rw [HlT.out, HlM.out, HlL.out]
          refine ⟨HOT.out.mono (by omega), HOM.out.mono (by omega), HOL.out.mono (by omega), ⟨fun q e => ⟨fun e2 => ?_, fun e2 => ?_⟩, fun q e e2 => ?_⟩, ⟨fun e => ?_, fun e => ?_, fun e => ?_⟩, kp.2.2⟩
          · have a1 := HKT.out q e; have a2 := HKM.out q e2; omega
          · have a1 := HKT.out q e; have a2 := HKL.out q e2; omega
          · have a1 := HKM.out q e; have a2 := HKL.out q e2; omega
          · have a1 := HKT.out bp e; omega
          · have a1 := HKM.out bp e; omega
          · have a1 := HKL.out bp e; omega)
        obtain ⟨v9, hv9⟩ : ∃ v9, v9 = v10 := ⟨_, rfl⟩
        rw [← hv9] at HF Hbp HBv ⊢
        clear hv9
        refine anyC_tail 11 (by rfl) (by kernel_rfl) (by kernel_rfl) ?_
        simp only [List.drop_succ_cons, List.drop_zero]
        have r0 := cell_of_row v9 bp 0 _ _ (0, 0) Hbp.out
        have r1 := cell_of_row v9 bp 1 _ _ (0, 0) Hbp.out
        have r2 := cell_of_row v9 bp 2 _ _ (0, 0) Hbp.out
        have f0 := frozen_of_row v9 bp 0 _ _ Hbp.out
        have f1 := frozen_of_row v9 bp 1 _ _ Hbp.out
        have f2 := frozen_of_row v9 bp 2 _ _ Hbp.out
        simp at r0 r1 r2
        have HJ := Lib.hid (PSt.put0 (w := w) (X := v9) (bp := bp) (T := T0) (M := M0) (L := L0) Hbp.out HF.out.1 HF.out.2.1 HF.out.2.2.1 HF.out.2.2.2.1 HF.out.2.2.2.2.1 HF.out.2.2.2.2.2 HBv.out)
        rw [HlT.out, HlM.out, HlL.out] at HJ
        gi_wp2
        go_meet
        exact ⟨bp, rfl, HJ.out⟩
    · obtain ⟨v11, hv2⟩ : ∃ vv, vv = v0.alloc (.cells #[.slice none 0 0, .slice none 0 0, .slice none 0 0] 79) := ⟨_, rfl⟩
      have hb : Below v0.heap.size v0 v11 := by rw [hv2]; exact (Below.refl _ _).alloc (Nat.le_refl _) _
      have hA : v11.heap[v0.heap.size]? = some (.cells #[.slice none 0 0, .slice none 0 0, .slice none 0 0] 79 (0, 0)) := by rw [hv2]; exact heap_alloc_new _ _
      have hS : v11.heap.size = v0.heap.size + 1 := by rw [hv2]; exact World.size_alloc _ _
      refine stepV (i := 10) (v := .pointer (some ⟨v0.heap.size, 0, none⟩)) (w' := v11) rfl (by rfl) (fun _ _ => trivial) (by rfl) (by rw [hv2]; kernel_rfl) (fun _ => (hb.block b0 (Array.getElem?_eq_some_iff.1 HCx.out).1).trans HCx.out) ?_
      simp only [List.getElem_toArray, List.getElem_cons_zero, List.getElem_cons_succ, Act.put, List.setIfInBounds_toArray, List.set_cons_zero, List.set_cons_succ]
      obtain ⟨bp, hbp⟩ : ∃ bp, bp = v0.heap.size := ⟨_, rfl⟩
      rw [← hbp] at hA ⊢
      have Hbp := Lib.hid hA
      have HKp : Hid (v0.heap.size ≤ bp ∧ bp < v11.heap.size ∧ w.heap.size ≤ bp) := Lib.hid (by have := HZv.out; have := HB0.out; omega)
      clear hA hS hbp hv2
      have hz := hb.size
      have HZv11 : Hid (v0.heap.size ≤ v11.heap.size) := Lib.hid hz
      replace HCx : Hid ((fun w' : World => w'.heap[b0]? = some (.cells #[.slice oT nT cT, .slice oM nM cM, .slice oL nL cL] 79 (0, 0))) v11) := Lib.hid ((hb.block b0 (Array.getElem?_eq_some_iff.1 HCx.out).1).trans HCx.out)
      replace HBv : Hid (Below w.heap.size w v11) := Lib.hid (HBv.out.trans (hb.mono HBv.out.size))
      replace HZv : Hid (b0 + 1 ≤ v11.heap.size) := Lib.hid (Nat.le_trans HZv.out hz)
      clear hb hz
      refine anyC_r1 (i := 2) (by kernel_rfl) ?_
      refine step_cp (i := 2) Try.elemI16N rfl (by rfl) (fun _ _ => trivial) (by rfl) (.tmp 44) rfl (by rw [ivs_length, natsI_length, HlT.out]) (HIT.out.below HBv.out (Nat.le_refl _)).src HnoT.out (ivs_one _ _) (by omega) (by unfold maxLen; omega) rfl (fun w' hb => (hb.block b0 (Array.getElem?_eq_some_iff.1 HCx.out).1).trans HCx.out) ?_
      intro gT dT v12 ho hb
      simp only [List.getElem_toArray, List.getElem_cons_zero, List.getElem_cons_succ, Act.put, List.setIfInBounds_toArray, List.set_cons_zero, List.set_cons_succ]
      have HOT := Lib.hid ho
      have HKT := Lib.hid ho.blt
      clear ho
      have hz := hb.size
      have HZv12 : Hid (v11.heap.size ≤ v12.heap.size) := Lib.hid hz
      replace HCx : Hid ((fun w' : World => w'.heap[b0]? = some (.cells #[.slice oT nT cT, .slice oM nM cM, .slice oL nL cL] 79 (0, 0))) v12) := Lib.hid ((hb.block b0 (Array.getElem?_eq_some_iff.1 HCx.out).1).trans HCx.out)
      replace HBv : Hid (Below w.heap.size w v12) := Lib.hid (HBv.out.trans (hb.mono HBv.out.size))
      replace HZv : Hid (b0 + 1 ≤ v12.heap.size) := Lib.hid (Nat.le_trans HZv.out hz)
      replace Hbp := Lib.hid ((hb.block bp (Array.getElem?_eq_some_iff.1 Hbp.out).1).trans Hbp.out)
      clear hb hz
      refine anyC_r1 (i := 5) (by kernel_rfl) ?_
      refine step_cp (i := 5) Try.elemI16N rfl (by rfl) (fun _ _ => trivial) (by rfl) (.tmp 47) rfl (by rw [ivs_length, natsI_length, HlM.out]) (HIM.out.below HBv.out (Nat.le_refl _)).src HnoM.out (ivs_one _ _) (by omega) (by unfold maxLen; omega) rfl (fun w' hb => (hb.block b0 (Array.getElem?_eq_some_iff.1 HCx.out).1).trans HCx.out) ?_
      intro gM dM v13 ho hb
      simp only [List.getElem_toArray, List.getElem_cons_zero, List.getElem_cons_succ, Act.put, List.setIfInBounds_toArray, List.set_cons_zero, List.set_cons_succ]
      have HOM := Lib.hid ho
      have HKM := Lib.hid ho.blt
      clear ho
      have hz := hb.size
      have HZv13 : Hid (v12.heap.size ≤ v13.heap.size) := Lib.hid hz
      replace HCx : Hid ((fun w' : World => w'.heap[b0]? = some (.cells #[.slice oT nT cT, .slice oM nM cM, .slice oL nL cL] 79 (0, 0))) v13) := Lib.hid ((hb.block b0 (Array.getElem?_eq_some_iff.1 HCx.out).1).trans HCx.out)
      replace HBv : Hid (Below w.heap.size w v13) := Lib.hid (HBv.out.trans (hb.mono HBv.out.size))
      replace HZv : Hid (b0 + 1 ≤ v13.heap.size) := Lib.hid (Nat.le_trans HZv.out hz)
      replace Hbp := Lib.hid ((hb.block bp (Array.getElem?_eq_some_iff.1 Hbp.out).1).trans Hbp.out)
      replace HOT := Lib.hid (HOT.out.below hb (Nat.le_refl _))
      clear hb hz
      refine anyC_r1 (i := 8) (by kernel_rfl) ?_
      refine step_cp (i := 8) Try.elemI8N rfl (by rfl) (fun _ _ => trivial) (by rfl) (.tmp 50) rfl (by rw [ivs_length, HlL.out]) (HIL.out.below HBv.out (Nat.le_refl _)).src HnoL.out (ivs_one _ _) (by omega) (by unfold maxLen; omega) rfl (fun w' hb => (hb.block b0 (Array.getElem?_eq_some_iff.1 HCx.out).1).trans HCx.out) ?_
      intro gL dL v14 ho hb
      simp only [List.getElem_toArray, List.getElem_cons_zero, List.getElem_cons_succ, Act.put, List.setIfInBounds_toArray, List.set_cons_zero, List.set_cons_succ]
      have HOL := Lib.hid ho
      have HKL := Lib.hid ho.blt
      clear ho
      have hz := hb.size
      have HZv14 : Hid (v13.heap.size ≤ v14.heap.size) := Lib.hid hz
      replace HCx : Hid ((fun w' : World => w'.heap[b0]? = some (.cells #[.slice oT nT cT, .slice oM nM cM, .slice oL nL cL] 79 (0, 0))) v14) := Lib.hid ((hb.block b0 (Array.getElem?_eq_some_iff.1 HCx.out).1).trans HCx.out)
      replace HBv : Hid (Below w.heap.size w v14) := Lib.hid (HBv.out.trans (hb.mono HBv.out.size))
      replace HZv : Hid (b0 + 1 ≤ v14.heap.size) := Lib.hid (Nat.le_trans HZv.out hz)
      replace Hbp := Lib.hid ((hb.block bp (Array.getElem?_eq_some_iff.1 Hbp.out).1).trans Hbp.out)
      replace HOT := Lib.hid (HOT.out.below hb (Nat.le_refl _))
      replace HOM := Lib.hid (HOM.out.below hb (Nat.le_refl _))
      clear hb hz
      refine anyC_r1 (i := 9) (by kernel_rfl) ?_
      refine stepV (i := 9) (v := .agg #[.slice gT nT dT, .slice gM nM dM, .slice gL nL dL]) (w' := v14) rfl (by rfl) (fun _ _ => trivial) (by rfl) (exec_build3 79 (.tmp 45) (.tmp 48) (.tmp 51) rfl (.slice gT nT dT) (.slice gM nM dM) (.slice gL nL dL) _ rfl rfl rfl (by kernel_rfl)) (fun _ => HCx.out) ?_
      simp only [List.getElem_toArray, List.getElem_cons_zero, List.getElem_cons_succ, Act.put, List.setIfInBounds_toArray, List.set_cons_zero, List.set_cons_succ]
      have HF : Hid (Own w.heap.size 91 v14 gT T0.length dT (ivs .u16 (natsI T0)) ∧ Own w.heap.size 91 v14 gM M0.length dM (ivs .u16 (natsI M0)) ∧ Own w.heap.size 5 v14 gL L0.length dL (ivs .u8 L0) ∧ Dis3 gT gM gL ∧ (blkO gT ≠ some bp ∧ blkO gM ≠ some bp ∧ blkO gL ≠ some bp) ∧ w.heap.size ≤ bp) := Lib.hid (by
        have := HZv11.out; have := HZv12.out; have := HZv13.out; have := HZv14.out
        have kp := HKp.out
        have wz : w.heap.size ≤ v0.heap.size := HZ0.out
        rw [HlT.out, HlM.out, HlL.out]
        refine ⟨HOT.out.mono (by omega), HOM.out.mono (by omega), HOL.out.mono (by omega), ⟨fun q e => ⟨fun e2 => ?_, fun e2 => ?_⟩, fun q e e2 => ?_⟩, ⟨fun e => ?_, fun e => ?_, fun e => ?_⟩, kp.2.2⟩
        · have a1 := HKT.out q e; have a2 := HKM.out q e2; omega
        · have a1 := HKT.out q e; have a2 := HKL.out q e2; omega
        · have a1 := HKM.out q e; have a2 := HKL.out q e2; omega
        · have a1 := HKT.out bp e; omega
        · have a1 := HKM.out bp e; omega
        · have a1 := HKL.out bp e; omega)
      obtain ⟨v9, hv9⟩ : ∃ v9, v9 = v14 := ⟨_, rfl⟩
      rw [← hv9] at HF Hbp HBv ⊢
      clear hv9
      refine anyC_tail 11 (by rfl) (by kernel_rfl) (by kernel_rfl) ?_
      simp only [List.drop_succ_cons, List.drop_zero]
      have r0 := cell_of_row v9 bp 0 _ _ (0, 0) Hbp.out
      have r1 := cell_of_row v9 bp 1 _ _ (0, 0) Hbp.out
      have r2 := cell_of_row v9 bp 2 _ _ (0, 0) Hbp.out
      have f0 := frozen_of_row v9 bp 0 _ _ Hbp.out
      have f1 := frozen_of_row v9 bp 1 _ _ Hbp.out
      have f2 := frozen_of_row v9 bp 2 _ _ Hbp.out
      simp at r0 r1 r2
      have HJ := Lib.hid (PSt.put0 (w := w) (X := v9) (bp := bp) (T := T0) (M := M0) (L := L0) Hbp.out HF.out.1 HF.out.2.1 HF.out.2.2.1 HF.out.2.2.2.1 HF.out.2.2.2.2.1 HF.out.2.2.2.2.2 HBv.out)
      rw [HlT.out, HlM.out, HlL.out] at HJ
      gi_wp2
      go_meet
      exact ⟨bp, rfl, HJ.out⟩
  case rest =>
    obtain ⟨bp, rfl, hst⟩ := hcut
    obtain ⟨K, hK⟩ : ∃ K, K = 1114112 := ⟨_, rfl⟩
    have HSt : Hid (PEx w bp K wc) := Lib.hid ⟨T0, M0, L0, hst, by rw [HlT.out, hK]; omega, by rw [HlM.out, hK]; omega, by rw [HlL.out, hK]; omega, HrT.out, HrM.out, HrL.out⟩
    have HBc : Hid (Below w.heap.size w wc ∧ w.heap.size ≤ bp) := Lib.hid (by obtain ⟨_, _, _, _, _, _, -, -, -, -, -, -, h6, h7⟩ := hst; exact ⟨h6, h7⟩)
    have HKe := Lib.hid hK
    clear hst hK HIT HIM HIL HlT HlM HlL HrT HrM HrL HnoT HnoM HnoL
    go_wp2_with fail
    refine (Build8_walk 0 a n c l wc HL.out (by omega) (HS.out.below HBc.out.1 (fun b o e h0 => by obtain ⟨b', o', e', h1, -⟩ := HS.out 0 h0; rw [e] at e'; cases e'; exact World.block_lt_of_cell? w _ h1)) HWf.out).mono ?_
    rintro e w4 hpost
    obtain ⟨hb4, pt, pi, pe, rfl, hpe⟩ := bld_one (bldQ_of hpost)
    have HPe := Lib.hid hpe
    have HSt4 := Lib.hid (HSt.out.below hb4)
    clear hpe hpost hb4 HSt HBc
    go_upto_region 5 with (fail)
    go_cut [60] from 59 to 60 (fun p wx => p = .bool (pe == 0) ∧ wx = w4)
    case first =>
      go_wp2
      go_meet
      exact ⟨rfl, by first | rfl | trivial⟩
    case rest =>
      obtain ⟨rfl, rfl⟩ := hcut
      go_step
      go_cut [] from 61 to 64 (PEx w bp K)
      case first =>
        rcases HPe.out with ⟨h0, g, S, hpt, hM, hT⟩ | hne
        · subst h0
          subst hpt
          have HM := Lib.hid hM; have HT := Lib.hid hT
          clear hM hT HPe
          have HBw := Lib.hid HSt4.out.bel
          have HPar := Lib.hid (Parts8d_walk wc g (trieS S) HM.out.trie HM.out.pos.1 HT.out)
          go_wp2_with fail
          refine HPar.out.mono ?_
          clear HPar
          rintro e w5 ⟨at_, ct, am, cm, al, cl, rfl, o1, o2, o3, hb, hd⟩
          have HPO := Lib.hid (parts_o HM.out o1 o2 o3 hd)
          obtain ⟨T, M, L, hst, -⟩ := HSt4.out
          obtain ⟨_, _, _, _, _, _, hbox, -⟩ := hst.below hb
          have HX := Lib.hid hbox
          have HB5 := Lib.hid (HBw.out.1.trans (hb.mono HBw.out.1.size))
          have HJ := Lib.hid (PSt.put (w := w) HX.out HPO.out HBw.out.2.2 HBw.out.2.1 HB5.out)
          have HSm := Lib.hid (made_small HM.out (fS_rng0 ⟨by decide, by decide⟩ HV.out))
          clear o1 o2 o3 hb hd hst hbox
          have r0 := cell_of_row w5 bp 0 _ _ (0, 0) HX.out
          have r1 := cell_of_row w5 bp 1 _ _ (0, 0) HX.out
          have r2 := cell_of_row w5 bp 2 _ _ (0, 0) HX.out
          have f0 := frozen_of_row w5 bp 0 _ _ HX.out
          have f1 := frozen_of_row w5 bp 1 _ _ HX.out
          have f2 := frozen_of_row w5 bp 2 _ _ HX.out
          simp at r0 r1 r2
          go_wp2
          go_meet
          exact ⟨_, _, _, HJ.out, by rw [HKe.out]; exact HSm.out⟩
        · have n0 : (pe == 0) = false := beq_false_of_ne hne
          clear hne HPe
          go_wp2
          go_meet
          exact HSt4.out
      case rest =>
        have HSt5 := Lib.hid hcut
        clear hcut HSt4 HPe
        go_step
        go_step
        go_cut [] from 65 to 80 (PEx w bp (K + 512))
        case first =>
          go_wp2
          go_loopw [11] (PLo w bp K pn) (fun iv _ => 8 - (intOf iv).toNat)
          case atStart => exact ⟨0, Nat.zero_le _, Nat.zero_le _, rfl, HSt5.out⟩
          case round =>
            clear HSt5
            obtain ⟨k, hk, hk8, rfl, T, M, L, hst, hsm⟩ := hrel
            obtain ⟨v1, hv1⟩ : ∃ v1, v1 = wr := ⟨_, rfl⟩
            rw [← hv1] at hst ⊢
            clear hv1
            have HSt := Lib.hid hst; have HSm := Lib.hid hsm
            have HBw := Lib.hid (PEx.bel ⟨T, M, L, hst, hsm⟩)
            clear hst hsm
            by_cases hkn : k < pn
            · have hki : (k : Int) < (pn : Int) := by omega
              by_cases hk8' : k < 8
              · have hki8 : (k : Int) < 8 := by omega
                have hkl : k < ps.length := by rw [HPs.out]; exact hkn
                obtain ⟨bP, oP, hP, y0, y1, y2⟩ := HPa.out k hkl
                subst hP
                have hlt := World.block_lt_of_cell? w _ y0
                have hw := HPw.out _ (List.getElem_mem hkl)
                obtain ⟨xp, hxp⟩ : ∃ xp, xp = ps[k] := ⟨_, rfl⟩
                rw [← hxp] at y0 y1 y2 hw
                obtain ⟨st, pl, vv⟩ := xp
                simp only at y0 y1 y2
                have HY := Lib.hid (And.intro y0 (And.intro y1 y2)); have HPw1 := Lib.hid hw; have HLt := Lib.hid hlt
                clear y0 y1 y2 hw hlt hxp hkl
                obtain ⟨aT, cT', aM, cM', aL, cL', hbox, hpo⟩ := HSt.out.o
                have HX := Lib.hid hbox; have HPO := Lib.hid hpo
                clear hbox hpo
                obtain ⟨mT, hmT⟩ : ∃ m, T.length = m := ⟨_, rfl⟩
                obtain ⟨mM, hmM⟩ : ∃ m, M.length = m := ⟨_, rfl⟩
                obtain ⟨mL, hmL⟩ : ∃ m, L.length = m := ⟨_, rfl⟩
                rw [hmT, hmM, hmL] at HX HPO
                clear hmT hmM hmL
                go_upto_region 12 with (fail)
                refine (wpIn_wide (n := 2)).1 ?_
                refine wpIn_region_calm [6] (fun w' : World => w'.heap[bp]? = some (.cells #[.slice aT mT cT', .slice aM mM cM', .slice aL mL cL'] 79 (0, 0)) ∧ w'.cell? ⟨bP, oP + k * 3, none⟩ = some (.int .i64 st) ∧ w'.cell? ⟨bP, oP + k * 3 + 1, none⟩ = some (.int .i64 pl) ∧ w'.cell? ⟨bP, oP + k * 3 + 2, none⟩ = some (.int .u16 (vv : Nat))) (by kernel_rfl) ?_
                have HCx : Hid ((fun w' : World => w'.heap[bp]? = some (.cells #[.slice aT mT cT', .slice aM mM cM', .slice aL mL cL'] 79 (0, 0)) ∧ w'.cell? ⟨bP, oP + k * 3, none⟩ = some (.int .i64 st) ∧ w'.cell? ⟨bP, oP + k * 3 + 1, none⟩ = some (.int .i64 pl) ∧ w'.cell? ⟨bP, oP + k * 3 + 2, none⟩ = some (.int .u16 (vv : Nat))) v1.drew) := Lib.hid ⟨HX.out, (HBw.out.1.cell (p := ⟨bP, oP + k * 3, none⟩) HLt.out).trans HY.out.1, (HBw.out.1.cell (p := ⟨bP, oP + k * 3 + 1, none⟩) HLt.out).trans HY.out.2.1, (HBw.out.1.cell (p := ⟨bP, oP + k * 3 + 2, none⟩) HLt.out).trans HY.out.2.2⟩
                have HDr : Hid (Below v1.heap.size v1 v1.drew) := Lib.hid (Below.refl _ v1).drew
                have HPO2 := Lib.hid (HPO.out.below HDr.out (Nat.le_refl _))
                have HBw2 : Hid (Below w.heap.size w v1.drew ∧ w.heap.size ≤ bp ∧ bp < v1.drew.heap.size) := Lib.hid ⟨HBw.out.1.drew, HBw.out.2⟩
                clear HPO HBw HSt HY
                generalize v1.drew = v2 at *
                refine' anyD_take (i := 0) (v := _) [2, 3, 5, 6] (by kernel_rfl) rfl (by rfl) (by kernel_rfl) (fun _ _ _ h => h) (by rfl) ?hp0 HCx.out ?kp0
                case hp0 =>
                  rintro w' ⟨c0, c1, c2, c3⟩
                  have d0 := cell_of_row w' bp 0 _ _ (0, 0) c0
                  have d1 := cell_of_row w' bp 1 _ _ (0, 0) c0
                  have d2 := cell_of_row w' bp 2 _ _ (0, 0) c0
                  simp at d0 d1 d2
                  clear c0
                  go_simp
                  try with_reducible rfl
                simp only [List.getElem_toArray, List.getElem_cons_zero, List.getElem_cons_succ, Act.put, List.setIfInBounds_toArray, List.set_cons_zero, List.set_cons_succ]
                refine' anyD_take (i := 1) (v := _) [2, 3, 5, 6] (by kernel_rfl) rfl (by rfl) (by kernel_rfl) (fun _ _ _ h => h) (by rfl) ?hp1 HCx.out ?kp1
                case hp1 =>
                  rintro w' ⟨c0, c1, c2, c3⟩
                  have d0 := cell_of_row w' bp 0 _ _ (0, 0) c0
                  have d1 := cell_of_row w' bp 1 _ _ (0, 0) c0
                  have d2 := cell_of_row w' bp 2 _ _ (0, 0) c0
                  simp at d0 d1 d2
                  clear c0
                  go_simp
                  try with_reducible rfl
                simp only [List.getElem_toArray, List.getElem_cons_zero, List.getElem_cons_succ, Act.put, List.setIfInBounds_toArray, List.set_cons_zero, List.set_cons_succ]
                refine' anyD_take (i := 2) (v := _) [3, 5, 6] (by kernel_rfl) rfl (by rfl) (by kernel_rfl) (fun _ _ _ h => h) (by rfl) ?hp2 HCx.out ?kp2
                case hp2 =>
                  rintro w' ⟨c0, c1, c2, c3⟩
                  have d0 := cell_of_row w' bp 0 _ _ (0, 0) c0
                  have d1 := cell_of_row w' bp 1 _ _ (0, 0) c0
                  have d2 := cell_of_row w' bp 2 _ _ (0, 0) c0
                  simp at d0 d1 d2
                  clear c0
                  go_simp
                  try with_reducible rfl
                simp only [List.getElem_toArray, List.getElem_cons_zero, List.getElem_cons_succ, Act.put, List.setIfInBounds_toArray, List.set_cons_zero, List.set_cons_succ]
                refine' anyD_take (i := 3) (v := _) [5, 6] (by kernel_rfl) rfl (by rfl) (by kernel_rfl) (fun _ _ _ h => h) (by rfl) ?hp3 HCx.out ?kp3
                case hp3 =>
                  rintro w' ⟨c0, c1, c2, c3⟩
                  have d0 := cell_of_row w' bp 0 _ _ (0, 0) c0
                  have d1 := cell_of_row w' bp 1 _ _ (0, 0) c0
                  have d2 := cell_of_row w' bp 2 _ _ (0, 0) c0
                  simp at d0 d1 d2
                  clear c0
                  go_simp
                  try with_reducible rfl
                simp only [List.getElem_toArray, List.getElem_cons_zero, List.getElem_cons_succ, Act.put, List.setIfInBounds_toArray, List.set_cons_zero, List.set_cons_succ]
                refine' anyD_take (i := 4) (v := _) [5, 6] (by kernel_rfl) rfl (by rfl) (by kernel_rfl) (fun _ _ _ h => h) (by rfl) ?hp4 HCx.out ?kp4
                case hp4 =>
                  rintro w' ⟨c0, c1, c2, c3⟩
                  have d0 := cell_of_row w' bp 0 _ _ (0, 0) c0
                  have d1 := cell_of_row w' bp 1 _ _ (0, 0) c0
                  have d2 := cell_of_row w' bp 2 _ _ (0, 0) c0
                  simp at d0 d1 d2
                  clear c0
                  go_simp
                  try with_reducible rfl
                simp only [List.getElem_toArray, List.getElem_cons_zero, List.getElem_cons_succ, Act.put, List.setIfInBounds_toArray, List.set_cons_zero, List.set_cons_succ]
                refine anyC_r1 (i := 5) (by kernel_rfl) ?_
                refine stepCall (i := 5) rfl (by rfl) (by rfl) (fun _ _ => trivial) (exec_call2 51 (.tmp 78) (.tmp 79) _ rfl (.agg #[.int .i64 st, .int .i64 pl, .int .u16 (vv : Nat)]) (.agg #[.slice aT mT cT', .slice aM mM cM', .slice aL mL cL']) rfl rfl (enters_of Try.func51 (by kernel_rfl) rfl)) (fun h => by cases h) ?_
                refine callsIn_wide.2 ?_
                have hKb : K + 64 * k ≤ 1073741824 := by have := HKe.out; omega
                refine (patch_walk v2 w.heap.size st pl vv _ T M L HBw2.out.1.size (Nat.le_trans HSm.out.t hKb) (Nat.le_trans HSm.out.m hKb) (Nat.le_trans HSm.out.l hKb) ⟨HPw1.out.1, HPw1.out.2.1⟩ HPw1.out.2.2 HPO2.out).mono ?_
                rintro e v3 ⟨pv, rfl, hpv, hb⟩
                have HC3 : Hid ((fun w' : World => w'.heap[bp]? = some (.cells #[.slice aT mT cT', .slice aM mM cM', .slice aL mL cL'] 79 (0, 0)) ∧ w'.cell? ⟨bP, oP + k * 3, none⟩ = some (.int .i64 st) ∧ w'.cell? ⟨bP, oP + k * 3 + 1, none⟩ = some (.int .i64 pl) ∧ w'.cell? ⟨bP, oP + k * 3 + 2, none⟩ = some (.int .u16 (vv : Nat))) v3) := Lib.hid ⟨(hb.block bp HBw2.out.2.2).trans HCx.out.1, (hb.cell (p := ⟨bP, oP + k * 3, none⟩) (World.block_lt_of_cell? v2 _ HCx.out.2.1)).trans HCx.out.2.1, (hb.cell (p := ⟨bP, oP + k * 3 + 1, none⟩) (World.block_lt_of_cell? v2 _ HCx.out.2.2.1)).trans HCx.out.2.2.1, (hb.cell (p := ⟨bP, oP + k * 3 + 2, none⟩) (World.block_lt_of_cell? v2 _ HCx.out.2.2.2)).trans HCx.out.2.2.2⟩
                refine ⟨_, rfl, fun _ => HC3.out, ?_⟩
                simp only [List.getElem_toArray, List.getElem_cons_zero, List.getElem_cons_succ, Act.put, List.setIfInBounds_toArray, List.set_cons_zero, List.set_cons_succ]
                have HSm2 := Lib.hid (HSm.out.cut st pl vv HPw1.out.2.2)
                obtain ⟨R, hR⟩ : ∃ R, R = cutL st pl vv T M L := ⟨_, rfl⟩
                rw [← hR] at hpv HSm2
                have hpv2 := hpv
                obtain ⟨eT, fT, eM, fM, eL, fL, rfl, -⟩ := hpv2
                have HB3 := Lib.hid (HBw2.out.1.trans (hb.mono HBw2.out.1.size))
                have HJ := Lib.hid (PSt.put (w := w) HC3.out.1 hpv HBw2.out.2.2 HBw2.out.2.1 HB3.out)
                clear hpv hb hR
                generalize R.1.length = sT at *
                generalize R.2.1.length = sM at *
                generalize R.2.2.length = sL at *
                have HSm3 := Lib.hid (HSm2.out.mono (K' := K + 64 * (k + 1)) (by omega))
                refine anyC_tail 6 (by rfl) (by kernel_rfl) (by kernel_rfl) ?_
                simp only [List.drop_succ_cons, List.drop_zero]
                have r0 := cell_of_row v3 bp 0 _ _ (0, 0) HC3.out.1
                have r1 := cell_of_row v3 bp 1 _ _ (0, 0) HC3.out.1
                have r2 := cell_of_row v3 bp 2 _ _ (0, 0) HC3.out.1
                have f0 := frozen_of_row v3 bp 0 _ _ HC3.out.1
                have f1 := frozen_of_row v3 bp 1 _ _ HC3.out.1
                have f2 := frozen_of_row v3 bp 2 _ _ HC3.out.1
                simp at r0 r1 r2
                gi_wp2
                go_wp2
                go_roundw
                case rel => exact ⟨k + 1, hkn, hk8', by go_num, _, _, _, HJ.out, HSm3.out⟩
                case measure => simp [intOf]; omega
              · have hki8 : ¬ (k : Int) < 8 := by omega
                have HJ : Hid (PEx w bp (K + 512) v1) := Lib.hid ⟨T, M, L, HSt.out, HSm.out.mono (by omega)⟩
                go_wp2
                go_meet
                exact HJ.out
            · have hki : ¬ (k : Int) < (pn : Int) := by omega
              have HJ : Hid (PEx w bp (K + 512) v1) := Lib.hid ⟨T, M, L, HSt.out, HSm.out.mono (by omega)⟩
              go_wp2
              go_meet
              exact HJ.out
        case rest =>
          obtain ⟨T, M, L, hst, hsm⟩ := hcut
          have HBw := Lib.hid (PEx.bel ⟨T, M, L, hst, hsm⟩)
          have HSm := Lib.hid (hsm.mono (K' := 2000000) (by have := HKe.out; omega))
          obtain ⟨aT, cT', aM, cM', aL, cL', hbox, hpo⟩ := hst.o
          have hpv := hpo.v
          obtain ⟨aT_, cT_, aM_, cM_, aL_, cL_, hbox_, oT1, oM1, oL1, hdis, hneb, -, -⟩ := hst
          have hbe := hbox.symm.trans hbox_
          simp only [Option.some.injEq, Obj.cells.injEq, Array.mk.injEq, List.cons.injEq, Value.slice.injEq, and_true, true_and] at hbe
          obtain ⟨⟨rfl, rfl⟩, ⟨rfl, rfl⟩, rfl, rfl⟩ := hbe
          have HX := Lib.hid hbox; have HPV := Lib.hid hpv; have HDi := Lib.hid (And.intro hdis hneb)
          have HO := Lib.hid (And.intro oT1 (And.intro oM1 oL1))
          clear hbox hpo hpv hbox_ oT1 oM1 oL1 hdis hneb hsm HSt5
          obtain ⟨mT, hmT⟩ : ∃ m, T.length = m := ⟨_, rfl⟩
          obtain ⟨mM, hmM⟩ : ∃ m, M.length = m := ⟨_, rfl⟩
          obtain ⟨mL, hmL⟩ : ∃ m, L.length = m := ⟨_, rfl⟩
          rw [hmT, hmM, hmL] at HX HPV HO
          have hmTb : mT ≤ 2000000 := by rw [← hmT]; exact HSm.out.t
          have hmMb : mM ≤ 2000000 := by rw [← hmM]; exact HSm.out.m
          have hmLb : mL ≤ 2000000 := by rw [← hmL]; exact HSm.out.l
          have HmT := Lib.hid hmT; have HmM := Lib.hid hmM; have HmL := Lib.hid hmL
          clear hmT hmM hmL
          obtain ⟨N, hN⟩ : ∃ N, N = 1114112 := ⟨_, rfl⟩
          obtain ⟨Mx, hMx⟩ : ∃ Mx, Mx = 17408 := ⟨_, rfl⟩
          have HN := Lib.hid hN; have HMx := Lib.hid hMx
          clear hN hMx
          have r0 := cell_of_row wc bp 0 _ _ (0, 0) HX.out
          have r1 := cell_of_row wc bp 1 _ _ (0, 0) HX.out
          have r2 := cell_of_row wc bp 2 _ _ (0, 0) HX.out
          simp at r0 r1 r2
          have HSg := Lib.hid (stages_walk wc _ T M L (by rw [HmT.out]; omega) (by rw [HmM.out]; omega) (by rw [HmL.out]; omega) HSm.out.rt HSm.out.rm HSm.out.rl HPV.out)
          go_wp2_with fail
          refine HSg.out.mono ?_
          clear HSg
          rintro e w7 ⟨sv0, rfl, hth, hb7⟩
          have HB7 := Lib.hid hb7
          have HRd := Lib.hid (refRead_walk w7 sv0 T M L N Mx HN.out HMx.out (by rw [HmT.out]; omega) (by rw [HmM.out]; omega) (by rw [HmL.out]; omega) HSm.out.rt HSm.out.rm hth)
          clear hth hb7 r0 r1 r2
          go_wp2_with fail
          refine HRd.out.mono ?_
          clear HRd
          rintro e w8 ⟨fv, ok, rfl, hok, hfn, hfar, hb8⟩
          have hfar2 := hfar
          obtain ⟨fT, fn, fc, fV, fn', fc', rfl, -⟩ := hfar2
          have HOk := Lib.hid hok; have HFn := Lib.hid hfn; have HFar := Lib.hid hfar; have HB8 := Lib.hid hb8
          clear hok hfn hfar hb8
          have HB78 : Hid (Below wc.heap.size wc w8) := Lib.hid (HB7.out.trans (HB8.out.mono HB7.out.size))
          obtain ⟨bf, hbf⟩ : ∃ bf, bf = w8.heap.size := ⟨_, rfl⟩
          have A1 := heap_alloc_new w8 (.cells #[.slice fT fn fc, .slice fV fn' fc'] 63)
          have A2 := (Below.refl _ w8).alloc (Nat.le_refl _) (.cells #[.slice fT fn fc, .slice fV fn' fc'] 63)
          have A3 := World.size_alloc w8 (.cells #[.slice fT fn fc, .slice fV fn' fc'] 63)
          rw [← hbf] at A1 A3
          obtain ⟨wB, hwB⟩ : ∃ wB, wB = w8.alloc (.cells #[.slice fT fn fc, .slice fV fn' fc'] 63) := ⟨_, rfl⟩
          rw [← hwB] at A1 A2 A3
          have HA := Lib.hid (And.intro A1 (And.intro A2 A3)); have HBf := Lib.hid hbf; have HWB := Lib.hid hwB
          clear A1 A2 A3 hbf hwB
          go_upto_region 14 with (fail)
          rw [← HWB.out, ← HBf.out]
          have HBB : Hid (Below wc.heap.size wc wB) := Lib.hid (HB78.out.trans (HA.out.2.1.mono HB78.out.size))
          refine (wpIn_wide (n := 2)).1 ?_
          refine wpIn_region_calm [12, 13, 14] (fun w' : World => w'.heap[bp]? = some (.cells #[.slice aT mT cT', .slice aM mM cM', .slice aL mL cL'] 79 (0, 0))) (by kernel_rfl) ?_
          have HCx : Hid ((fun w' : World => w'.heap[bp]? = some (.cells #[.slice aT mT cT', .slice aM mM cM', .slice aL mL cL'] 79 (0, 0))) wB.drew) := Lib.hid ((HBB.out.block bp HBw.out.2.2).trans HX.out)
          have HBD : Hid (Below wc.heap.size wc wB.drew) := Lib.hid HBB.out.drew
          have HZd : Hid (wB.drew.heap.size = bf + 1 ∧ wc.heap.size ≤ w7.heap.size ∧ w7.heap.size ≤ bf) := Lib.hid ⟨HA.out.2.2, HB7.out.size, by rw [HBf.out]; exact HB8.out.size⟩
          have HKd : Hid (∀ k, k < w8.heap.size → wB.drew.heap[k]? = w8.heap[k]?) := Lib.hid (fun k hk => HA.out.2.1.block k hk)
          have HbF : Hid (wB.drew.heap[bf]? = some (.cells #[.slice fT fn fc, .slice fV fn' fc'] 63 (0, 0))) := Lib.hid HA.out.1
          have HO3 : Hid (Own w.heap.size 91 wB.drew aT mT cT' (ivs .u16 (natsI T)) ∧ Own w.heap.size 91 wB.drew aM mM cM' (ivs .u16 (natsI M)) ∧ Own w.heap.size 5 wB.drew aL mL cL' (ivs .u8 L)) := Lib.hid ⟨HO.out.1.below HBD.out (Nat.le_refl _), HO.out.2.1.below HBD.out (Nat.le_refl _), HO.out.2.2.below HBD.out (Nat.le_refl _)⟩
          clear HA HWB HBB
          generalize wB.drew = w3 at *
          obtain ⟨Sx, hSx⟩ : ∃ Sx : Nat → Prop, Sx = fun k => w.heap.size ≤ k ∧ k < w3.heap.size ∧ blkO aT ≠ some k ∧ blkO aM ≠ some k ∧ blkO aL ≠ some k := ⟨_, rfl⟩
          have HSx : Hid (∀ k, Sx k ↔ (w.heap.size ≤ k ∧ k < w3.heap.size ∧ blkO aT ≠ some k ∧ blkO aM ≠ some k ∧ blkO aL ≠ some k)) := Lib.hid (fun k => by rw [hSx])
          clear hSx
          have HSb : Hid (Sx bp) := Lib.hid ((HSx.out bp).2 ⟨HBw.out.2.1, by have := HZd.out; have := HBw.out.2.2; omega, HDi.out.2⟩)
          refine' anyC_take (i := 0) (v := _) [1, 3, 7, 11, 12, 13, 14] (by kernel_rfl) rfl (by kernel_rfl) (fun _ _ _ h => h) (by rfl) ?hq0 HCx.out ?kq0
          case hq0 =>
            intro w' c0
            have d0 := cell_of_row w' bp 0 _ _ (0, 0) c0
            have d1 := cell_of_row w' bp 1 _ _ (0, 0) c0
            have d2 := cell_of_row w' bp 2 _ _ (0, 0) c0
            simp at d0 d1 d2
            clear c0
            go_simp
            try with_reducible rfl
          simp only [List.getElem_toArray, List.getElem_cons_zero, List.getElem_cons_succ, Act.put, List.setIfInBounds_toArray, List.set_cons_zero, List.set_cons_succ]
          refine' anyC_take (i := 1) (v := _) [3, 7, 11, 12, 13, 14] (by kernel_rfl) rfl (by kernel_rfl) (fun _ _ _ h => h) (by rfl) ?hq1 HCx.out ?kq1
          case hq1 =>
            intro w' c0
            have d0 := cell_of_row w' bp 0 _ _ (0, 0) c0
            have d1 := cell_of_row w' bp 1 _ _ (0, 0) c0
            have d2 := cell_of_row w' bp 2 _ _ (0, 0) c0
            simp at d0 d1 d2
            clear c0
            go_simp
            try with_reducible rfl
          simp only [List.getElem_toArray, List.getElem_cons_zero, List.getElem_cons_succ, Act.put, List.setIfInBounds_toArray, List.set_cons_zero, List.set_cons_succ]
          refine' anyC_take (i := 4) (v := _) [5, 7, 11, 12, 13, 14] (by kernel_rfl) rfl (by kernel_rfl) (fun _ _ _ h => h) (by rfl) ?hq4 HCx.out ?kq4
          case hq4 =>
            intro w' c0
            have d0 := cell_of_row w' bp 0 _ _ (0, 0) c0
            have d1 := cell_of_row w' bp 1 _ _ (0, 0) c0
            have d2 := cell_of_row w' bp 2 _ _ (0, 0) c0
            simp at d0 d1 d2
            clear c0
            go_simp
            try with_reducible rfl
          simp only [List.getElem_toArray, List.getElem_cons_zero, List.getElem_cons_succ, Act.put, List.setIfInBounds_toArray, List.set_cons_zero, List.set_cons_succ]
          refine' anyC_take (i := 5) (v := _) [7, 11, 12, 13, 14] (by kernel_rfl) rfl (by kernel_rfl) (fun _ _ _ h => h) (by rfl) ?hq5 HCx.out ?kq5
          case hq5 =>
            intro w' c0
            have d0 := cell_of_row w' bp 0 _ _ (0, 0) c0
            have d1 := cell_of_row w' bp 1 _ _ (0, 0) c0
            have d2 := cell_of_row w' bp 2 _ _ (0, 0) c0
            simp at d0 d1 d2
            clear c0
            go_simp
            try with_reducible rfl
          simp only [List.getElem_toArray, List.getElem_cons_zero, List.getElem_cons_succ, Act.put, List.setIfInBounds_toArray, List.set_cons_zero, List.set_cons_succ]
          refine' anyC_take (i := 8) (v := _) [9, 11, 12, 13, 14] (by kernel_rfl) rfl (by kernel_rfl) (fun _ _ _ h => h) (by rfl) ?hq8 HCx.out ?kq8
          case hq8 =>
            intro w' c0
            have d0 := cell_of_row w' bp 0 _ _ (0, 0) c0
            have d1 := cell_of_row w' bp 1 _ _ (0, 0) c0
            have d2 := cell_of_row w' bp 2 _ _ (0, 0) c0
            simp at d0 d1 d2
            clear c0
            go_simp
            try with_reducible rfl
          simp only [List.getElem_toArray, List.getElem_cons_zero, List.getElem_cons_succ, Act.put, List.setIfInBounds_toArray, List.set_cons_zero, List.set_cons_succ]
          refine' anyC_take (i := 9) (v := _) [11, 12, 13, 14] (by kernel_rfl) rfl (by kernel_rfl) (fun _ _ _ h => h) (by rfl) ?hq9 HCx.out ?kq9
          case hq9 =>
            intro w' c0
            have d0 := cell_of_row w' bp 0 _ _ (0, 0) c0
            have d1 := cell_of_row w' bp 1 _ _ (0, 0) c0
            have d2 := cell_of_row w' bp 2 _ _ (0, 0) c0
            simp at d0 d1 d2
            clear c0
            go_simp
            try with_reducible rfl
          simp only [List.getElem_toArray, List.getElem_cons_zero, List.getElem_cons_succ, Act.put, List.setIfInBounds_toArray, List.set_cons_zero, List.set_cons_succ]
          refine anyC_lanesJ [2, 3, 6, 7, 10, 11] [12, 13, 14] (fun i => if i ≤ 3 then 0 else if i ≤ 7 then 1 else 2) (fun c => if c = 0 then growJ 2 3 89 90 w.heap.size 91 aT cT' mT 2 (ivs .u16 (natsI T)) [.int .u16 71, .int .u16 72] else if c = 1 then growJ 6 7 93 94 w.heap.size 91 aM cM' mM 1 (ivs .u16 (natsI M)) [.int .u16 73] else if c = 2 then growJ 10 11 97 98 w.heap.size 5 aL cL' mL 1 (ivs .u8 L) [.int .u8 74] else if c = 3 then keepS Sx w3 else fun _ _ _ _ => True) w.heap.size w3 _ [] #[true, true, true, true, true, true, true, true, true, true, true, true, false, false, false] 3
            (laneB_calm (D := [89, 90, 93, 94, 97, 98]) (own := (fun i => if i ≤ 3 then 0 else if i ≤ 7 then 1 else 2)) (by kernel_rfl)) (laneB_own (D := [89, 90, 93, 94, 97, 98]) (by kernel_rfl)) ?hC ?hloc ?hstep ?hend 6 _ _ _ (fun c k => (c = 0 ∧ blkO aT = some k) ∨ (c = 1 ∧ blkO aM = some k) ∨ (c = 2 ∧ blkO aL = some k) ∨ (c = 3 ∧ Sx k)) (by kernel_rfl) rfl ?hJ rfl (fun _ _ => rfl) (Below.refl _ _) (by have := HZd.out; have := HBw.out; omega) ?hT ?hdj
          case hC =>
            intro l t T' w' h
            exact ((h 3) bp HSb.out).1.trans HCx.out
          case hT =>
            rintro c k (⟨-, h⟩ | ⟨-, h⟩ | ⟨-, h⟩ | ⟨-, h⟩)
            · exact HO3.out.1.blt k h
            · exact HO3.out.2.1.blt k h
            · exact HO3.out.2.2.blt k h
            · exact ⟨((HSx.out k).1 h).1, ((HSx.out k).1 h).2.1⟩
          case hdj =>
            have d := HDi.out.1
            rintro c c' k hcd (⟨h1, h2⟩ | ⟨h1, h2⟩ | ⟨h1, h2⟩ | ⟨h1, h2⟩) (⟨h3, h4⟩ | ⟨h3, h4⟩ | ⟨h3, h4⟩ | ⟨h3, h4⟩)
            · exact hcd (h1.trans h3.symm)
            · exact (d.1 k h2).1 h4
            · exact (d.1 k h2).2 h4
            · exact ((HSx.out k).1 h4).2.2.1 h2
            · exact (d.1 k h4).1 h2
            · exact hcd (h1.trans h3.symm)
            · exact d.2 k h2 h4
            · exact ((HSx.out k).1 h4).2.2.2.1 h2
            · exact (d.1 k h4).2 h2
            · exact d.2 k h4 h2
            · exact hcd (h1.trans h3.symm)
            · exact ((HSx.out k).1 h4).2.2.2.2 h2
            · exact ((HSx.out k).1 h2).2.2.1 h4
            · exact ((HSx.out k).1 h2).2.2.2.1 h4
            · exact ((HSx.out k).1 h2).2.2.2.2 h4
            · exact hcd (h1.trans h3.symm)
          case hloc =>
            intro c l l' t t' T' w1 w' hJ hl ht hsz hk
            by_cases c0 : c = 0
            · subst c0
              exact growJ_loc hJ (hl 2 (by simp) rfl) (hl 3 (by simp) rfl) (ht 2 (by simp) rfl 89 ⟨_, rfl, rfl⟩) (ht 3 (by simp) rfl 90 ⟨_, rfl, rfl⟩) hk
            · by_cases c1 : c = 1
              · subst c1
                exact growJ_loc hJ (hl 6 (by simp) rfl) (hl 7 (by simp) rfl) (ht 6 (by simp) rfl 93 ⟨_, rfl, rfl⟩) (ht 7 (by simp) rfl 94 ⟨_, rfl, rfl⟩) hk
              · by_cases c2 : c = 2
                · subst c2
                  exact growJ_loc hJ (hl 10 (by simp) rfl) (hl 11 (by simp) rfl) (ht 10 (by simp) rfl 97 ⟨_, rfl, rfl⟩) (ht 11 (by simp) rfl 98 ⟨_, rfl, rfl⟩) hk
                · by_cases c3 : c = 3
                  · subst c3
                    exact keepS_loc (l := l) (l' := l') (t := t) (t' := t') hJ hk
                  · rw [if_neg c0, if_neg c1, if_neg c2, if_neg c3]; trivial
          case hJ =>
            intro c
            by_cases c0 : c = 0
            · subst c0
              exact ⟨fun _ => ⟨HO3.out.1, fun k e => .inl ⟨rfl, (ownBlock_eq _ _ _).symm.trans e⟩⟩, (fun e => by cases e), (fun e => by cases e), (fun e => by cases e)⟩
            · by_cases c1 : c = 1
              · subst c1
                exact ⟨fun _ => ⟨HO3.out.2.1, fun k e => .inr (.inl ⟨rfl, (ownBlock_eq _ _ _).symm.trans e⟩)⟩, (fun e => by cases e), (fun e => by cases e), (fun e => by cases e)⟩
              · by_cases c2 : c = 2
                · subst c2
                  exact ⟨fun _ => ⟨HO3.out.2.2, fun k e => .inr (.inr (.inl ⟨rfl, (ownBlock_eq _ _ _).symm.trans e⟩))⟩, (fun e => by cases e), (fun e => by cases e), (fun e => by cases e)⟩
                · by_cases c3 : c = 3
                  · subst c3
                    exact fun k hk => ⟨rfl, .inr (.inr (.inr ⟨rfl, hk⟩))⟩
                  · rw [if_neg c0, if_neg c1, if_neg c2, if_neg c3]; trivial
          case hstep =>
            intro i hi o ho l a T' w1 hisz hun hJ haft hz ho' hb hzz hT
            have hi' : i = 2 ∨ i = 3 ∨ i = 6 ∨ i = 7 ∨ i = 10 ∨ i = 11 := by simpa using hi
            have hsl := fun s hs => ho' s (laneB_slot (D := [89, 90, 93, 94, 97, 98]) (own := (fun i => if i ≤ 3 then 0 else if i ≤ 7 then 1 else 2)) (by kernel_rfl) hs)
            clear ho' hi
            have hzt : a.tmps.size = 199 := hz
            rcases hi' with rfl | rfl | rfl | rfl | rfl | rfl
            · obtain rfl := Option.some.inj ho
              exact ⟨rfl, growJ_lit (by decide) rfl (by omega) hisz hun hJ hT (by kernel_rfl)⟩
            · obtain rfl := Option.some.inj ho
              exact ⟨rfl, growJ_app Try.elemI16N (by decide) rfl (by omega) rfl (eval_slot (hsl 88 (by decide))) hisz (haft ⟨2, .data⟩ (by simp) rfl) (getD_tf hun) hJ hzz hT rfl (by simp [Value.oneCell']) (by omega) (by unfold maxLen; omega)⟩
            · obtain rfl := Option.some.inj ho
              exact ⟨rfl, growJ_lit (by decide) rfl (by omega) hisz hun hJ hT (by kernel_rfl)⟩
            · obtain rfl := Option.some.inj ho
              exact ⟨rfl, growJ_app Try.elemI16N (by decide) rfl (by omega) rfl (eval_slot (hsl 92 (by decide))) hisz (haft ⟨6, .data⟩ (by simp) rfl) (getD_tf hun) hJ hzz hT rfl (by simp [Value.oneCell']) (by omega) (by unfold maxLen; omega)⟩
            · obtain rfl := Option.some.inj ho
              exact ⟨rfl, growJ_lit (by decide) rfl (by omega) hisz hun hJ hT (by kernel_rfl)⟩
            · obtain rfl := Option.some.inj ho
              exact ⟨rfl, growJ_app Try.elemI8N (by decide) rfl (by omega) rfl (eval_slot (hsl 96 (by decide))) hisz (haft ⟨10, .data⟩ (by simp) rfl) (getD_tf hun) hJ hzz hT rfl (by simp [Value.oneCell']) (by omega) (by unfold maxLen; omega)⟩
          case hend =>
            intro a' v1 T' hd hJ hz ho hb hzz hT hdj
            obtain ⟨-, -, hA, -⟩ := hJ 0
            obtain ⟨eT, xT, g1, o1, t1⟩ := hA rfl
            obtain ⟨-, -, hB, -⟩ := hJ 1
            obtain ⟨eM, xM, g2, o2, t2⟩ := hB rfl
            obtain ⟨-, -, hC, -⟩ := hJ 2
            obtain ⟨eL, xL, g3, o3, t3⟩ := hC rfl
            have hkeep := hJ 3
            have t1 : ∀ k, blkO eT = some k → T' 0 k := fun k e => t1 k ((ownBlock_eq _ _ _).trans e)
            have t2 : ∀ k, blkO eM = some k → T' 1 k := fun k e => t2 k ((ownBlock_eq _ _ _).trans e)
            have t3 : ∀ k, blkO eL = some k → T' 2 k := fun k e => t3 k ((ownBlock_eq _ _ _).trans e)
            have HSep : Hid (∀ k, Sx k → blkO eT ≠ some k ∧ blkO eL ≠ some k) := Lib.hid (fun k hk => ⟨fun e => hdj 0 3 k (by decide) (t1 k e) (hkeep k hk).2, fun e => hdj 2 3 k (by decide) (t3 k e) (hkeep k hk).2⟩)
            have HKp : Hid (∀ k, Sx k → v1.heap[k]? = w3.heap[k]?) := Lib.hid (fun k hk => (hkeep k hk).1)
            have HRw : Hid (Own w.heap.size 91 v1 eT (mT + 2) xT (ivs .u16 (natsI T) ++ [.int .u16 71, .int .u16 72]) ∧ Own w.heap.size 91 v1 eM (mM + 1) xM (ivs .u16 (natsI M) ++ [.int .u16 73]) ∧ Own w.heap.size 5 v1 eL (mL + 1) xL (ivs .u8 L ++ [.int .u8 74]) ∧ ∀ k, blkO eT = some k → blkO eL ≠ some k) := Lib.hid ⟨o1, o2, o3, fun k e e2 => hdj 0 2 k (by decide) (t1 k e) (t3 k e2)⟩
            have HBv : Hid (Below w.heap.size w v1 ∧ w3.heap.size ≤ v1.heap.size) := Lib.hid ⟨HBw.out.1.trans ((HBD.out.mono HBw.out.1.size).trans hb), hb.size⟩
            have he := frame_of [89, 90, 93, 94, 97, 98] hz (fun s hs => ho s (laneB_slot (D := [89, 90, 93, 94, 97, 98]) (own := (fun i => if i ≤ 3 then 0 else if i ≤ 7 then 1 else 2)) (by kernel_rfl) hs))
            have k1 : a'.tmps.getD 90 undef = .slice eT (mT + 2) xT := by rw [Array.getD_eq_getD_getElem?, g1]; rfl
            have k2 : a'.tmps.getD 94 undef = .slice eM (mM + 1) xM := by rw [Array.getD_eq_getD_getElem?, g2]; rfl
            have k3 : a'.tmps.getD 98 undef = .slice eL (mL + 1) xL := by rw [Array.getD_eq_getD_getElem?, g3]; rfl
            obtain ⟨x89, hx89⟩ : ∃ u, a'.tmps.getD 89 undef = u := ⟨_, rfl⟩
            obtain ⟨x93, hx93⟩ : ∃ u, a'.tmps.getD 93 undef = u := ⟨_, rfl⟩
            obtain ⟨x97, hx97⟩ : ∃ u, a'.tmps.getD 97 undef = u := ⟨_, rfl⟩
            simp only [List.foldl_cons, List.foldl_nil, k1, k2, k3, hx89, hx93, hx97] at he
            clear hx89 hx93 hx97 k1 k2 k3 g1 g2 g3
            obtain ⟨tm, dfs⟩ := a'
            obtain rfl : dfs = [] := hd
            obtain rfl : tm = _ := he
            refine anyC_tail 12 (by rfl) (by kernel_rfl) (by kernel_rfl) ?_
            simp only [List.drop_succ_cons, List.drop_zero, List.setIfInBounds_toArray, List.set_cons_zero, List.set_cons_succ]
            clear hJ hz ho hT hdj hb hzz o1 o2 o3 t1 t2 t3 hkeep
            have HXv : Hid (v1.heap[bp]? = some (.cells #[.slice aT mT cT', .slice aM mM cM', .slice aL mL cL'] 79 (0, 0))) := Lib.hid ((HKp.out bp HSb.out).trans HCx.out)
            have HSf : Hid (∀ k, w7.heap.size ≤ k → k < w3.heap.size → Sx k) := Lib.hid (fun k h1 h2 => (HSx.out k).2 ⟨by have := HZd.out; have := HBw.out; omega, h2, fun e => by have := (HO.out.1.blt k e).2; have := HZd.out; omega, fun e => by have := (HO.out.2.1.blt k e).2; have := HZd.out; omega, fun e => by have := (HO.out.2.2.blt k e).2; have := HZd.out; omega⟩)
            gi_wp2
            go_upto_region 15 with (fail)
            have cpT := Own.cap HRw.out.1
            have cpM := Own.cap HRw.out.2.1
            have cpL := Own.cap HRw.out.2.2.1
            have zT1 : (mT : Int) ≤ (xT : Int) := by omega
            have zM1 : (mM : Int) ≤ (xM : Int) := by omega
            have zL1 : (mL : Int) ≤ (xL : Int) := by omega
            have zT0 : (0 : Int) ≤ (mT : Int) := by omega
            have zM0 : (0 : Int) ≤ (mM : Int) := by omega
            have zL0 : (0 : Int) ≤ (mL : Int) := by omega
            have HCp := Lib.hid (And.intro cpT (And.intro cpM cpL))
            clear cpT cpM cpL
            obtain ⟨v2, hv2⟩ : ∃ v2, v2 = v1.drew := ⟨_, rfl⟩
            have HCy : Hid ((fun w' : World => w'.heap[bp]? = some (.cells #[.slice aT mT cT', .slice aM mM cM', .slice aL mL cL'] 79 (0, 0))) v2) := Lib.hid (by rw [hv2]; exact HXv.out)
            have HRw2 : Hid (Own w.heap.size 91 v2 eT (mT + 2) xT (ivs .u16 (natsI T) ++ [.int .u16 71, .int .u16 72]) ∧ Own w.heap.size 91 v2 eM (mM + 1) xM (ivs .u16 (natsI M) ++ [.int .u16 73]) ∧ Own w.heap.size 5 v2 eL (mL + 1) xL (ivs .u8 L ++ [.int .u8 74]) ∧ ∀ k, blkO eT = some k → blkO eL ≠ some k) := Lib.hid (by rw [hv2]; exact ⟨World.ownsRow.drew HRw.out.1, World.ownsRow.drew HRw.out.2.1, World.ownsRow.drew HRw.out.2.2.1, HRw.out.2.2.2⟩)
            have HBv2 : Hid (Below w.heap.size w v2 ∧ w3.heap.size ≤ v2.heap.size) := Lib.hid (by rw [hv2]; exact ⟨HBv.out.1.drew, HBv.out.2⟩)
            have HKp2 : Hid (∀ k, Sx k → v2.heap[k]? = w3.heap[k]?) := Lib.hid (by rw [hv2]; exact HKp.out)
            have HV2 := Lib.hid hv2
            clear HRw HBv HKp HXv hv2
            go_cut [10, 17] from 99 to 118 (fun vE vU wx => Below v2.heap.size v2 wx ∧ ((vE = .int .i64 112 ∧ vU = .pointer none ∧ ¬ FromOk T M L) ∨ (FromOk T M L ∧ ∃ g, vE = .int .i64 0 ∧ vU = .pointer (some ⟨g, 0, none⟩) ∧ v2.heap.size ≤ g ∧ TrieAt val8 114 64 wx g (fromT T M L) ∧ TrieFar 114 wx g (fromT T M L) v2.heap.size)))
            case first =>
              refine (wpIn_wide (n := 2)).1 ?_
              refine wpIn_region_calm [21] (fun w' : World => w'.heap[bp]? = some (.cells #[.slice aT mT cT', .slice aM mM cM', .slice aL mL cL'] 79 (0, 0))) (by kernel_rfl) ?_
              rw [← HV2.out]
              clear HV2
              refine' anyD_take (i := 0) (v := _) [4, 15, 16, 17, 18, 19, 20, 21] (by kernel_rfl) rfl (by rfl) (by kernel_rfl) (fun _ _ _ h => h) (by rfl) ?hr0 HCy.out ?kr0
              case hr0 =>
                intro w' c0
                have d0 := cell_of_row w' bp 0 _ _ (0, 0) c0
                have d1 := cell_of_row w' bp 1 _ _ (0, 0) c0
                have d2 := cell_of_row w' bp 2 _ _ (0, 0) c0
                simp at d0 d1 d2
                clear c0
                go_simp
                try with_reducible rfl
              simp only [List.getElem_toArray, List.getElem_cons_zero, List.getElem_cons_succ, Act.put, List.setIfInBounds_toArray, List.set_cons_zero, List.set_cons_succ]
              refine' anyD_take (i := 1) (v := _) [2, 3, 4, 15, 16, 17, 18, 19, 20, 21] (by kernel_rfl) rfl (by rfl) (by kernel_rfl) (fun _ _ _ h => h) (by rfl) ?hr1 HCy.out ?kr1
              case hr1 =>
                intro w' c0
                have d0 := cell_of_row w' bp 0 _ _ (0, 0) c0
                have d1 := cell_of_row w' bp 1 _ _ (0, 0) c0
                have d2 := cell_of_row w' bp 2 _ _ (0, 0) c0
                simp at d0 d1 d2
                clear c0
                go_simp
                try with_reducible rfl
              simp only [List.getElem_toArray, List.getElem_cons_zero, List.getElem_cons_succ, Act.put, List.setIfInBounds_toArray, List.set_cons_zero, List.set_cons_succ]
              refine' anyD_take (i := 2) (v := _) [3, 4, 15, 16, 17, 18, 19, 20, 21] (by kernel_rfl) rfl (by rfl) (by kernel_rfl) (fun _ _ _ h => h) (by rfl) ?hr2 HCy.out ?kr2
              case hr2 =>
                intro w' c0
                have d0 := cell_of_row w' bp 0 _ _ (0, 0) c0
                have d1 := cell_of_row w' bp 1 _ _ (0, 0) c0
                have d2 := cell_of_row w' bp 2 _ _ (0, 0) c0
                simp at d0 d1 d2
                clear c0
                go_simp
                try with_reducible rfl
              simp only [List.getElem_toArray, List.getElem_cons_zero, List.getElem_cons_succ, Act.put, List.setIfInBounds_toArray, List.set_cons_zero, List.set_cons_succ]
              refine' anyD_take (i := 3) (v := _) [4, 15, 16, 17, 18, 19, 20, 21] (by kernel_rfl) rfl (by rfl) (by kernel_rfl) (fun _ _ _ h => h) (by rfl) ?hr3 HCy.out ?kr3
              case hr3 =>
                intro w' c0
                have d0 := cell_of_row w' bp 0 _ _ (0, 0) c0
                have d1 := cell_of_row w' bp 1 _ _ (0, 0) c0
                have d2 := cell_of_row w' bp 2 _ _ (0, 0) c0
                simp at d0 d1 d2
                clear c0
                go_simp
                try with_reducible rfl
              simp only [List.getElem_toArray, List.getElem_cons_zero, List.getElem_cons_succ, Act.put, List.setIfInBounds_toArray, List.set_cons_zero, List.set_cons_succ]
              refine' anyD_take (i := 4) (v := _) [15, 16, 17, 18, 19, 20, 21] (by kernel_rfl) rfl (by rfl) (by kernel_rfl) (fun _ _ _ h => h) (by rfl) ?hr4 HCy.out ?kr4
              case hr4 =>
                intro w' c0
                have d0 := cell_of_row w' bp 0 _ _ (0, 0) c0
                have d1 := cell_of_row w' bp 1 _ _ (0, 0) c0
                have d2 := cell_of_row w' bp 2 _ _ (0, 0) c0
                simp at d0 d1 d2
                clear c0
                go_simp
                try with_reducible rfl
              simp only [List.getElem_toArray, List.getElem_cons_zero, List.getElem_cons_succ, Act.put, List.setIfInBounds_toArray, List.set_cons_zero, List.set_cons_succ]
              refine' anyD_take (i := 5) (v := _) [9, 15, 16, 17, 18, 19, 20, 21] (by kernel_rfl) rfl (by rfl) (by kernel_rfl) (fun _ _ _ h => h) (by rfl) ?hr5 HCy.out ?kr5
              case hr5 =>
                intro w' c0
                have d0 := cell_of_row w' bp 0 _ _ (0, 0) c0
                have d1 := cell_of_row w' bp 1 _ _ (0, 0) c0
                have d2 := cell_of_row w' bp 2 _ _ (0, 0) c0
                simp at d0 d1 d2
                clear c0
                go_simp
                try with_reducible rfl
              simp only [List.getElem_toArray, List.getElem_cons_zero, List.getElem_cons_succ, Act.put, List.setIfInBounds_toArray, List.set_cons_zero, List.set_cons_succ]
              refine' anyD_take (i := 6) (v := _) [7, 8, 9, 15, 16, 17, 18, 19, 20, 21] (by kernel_rfl) rfl (by rfl) (by kernel_rfl) (fun _ _ _ h => h) (by rfl) ?hr6 HCy.out ?kr6
              case hr6 =>
                intro w' c0
                have d0 := cell_of_row w' bp 0 _ _ (0, 0) c0
                have d1 := cell_of_row w' bp 1 _ _ (0, 0) c0
                have d2 := cell_of_row w' bp 2 _ _ (0, 0) c0
                simp at d0 d1 d2
                clear c0
                go_simp
                try with_reducible rfl
              simp only [List.getElem_toArray, List.getElem_cons_zero, List.getElem_cons_succ, Act.put, List.setIfInBounds_toArray, List.set_cons_zero, List.set_cons_succ]
              refine' anyD_take (i := 7) (v := _) [8, 9, 15, 16, 17, 18, 19, 20, 21] (by kernel_rfl) rfl (by rfl) (by kernel_rfl) (fun _ _ _ h => h) (by rfl) ?hr7 HCy.out ?kr7
              case hr7 =>
                intro w' c0
                have d0 := cell_of_row w' bp 0 _ _ (0, 0) c0
                have d1 := cell_of_row w' bp 1 _ _ (0, 0) c0
                have d2 := cell_of_row w' bp 2 _ _ (0, 0) c0
                simp at d0 d1 d2
                clear c0
                go_simp
                try with_reducible rfl
              simp only [List.getElem_toArray, List.getElem_cons_zero, List.getElem_cons_succ, Act.put, List.setIfInBounds_toArray, List.set_cons_zero, List.set_cons_succ]
              refine' anyD_take (i := 8) (v := _) [9, 15, 16, 17, 18, 19, 20, 21] (by kernel_rfl) rfl (by rfl) (by kernel_rfl) (fun _ _ _ h => h) (by rfl) ?hr8 HCy.out ?kr8
              case hr8 =>
                intro w' c0
                have d0 := cell_of_row w' bp 0 _ _ (0, 0) c0
                have d1 := cell_of_row w' bp 1 _ _ (0, 0) c0
                have d2 := cell_of_row w' bp 2 _ _ (0, 0) c0
                simp at d0 d1 d2
                clear c0
                go_simp
                try with_reducible rfl
              simp only [List.getElem_toArray, List.getElem_cons_zero, List.getElem_cons_succ, Act.put, List.setIfInBounds_toArray, List.set_cons_zero, List.set_cons_succ]
              refine' anyD_take (i := 9) (v := _) [15, 16, 17, 18, 19, 20, 21] (by kernel_rfl) rfl (by rfl) (by kernel_rfl) (fun _ _ _ h => h) (by rfl) ?hr9 HCy.out ?kr9
              case hr9 =>
                intro w' c0
                have d0 := cell_of_row w' bp 0 _ _ (0, 0) c0
                have d1 := cell_of_row w' bp 1 _ _ (0, 0) c0
                have d2 := cell_of_row w' bp 2 _ _ (0, 0) c0
                simp at d0 d1 d2
                clear c0
                go_simp
                try with_reducible rfl
              simp only [List.getElem_toArray, List.getElem_cons_zero, List.getElem_cons_succ, Act.put, List.setIfInBounds_toArray, List.set_cons_zero, List.set_cons_succ]
              refine' anyD_take (i := 10) (v := _) [14, 15, 16, 17, 18, 19, 20, 21] (by kernel_rfl) rfl (by rfl) (by kernel_rfl) (fun _ _ _ h => h) (by rfl) ?hr10 HCy.out ?kr10
              case hr10 =>
                intro w' c0
                have d0 := cell_of_row w' bp 0 _ _ (0, 0) c0
                have d1 := cell_of_row w' bp 1 _ _ (0, 0) c0
                have d2 := cell_of_row w' bp 2 _ _ (0, 0) c0
                simp at d0 d1 d2
                clear c0
                go_simp
                try with_reducible rfl
              simp only [List.getElem_toArray, List.getElem_cons_zero, List.getElem_cons_succ, Act.put, List.setIfInBounds_toArray, List.set_cons_zero, List.set_cons_succ]
              refine' anyD_take (i := 11) (v := _) [12, 13, 14, 15, 16, 17, 18, 19, 20, 21] (by kernel_rfl) rfl (by rfl) (by kernel_rfl) (fun _ _ _ h => h) (by rfl) ?hr11 HCy.out ?kr11
              case hr11 =>
                intro w' c0
                have d0 := cell_of_row w' bp 0 _ _ (0, 0) c0
                have d1 := cell_of_row w' bp 1 _ _ (0, 0) c0
                have d2 := cell_of_row w' bp 2 _ _ (0, 0) c0
                simp at d0 d1 d2
                clear c0
                go_simp
                try with_reducible rfl
              simp only [List.getElem_toArray, List.getElem_cons_zero, List.getElem_cons_succ, Act.put, List.setIfInBounds_toArray, List.set_cons_zero, List.set_cons_succ]
              refine' anyD_take (i := 12) (v := _) [13, 14, 15, 16, 17, 18, 19, 20, 21] (by kernel_rfl) rfl (by rfl) (by kernel_rfl) (fun _ _ _ h => h) (by rfl) ?hr12 HCy.out ?kr12
              case hr12 =>
                intro w' c0
                have d0 := cell_of_row w' bp 0 _ _ (0, 0) c0
                have d1 := cell_of_row w' bp 1 _ _ (0, 0) c0
                have d2 := cell_of_row w' bp 2 _ _ (0, 0) c0
                simp at d0 d1 d2
                clear c0
                go_simp
                try with_reducible rfl
              simp only [List.getElem_toArray, List.getElem_cons_zero, List.getElem_cons_succ, Act.put, List.setIfInBounds_toArray, List.set_cons_zero, List.set_cons_succ]
              refine' anyD_take (i := 13) (v := _) [14, 15, 16, 17, 18, 19, 20, 21] (by kernel_rfl) rfl (by rfl) (by kernel_rfl) (fun _ _ _ h => h) (by rfl) ?hr13 HCy.out ?kr13
              case hr13 =>
                intro w' c0
                have d0 := cell_of_row w' bp 0 _ _ (0, 0) c0
                have d1 := cell_of_row w' bp 1 _ _ (0, 0) c0
                have d2 := cell_of_row w' bp 2 _ _ (0, 0) c0
                simp at d0 d1 d2
                clear c0
                go_simp
                try with_reducible rfl
              simp only [List.getElem_toArray, List.getElem_cons_zero, List.getElem_cons_succ, Act.put, List.setIfInBounds_toArray, List.set_cons_zero, List.set_cons_succ]
              refine' anyD_take (i := 14) (v := _) [15, 16, 17, 18, 19, 20, 21] (by kernel_rfl) rfl (by rfl) (by kernel_rfl) (fun _ _ _ h => h) (by rfl) ?hr14 HCy.out ?kr14
              case hr14 =>
                intro w' c0
                have d0 := cell_of_row w' bp 0 _ _ (0, 0) c0
                have d1 := cell_of_row w' bp 1 _ _ (0, 0) c0
                have d2 := cell_of_row w' bp 2 _ _ (0, 0) c0
                simp at d0 d1 d2
                clear c0
                go_simp
                try with_reducible rfl
              simp only [List.getElem_toArray, List.getElem_cons_zero, List.getElem_cons_succ, Act.put, List.setIfInBounds_toArray, List.set_cons_zero, List.set_cons_succ]
              refine' anyD_take (i := 15) (v := _) [16, 17, 18, 19, 20, 21] (by kernel_rfl) rfl (by rfl) (by kernel_rfl) (fun _ _ _ h => h) (by rfl) ?hr15 HCy.out ?kr15
              case hr15 =>
                intro w' c0
                have d0 := cell_of_row w' bp 0 _ _ (0, 0) c0
                have d1 := cell_of_row w' bp 1 _ _ (0, 0) c0
                have d2 := cell_of_row w' bp 2 _ _ (0, 0) c0
                simp at d0 d1 d2
                clear c0
                go_simp
                try with_reducible rfl
              simp only [List.getElem_toArray, List.getElem_cons_zero, List.getElem_cons_succ, Act.put, List.setIfInBounds_toArray, List.set_cons_zero, List.set_cons_succ]
              refine anyC_r1 (i := 16) (by kernel_rfl) ?_
              refine stepCall (i := 16) rfl (by rfl) (by rfl) (fun _ _ => trivial) (exec_call1 47 (.tmp 115) _ rfl (.agg #[.slice eT mT xT, .slice eM mM xM, .slice eL mL xL]) rfl (enters_of Try.func47 (by kernel_rfl) rfl)) (fun h => by cases h) ?_
              refine callsIn_wide.2 ?_
              have hcT := HCp.out
              have tkT : Ints .u16 v2 eT (natsI T) := by
                have h := Own.take HRw2.out.1 mT (by omega)
                rw [List.take_left' (by rw [ivs_length, natsI_length, HmT.out])] at h
                exact h.ints
              have tkM : Ints .u16 v2 eM (natsI M) := by
                have h := Own.take HRw2.out.2.1 mM (by omega)
                rw [List.take_left' (by rw [ivs_length, natsI_length, HmM.out])] at h
                exact h.ints
              have tkL : Ints .u8 v2 eL L := by
                have h := Own.take HRw2.out.2.2.1 mL (by omega)
                rw [List.take_left' (by rw [ivs_length, HmL.out])] at h
                exact h.ints
              refine (FromB_walk v2 eT eM eL mT xT mM xM mL xL T M L HmT.out HmM.out HmL.out ⟨by omega, hcT.1.2⟩ ⟨by omega, hcT.2.1.2⟩ ⟨by omega, hcT.2.2.2⟩ HSm.out.rt HSm.out.rm tkT.nums tkM.nums tkL.rowAt).mono ?_
              clear tkT tkM tkL hcT
              rintro e v3 ⟨hb3, hcase⟩
              have HB3 := Lib.hid hb3
              have HC3 : Hid ((fun w' : World => w'.heap[bp]? = some (.cells #[.slice aT mT cT', .slice aM mM cM', .slice aL mL cL'] 79 (0, 0))) v3) := Lib.hid ((hb3.block bp (Array.getElem?_eq_some_iff.1 HCy.out).1).trans HCy.out)
              clear hb3
              rcases hcase with ⟨rfl, hno⟩ | ⟨hyes, g, rfl, hg, hT, hfar⟩
              · refine ⟨_, rfl, fun _ => HC3.out, ?_⟩
                have HNo := Lib.hid hno; clear hno
                simp only [List.getElem_toArray, List.getElem_cons_zero, List.getElem_cons_succ, Act.put, List.setIfInBounds_toArray, List.set_cons_zero, List.set_cons_succ]
                refine' anyD_take (i := 17) (v := _) [18, 19, 20, 21] (by kernel_rfl) rfl (by rfl) (by kernel_rfl) (fun _ _ _ h => h) (by rfl) ?hr17a0 HC3.out ?kr17a0
                case hr17a0 =>
                  intro w' c0
                  clear c0
                  go_simp
                  try with_reducible rfl
                simp only [List.getElem_toArray, List.getElem_cons_zero, List.getElem_cons_succ, Act.put, List.setIfInBounds_toArray, List.set_cons_zero, List.set_cons_succ]
                refine anyC_r2 (i := 18) (i' := 19) (by kernel_rfl) ?_ ?_
                · refine stepV (i := 18) (v := _) (w' := v3) rfl (by rfl) (fun _ _ => trivial) (by rfl) (by go_simp; try with_reducible rfl) (fun _ => HC3.out) ?_
                  simp only [List.getElem_toArray, List.getElem_cons_zero, List.getElem_cons_succ, Act.put, List.setIfInBounds_toArray, List.set_cons_zero, List.set_cons_succ]
                  refine anyC_r2 (i := 19) (i' := 20) (by kernel_rfl) ?_ ?_
                  · refine stepV (i := 19) (v := _) (w' := v3) rfl (by rfl) (fun _ _ => trivial) (by rfl) (by go_simp; try with_reducible rfl) (fun _ => HC3.out) ?_
                    simp only [List.getElem_toArray, List.getElem_cons_zero, List.getElem_cons_succ, Act.put, List.setIfInBounds_toArray, List.set_cons_zero, List.set_cons_succ]
                    refine' anyD_take (i := 20) (v := _) [21] (by kernel_rfl) rfl (by rfl) (by kernel_rfl) (fun _ _ _ h => h) (by rfl) ?hr20a1 HC3.out ?kr20a1
                    case hr20a1 =>
                      intro w' c0
                      clear c0
                      go_simp
                      try with_reducible rfl
                    simp only [List.getElem_toArray, List.getElem_cons_zero, List.getElem_cons_succ, Act.put, List.setIfInBounds_toArray, List.set_cons_zero, List.set_cons_succ]
                    refine anyC_tail 21 (by rfl) (by kernel_rfl) (by kernel_rfl) ?_
                    simp only [List.drop_succ_cons, List.drop_zero]
                    gi_wp2
                    go_meet
                    exact ⟨HB3.out, .inl ⟨rfl, rfl, HNo.out⟩⟩
                  · refine stepV (i := 20) (v := _) (w' := v3) rfl (by rfl) (fun _ _ => trivial) (by rfl) (by go_simp; try with_reducible rfl) (fun _ => HC3.out) ?_
                    simp only [List.getElem_toArray, List.getElem_cons_zero, List.getElem_cons_succ, Act.put, List.setIfInBounds_toArray, List.set_cons_zero, List.set_cons_succ]
                    refine anyC_r1 (i := 19) (by kernel_rfl) ?_
                    refine stepV (i := 19) (v := _) (w' := v3) rfl (by rfl) (fun _ _ => trivial) (by rfl) (by go_simp; try with_reducible rfl) (fun _ => HC3.out) ?_
                    simp only [List.getElem_toArray, List.getElem_cons_zero, List.getElem_cons_succ, Act.put, List.setIfInBounds_toArray, List.set_cons_zero, List.set_cons_succ]
                    refine anyC_tail 21 (by rfl) (by kernel_rfl) (by kernel_rfl) ?_
                    simp only [List.drop_succ_cons, List.drop_zero]
                    gi_wp2
                    go_meet
                    exact ⟨HB3.out, .inl ⟨rfl, rfl, HNo.out⟩⟩
                · refine stepV (i := 19) (v := _) (w' := v3) rfl (by rfl) (fun _ _ => trivial) (by rfl) (by go_simp; try with_reducible rfl) (fun _ => HC3.out) ?_
                  simp only [List.getElem_toArray, List.getElem_cons_zero, List.getElem_cons_succ, Act.put, List.setIfInBounds_toArray, List.set_cons_zero, List.set_cons_succ]
                  refine anyC_r1 (i := 18) (by kernel_rfl) ?_
                  refine stepV (i := 18) (v := _) (w' := v3) rfl (by rfl) (fun _ _ => trivial) (by rfl) (by go_simp; try with_reducible rfl) (fun _ => HC3.out) ?_
                  simp only [List.getElem_toArray, List.getElem_cons_zero, List.getElem_cons_succ, Act.put, List.setIfInBounds_toArray, List.set_cons_zero, List.set_cons_succ]
                  refine' anyD_take (i := 20) (v := _) [21] (by kernel_rfl) rfl (by rfl) (by kernel_rfl) (fun _ _ _ h => h) (by rfl) ?hr20a2 HC3.out ?kr20a2
                  case hr20a2 =>
                    intro w' c0
                    clear c0
                    go_simp
                    try with_reducible rfl
                  simp only [List.getElem_toArray, List.getElem_cons_zero, List.getElem_cons_succ, Act.put, List.setIfInBounds_toArray, List.set_cons_zero, List.set_cons_succ]
                  refine anyC_tail 21 (by rfl) (by kernel_rfl) (by kernel_rfl) ?_
                  simp only [List.drop_succ_cons, List.drop_zero]
                  gi_wp2
                  go_meet
                  exact ⟨HB3.out, .inl ⟨rfl, rfl, HNo.out⟩⟩
              · refine ⟨_, rfl, fun _ => HC3.out, ?_⟩
                have HYs := Lib.hid (And.intro hyes (And.intro hg (And.intro hT hfar))); clear hyes hg hT hfar
                simp only [List.getElem_toArray, List.getElem_cons_zero, List.getElem_cons_succ, Act.put, List.setIfInBounds_toArray, List.set_cons_zero, List.set_cons_succ]
                refine' anyD_take (i := 17) (v := _) [18, 19, 20, 21] (by kernel_rfl) rfl (by rfl) (by kernel_rfl) (fun _ _ _ h => h) (by rfl) ?hr17b0 HC3.out ?kr17b0
                case hr17b0 =>
                  intro w' c0
                  clear c0
                  go_simp
                  try with_reducible rfl
                simp only [List.getElem_toArray, List.getElem_cons_zero, List.getElem_cons_succ, Act.put, List.setIfInBounds_toArray, List.set_cons_zero, List.set_cons_succ]
                refine anyC_r2 (i := 18) (i' := 19) (by kernel_rfl) ?_ ?_
                · refine stepV (i := 18) (v := _) (w' := v3) rfl (by rfl) (fun _ _ => trivial) (by rfl) (by go_simp; try with_reducible rfl) (fun _ => HC3.out) ?_
                  simp only [List.getElem_toArray, List.getElem_cons_zero, List.getElem_cons_succ, Act.put, List.setIfInBounds_toArray, List.set_cons_zero, List.set_cons_succ]
                  refine anyC_r2 (i := 19) (i' := 20) (by kernel_rfl) ?_ ?_
                  · refine stepV (i := 19) (v := _) (w' := v3) rfl (by rfl) (fun _ _ => trivial) (by rfl) (by go_simp; try with_reducible rfl) (fun _ => HC3.out) ?_
                    simp only [List.getElem_toArray, List.getElem_cons_zero, List.getElem_cons_succ, Act.put, List.setIfInBounds_toArray, List.set_cons_zero, List.set_cons_succ]
                    refine' anyD_take (i := 20) (v := _) [21] (by kernel_rfl) rfl (by rfl) (by kernel_rfl) (fun _ _ _ h => h) (by rfl) ?hr20b1 HC3.out ?kr20b1
                    case hr20b1 =>
                      intro w' c0
                      clear c0
                      go_simp
                      try with_reducible rfl
                    simp only [List.getElem_toArray, List.getElem_cons_zero, List.getElem_cons_succ, Act.put, List.setIfInBounds_toArray, List.set_cons_zero, List.set_cons_succ]
                    refine anyC_tail 21 (by rfl) (by kernel_rfl) (by kernel_rfl) ?_
                    simp only [List.drop_succ_cons, List.drop_zero]
                    gi_wp2
                    go_meet
                    exact ⟨HB3.out, .inr ⟨HYs.out.1, g, rfl, rfl, HYs.out.2.1, HYs.out.2.2.1, HYs.out.2.2.2⟩⟩
                  · refine stepV (i := 20) (v := _) (w' := v3) rfl (by rfl) (fun _ _ => trivial) (by rfl) (by go_simp; try with_reducible rfl) (fun _ => HC3.out) ?_
                    simp only [List.getElem_toArray, List.getElem_cons_zero, List.getElem_cons_succ, Act.put, List.setIfInBounds_toArray, List.set_cons_zero, List.set_cons_succ]
                    refine anyC_r1 (i := 19) (by kernel_rfl) ?_
                    refine stepV (i := 19) (v := _) (w' := v3) rfl (by rfl) (fun _ _ => trivial) (by rfl) (by go_simp; try with_reducible rfl) (fun _ => HC3.out) ?_
                    simp only [List.getElem_toArray, List.getElem_cons_zero, List.getElem_cons_succ, Act.put, List.setIfInBounds_toArray, List.set_cons_zero, List.set_cons_succ]
                    refine anyC_tail 21 (by rfl) (by kernel_rfl) (by kernel_rfl) ?_
                    simp only [List.drop_succ_cons, List.drop_zero]
                    gi_wp2
                    go_meet
                    exact ⟨HB3.out, .inr ⟨HYs.out.1, g, rfl, rfl, HYs.out.2.1, HYs.out.2.2.1, HYs.out.2.2.2⟩⟩
                · refine stepV (i := 19) (v := _) (w' := v3) rfl (by rfl) (fun _ _ => trivial) (by rfl) (by go_simp; try with_reducible rfl) (fun _ => HC3.out) ?_
                  simp only [List.getElem_toArray, List.getElem_cons_zero, List.getElem_cons_succ, Act.put, List.setIfInBounds_toArray, List.set_cons_zero, List.set_cons_succ]
                  refine anyC_r1 (i := 18) (by kernel_rfl) ?_
                  refine stepV (i := 18) (v := _) (w' := v3) rfl (by rfl) (fun _ _ => trivial) (by rfl) (by go_simp; try with_reducible rfl) (fun _ => HC3.out) ?_
                  simp only [List.getElem_toArray, List.getElem_cons_zero, List.getElem_cons_succ, Act.put, List.setIfInBounds_toArray, List.set_cons_zero, List.set_cons_succ]
                  refine' anyD_take (i := 20) (v := _) [21] (by kernel_rfl) rfl (by rfl) (by kernel_rfl) (fun _ _ _ h => h) (by rfl) ?hr20b2 HC3.out ?kr20b2
                  case hr20b2 =>
                    intro w' c0
                    clear c0
                    go_simp
                    try with_reducible rfl
                  simp only [List.getElem_toArray, List.getElem_cons_zero, List.getElem_cons_succ, Act.put, List.setIfInBounds_toArray, List.set_cons_zero, List.set_cons_succ]
                  refine anyC_tail 21 (by rfl) (by kernel_rfl) (by kernel_rfl) ?_
                  simp only [List.drop_succ_cons, List.drop_zero]
                  gi_wp2
                  go_meet
                  exact ⟨HB3.out, .inr ⟨HYs.out.1, g, rfl, rfl, HYs.out.2.1, HYs.out.2.2.1, HYs.out.2.2.2⟩⟩
            case rest =>
              obtain ⟨hb3, hcase⟩ := hcut
              obtain ⟨v3, hv3⟩ : ∃ v3, v3 = wc := ⟨_, rfl⟩
              rw [← hv3] at hb3 hcase ⊢
              clear hv3 zT1 zM1 zL1
              have HB3 := Lib.hid hb3
              have HC3 : Hid ((fun w' : World => w'.heap[bp]? = some (.cells #[.slice aT mT cT', .slice aM mM cM', .slice aL mL cL'] 79 (0, 0))) v3) := Lib.hid ((hb3.block bp (Array.getElem?_eq_some_iff.1 HCy.out).1).trans HCy.out)
              have HBw3 : Hid (Below w.heap.size w v3) := Lib.hid (HBv2.out.1.trans (hb3.mono HBv2.out.1.size))
              clear hb3
              rcases hcase with ⟨rfl, rfl, hno⟩ | ⟨hyes, g, rfl, rfl, hg, hT, hfar⟩
              · obtain rfl : ok = false := by
                  cases ok with
                  | false => rfl
                  | true => exact absurd ((fromOk_iff T M L Mx HMx.out).2 (HOk.out.1 rfl)) hno
                clear hno
                go_wp2_with fail
                refine (awake_walk _).mono ?_
                rintro e w9 ⟨rfl, hb9⟩
                have HB9 := Lib.hid (HBw3.out.trans (hb9.mono HBw3.out.size)); clear hb9
                go_wp2
                go_ret
                exact ⟨rfl, HB9.out⟩
              · obtain rfl : ok = true := HOk.out.2 ((fromOk_iff T M L Mx HMx.out).1 hyes)
                obtain ⟨hMd, hTe⟩ := fromOk_made Mx HMx.out hyes
                rw [hTe] at hT hfar
                have hrng := partF_rng (zT := T) (zM := M) HSm.out.rl
                have hfn8 := HFn.out rfl
                obtain ⟨F, hF⟩ : ∃ F, F = partF T M L := ⟨_, rfl⟩
                rw [← hF] at hMd hT hfar hrng hfn8
                obtain ⟨S, hS⟩ : ∃ S, S = mkF F Mx := ⟨_, rfl⟩
                rw [← hS] at hMd hT hfar
                have HMd := Lib.hid hMd; have HT3 := Lib.hid hT; have HFr3 := Lib.hid hfar; have HRg := Lib.hid hrng; have HF8 := Lib.hid hfn8; have HSe := Lib.hid hS
                clear hMd hT hfar hrng hfn8 hS hTe hyes hF HOk HFn
                have HK8 : Hid (∀ k, w7.heap.size ≤ k → k < w8.heap.size → v3.heap[k]? = w8.heap[k]? ∧ Sx k) := Lib.hid (fun k h1 h2 => by
                  have hz := HZd.out
                  have hs : Sx k := HSf.out k h1 (by rw [hz.1, HBf.out]; omega)
                  exact ⟨(HB3.out.block k (by have := ((HSx.out k).1 hs).2.1; have := HBv2.out.2; omega)).trans ((HKp2.out k hs).trans (HKd.out k h2)), hs⟩)
                have HSbf : Hid (Sx bf) := Lib.hid (HSf.out bf HZd.out.2.2 (by rw [HZd.out.1]; omega))
                have HX3f : Hid (v3.heap[bf]? = some (.cells #[.slice fT fn fc, .slice fV fn' fc'] 63 (0, 0))) := Lib.hid ((HB3.out.block bf (by have := ((HSx.out bf).1 HSbf.out).2.1; have := HBv2.out.2; omega)).trans ((HKp2.out bf HSbf.out).trans HbF.out))
                have HF3 := Lib.hid (FnFar.keep (w' := v3) HF8.out HFar.out (fun k h1 h2 => (HK8.out k h1 h2).1))
                have HRw3 := Lib.hid (And.intro (HRw2.out.1.below HB3.out (Nat.le_refl _)) (And.intro (HRw2.out.2.1.below HB3.out (Nat.le_refl _)) (HRw2.out.2.2.1.below HB3.out (Nat.le_refl _))))
                have HLt : Hid (∀ k, v2.heap.size ≤ k → blkO eT ≠ some k ∧ blkO eL ≠ some k) := Lib.hid (fun k h1 => ⟨fun e => by have := (HRw2.out.1.blt k e).2; omega, fun e => by have := (HRw2.out.2.2.1.blt k e).2; omega⟩)
                have p0 := cell_of_row v3 bf 0 _ _ (0, 0) HX3f.out
                have p1 := cell_of_row v3 bf 1 _ _ (0, 0) HX3f.out
                simp at p0 p1
                have HStg := Lib.hid (refStagesF_walk v3 _ F N Mx HN.out HMx.out HF3.out)
                go_wp2_with fail
                refine HStg.out.mono ?_
                clear HStg p0 p1
                rintro e v4 ⟨sv, rfl, hsv, hb4, hf4⟩
                rw [← HSe.out] at hsv
                have hsv2 := hsv
                obtain ⟨sT, dT, sM, dM, sL, dL, rfl, -⟩ := hsv2
                have HS4 := Lib.hid hsv; have HB4 := Lib.hid hb4; have HF4 := Lib.hid hf4
                clear hsv hb4 hf4
                obtain ⟨bs, hbs⟩ : ∃ bs, bs = v4.heap.size := ⟨_, rfl⟩
                obtain ⟨v5, hv5⟩ : ∃ v5, v5 = v4.alloc (.cells #[.slice sT S.top.length dT, .slice sM (64 * S.mids.length) dM, .slice sL (64 * S.lows.length) dL] 70) := ⟨_, rfl⟩
                have HA5 : Hid (Below v4.heap.size v4 v5 ∧ v5.heap[bs]? = some (.cells #[.slice sT S.top.length dT, .slice sM (64 * S.mids.length) dM, .slice sL (64 * S.lows.length) dL] 70 (0, 0))) := Lib.hid (by
                  rw [hv5, hbs]
                  exact ⟨(Below.refl _ _).alloc (Nat.le_refl _) _, heap_alloc_new _ _⟩)
                have HW5 := Lib.hid hv5; have HBs := Lib.hid hbs
                clear hv5 hbs
                go_upto_region 19 with (fail)
                rw [← HW5.out, ← HBs.out]
                clear HW5
                have HB35 : Hid (Below v3.heap.size v3 v5) := Lib.hid (HB4.out.trans (HA5.out.1.mono HB4.out.size))
                have HSt5 : Hid (StagesAt v5 (.agg #[.slice sT S.top.length dT, .slice sM (64 * S.mids.length) dM, .slice sL (64 * S.lows.length) dL]) S) := Lib.hid (by
                  obtain ⟨_, _, _, _, _, _, e, k1, k2, k3⟩ := HS4.out
                  exact ⟨_, _, _, _, _, _, e, k1.below HA5.out.1 (Nat.le_refl _), k2.below HA5.out.1 (Nat.le_refl _), k3.below HA5.out.1 (Nat.le_refl _)⟩)
                have HT5 := Lib.hid (HT3.out.below HB35.out (Nat.le_refl _))
                have HF5 := Lib.hid (HF3.out.below HB35.out)
                have HRw5 := Lib.hid (And.intro (HRw3.out.1.below HB35.out (Nat.le_refl _)) (And.intro (HRw3.out.2.1.below HB35.out (Nat.le_refl _)) (HRw3.out.2.2.below HB35.out (Nat.le_refl _))))
                have HX5f := Lib.hid ((HB35.out.block bf (Array.getElem?_eq_some_iff.1 HX3f.out).1).trans HX3f.out)
                have HX5p := Lib.hid ((HB35.out.block bp (Array.getElem?_eq_some_iff.1 HC3.out).1).trans HC3.out)
                have HLkOk : Hid (LkOk (trieS S) S F (fun x => x) N) := Lib.hid (by rw [HSe.out]; rw [HSe.out] at HMd; exact lkOk HN.out HMx.out HMd.out (fun x y _ _ _ _ h => h) (fun r _ => rfl) (fun r _ => HRg.out r))
                have HLk : Hid (∀ X : World, TrieAt val8 114 64 X g (trieS S) → FnAt X (.agg #[.slice fT fn fc, .slice fV fn' fc']) (runL F N) → StagesAt X (.agg #[.slice sT S.top.length dT, .slice sM (64 * S.mids.length) dM, .slice sL (64 * S.lows.length) dL]) S →
                    Calls Try.prog 39 #[.pointer (some ⟨g, 0, none⟩), .agg #[.slice fT fn fc, .slice fV fn' fc'], .agg #[.slice sT S.top.length dT, .slice sM (64 * S.mids.length) dM, .slice sL (64 * S.lows.length) dL], .func (.func 27) #[] #[], .slice none 0 0] X fun e w' => e = .returned (.bool true) ∧ Below X.heap.size X w') :=
                  Lib.hid (fun X h1 h2 h3 => looks_walk X g (trieS S) S F (fun x => x) N HN.out HLkOk.out h1 _ _ h2 h3 27 #[] (enters_of Try.func27 (by kernel_rfl) rfl) (fun v _ _ W _ => same_walk v W) none 0 0 [] (Ints.nil _ _ _) rfl (fun z hz => absurd hz List.not_mem_nil))
                have HBw5 : Hid (Below w.heap.size w v5) := Lib.hid (HBw3.out.trans (HB35.out.mono HBw3.out.size))
                obtain ⟨hT_, ehT, -⟩ := Own.at HRw5.out.1 (by omega)
                obtain ⟨hM_, ehM, -⟩ := Own.at HRw5.out.2.1 (by omega)
                obtain ⟨hL_, ehL, -⟩ := Own.at HRw5.out.2.2 (by omega)
                subst ehT ehM ehL
                have lT5 : (ivs .u16 (natsI T)).length = mT := by rw [ivs_length, natsI_length, HmT.out]
                have lM5 : (ivs .u16 (natsI M)).length = mM := by rw [ivs_length, natsI_length, HmM.out]
                have lL5 : (ivs .u8 L).length = mL := by rw [ivs_length, HmL.out]
                have y0 : v5.cell? ⟨hT_, mT, none⟩ = some (.int .u16 71) := by rw [Own.cell HRw5.out.1 mT (by simp; omega), List.getElem_append_right (by omega)]; simp [lT5]
                have y1 : v5.cell? ⟨hM_, mM, none⟩ = some (.int .u16 73) := by rw [Own.cell HRw5.out.2.1 mM (by simp; omega), List.getElem_append_right (by omega)]; simp [lM5]
                have y2 : v5.cell? ⟨hL_, mL, none⟩ = some (.int .u8 74) := by rw [Own.cell HRw5.out.2.2 mL (by simp; omega), List.getElem_append_right (by omega)]; simp [lL5]
                have r0 := cell_of_row v5 bp 0 _ _ (0, 0) HX5p.out
                have r1 := cell_of_row v5 bp 1 _ _ (0, 0) HX5p.out
                have r2 := cell_of_row v5 bp 2 _ _ (0, 0) HX5p.out
                have p0 := cell_of_row v5 bf 0 _ _ (0, 0) HX5f.out
                have p1 := cell_of_row v5 bf 1 _ _ (0, 0) HX5f.out
                have s0 := cell_of_row v5 bs 0 _ _ (0, 0) HA5.out.2
                have s1 := cell_of_row v5 bs 1 _ _ (0, 0) HA5.out.2
                have s2 := cell_of_row v5 bs 2 _ _ (0, 0) HA5.out.2
                simp at r0 r1 r2 p0 p1 s0 s1 s2
                have i0 : (mT : Int) < (mT : Int) + 2 := by omega
                have i1 : (mM : Int) < (mM : Int) + 1 := by omega
                have i2 : (mL : Int) < (mL : Int) + 1 := by omega
                clear lT5 lM5 lL5
                go_wp2_with fail
                refine (HLk.out v5 HT5.out HF5.out HSt5.out).mono ?_
                rintro e v6 ⟨rfl, hb6⟩
                have HB6 := Lib.hid hb6
                clear hb6 y0 y1 y2 r0 r1 r2 p0 p1 s0 s1 s2 i0 i1 i2
                have HRw6 := Lib.hid (And.intro (HRw5.out.1.below HB6.out (Nat.le_refl _)) (HRw5.out.2.2.below HB6.out (Nat.le_refl _)))
                have HT6 := Lib.hid (HT5.out.below HB6.out (Nat.le_refl _))
                have HSt6 : Hid (StagesAt v6 (.agg #[.slice sT S.top.length dT, .slice sM (64 * S.mids.length) dM, .slice sL (64 * S.lows.length) dL]) S) := Lib.hid (by
                  obtain ⟨_, _, _, _, _, _, e, k1, k2, k3⟩ := HSt5.out
                  exact ⟨_, _, _, _, _, _, e, k1.below HB6.out (Nat.le_refl _), k2.below HB6.out (Nat.le_refl _), k3.below HB6.out (Nat.le_refl _)⟩)
                have HX6f := Lib.hid ((HB6.out.block bf (Array.getElem?_eq_some_iff.1 HX5f.out).1).trans HX5f.out)
                have HX6p := Lib.hid ((HB6.out.block bp (Array.getElem?_eq_some_iff.1 HX5p.out).1).trans HX5p.out)
                have HX6s := Lib.hid ((HB6.out.block bs (Array.getElem?_eq_some_iff.1 HA5.out.2).1).trans HA5.out.2)
                have HBw6 : Hid (Below w.heap.size w v6) := Lib.hid (HBw5.out.trans (HB6.out.mono HBw5.out.size))
                have HFr6 := Lib.hid ((HFr3.out.below HB35.out).below HB6.out)
                have HK6 : Hid (∀ k, w7.heap.size ≤ k → k < w8.heap.size → v6.heap[k]? = w8.heap[k]? ∧ Sx k) := Lib.hid (fun k h1 h2 => by
                  obtain ⟨e, hs⟩ := HK8.out k h1 h2
                  have hz := HZd.out
                  have l3 : k < v3.heap.size := by have := ((HSx.out k).1 hs).2.1; have := HBv2.out.2; have := HB3.out.size; omega
                  have l5 : k < v5.heap.size := Nat.lt_of_lt_of_le l3 HB35.out.size
                  exact ⟨(HB6.out.block k l5).trans ((HB35.out.block k l3).trans e), hs⟩)
                have HSz6 : Hid (v2.heap.size ≤ v3.heap.size ∧ v3.heap.size ≤ v4.heap.size ∧ v4.heap.size ≤ v5.heap.size ∧ v5.heap.size ≤ v6.heap.size) := Lib.hid ⟨HB3.out.size, HB4.out.size, HA5.out.1.size, HB6.out.size⟩
                have HEnd : Hid (∀ X : World, Off2 (some ⟨hT_, 0, none⟩) (some ⟨hL_, 0, none⟩) v6 X → TrieAt val8 114 64 X g (trieS S) ∧ FnAt X (.agg #[.slice fT fn fc, .slice fV fn' fc']) (runL F N) ∧ StagesAt X (.agg #[.slice sT S.top.length dT, .slice sM (64 * S.mids.length) dM, .slice sL (64 * S.lows.length) dL]) S ∧
                    X.heap[bf]? = some (.cells #[.slice fT fn fc, .slice fV fn' fc'] 63 (0, 0)) ∧ X.heap[bp]? = some (.cells #[.slice aT mT cT', .slice aM mM cM', .slice aL mL cL'] 79 (0, 0)) ∧ X.heap[bs]? = some (.cells #[.slice sT S.top.length dT, .slice sM (64 * S.mids.length) dM, .slice sL (64 * S.lows.length) dL] 70 (0, 0)) ∧ Below w.heap.size w X) := Lib.hid (fun X ho => by
                  have far : ∀ k, v2.heap.size ≤ k → X.heap[k]? = v6.heap[k]? := fun k hk => ho.blk k (HLt.out k hk).1 (HLt.out k hk).2
                  have hz := HSz6.out
                  refine ⟨HFr6.out.keep HT6.out (fun k h1 _ => far k h1), FnFar.keep (w' := X) HF8.out HFar.out (fun k h1 h2 => ?_), Far3.keep HSt6.out HF4.out (fun k h1 _ => far k (by omega)), ?_, ?_, ?_, ?_⟩
                  · obtain ⟨e, hs⟩ := HK6.out k h1 h2
                    exact (ho.blk k (HSep.out k hs).1 (HSep.out k hs).2).trans e
                  · exact (ho.blk bf (HSep.out bf HSbf.out).1 (HSep.out bf HSbf.out).2).trans HX6f.out
                  · exact (ho.blk bp (HSep.out bp HSb.out).1 (HSep.out bp HSb.out).2).trans HX6p.out
                  · exact (far bs (by have := HBs.out; omega)).trans HX6s.out
                  · exact HBw6.out.trans (ho.below (fun k e => (HRw6.out.1.blt k e).1) (fun k e => (HRw6.out.2.blt k e).1)))
                have HNe : Hid (hT_ ≠ hL_) := Lib.hid (fun e => HRw2.out.2.2.2 hT_ rfl (by rw [e]; rfl))
                clear HRw5 HT5 HSt5 HX5f HX5p HBw5 HFr3 HK8 HF3 HRw3 HT3 HC3
                go_wp2
                go_loopw [19] (fun iv X => ∃ (k : Nat) (xs : List Value), k ≤ mT ∧ iv = .int .i64 (k : Nat) ∧ Own w.heap.size 91 X (some ⟨hT_, 0, none⟩) (mT + 2) xT xs ∧ Own w.heap.size 5 X (some ⟨hL_, 0, none⟩) (mL + 1) xL (ivs .u8 L ++ [.int .u8 74]) ∧ Off2 (some ⟨hT_, 0, none⟩) (some ⟨hL_, 0, none⟩) v6 X) (fun iv _ => mT - (intOf iv).toNat)
                case atStart => exact ⟨0, _, Nat.zero_le _, rfl, HRw6.out.1, HRw6.out.2, Off2.refl _ _ _⟩
                case round =>
                  obtain ⟨k, xs, hk, rfl, hown, hownL, hoff⟩ := hrel
                  obtain ⟨X, hX⟩ : ∃ X, X = wr := ⟨_, rfl⟩
                  rw [← hX] at hown hownL hoff ⊢
                  clear hX
                  have HOw := Lib.hid hown; have HOl := Lib.hid hownL; have HOf := Lib.hid hoff
                  clear hown hownL hoff
                  have HE := Lib.hid (HEnd.out X HOf.out)
                  have r0 := cell_of_row X bp 0 _ _ (0, 0) HE.out.2.2.2.2.1
                  have r2 := cell_of_row X bp 2 _ _ (0, 0) HE.out.2.2.2.2.1
                  simp at r0 r2
                  by_cases hkn : k < mT
                  · have hki : (k : Int) < (mT : Int) := by omega
                    have hk2 : (k : Int) < (mT : Int) + 2 := by omega
                    have hkx : k < xs.length := by rw [Own.len HOw.out]; omega
                    have c0 := Own.cell HOw.out k hkx
                    have f0 := Own.unfrozen HOw.out k
                    obtain ⟨old, hold⟩ : ∃ old, old = xs[k] := ⟨_, rfl⟩
                    rw [← hold] at c0
                    have HN1 := Lib.hid (Own.store HOw.out k (.int .u16 0))
                    have HN2 := Lib.hid (Own.grownO HOl.out (grown_store X hT_ k (.int .u16 0)) (fun q e => by cases e; exact fun e => HNe.out (by simpa [blkO] using e.symm)))
                    have HN3 := Lib.hid (HOf.out.set hT_ k (.int .u16 0) (.inl rfl))
                    clear hold hkx
                    go_wp2
                    go_roundw
                    case rel => exact ⟨k + 1, _, hkn, by go_num, HN1.out, HN2.out, HN3.out⟩
                    case measure => simp [intOf]; omega
                  · obtain rfl : mT = k := by omega
                    have hki : ¬ (mT : Int) < (mT : Int) := by omega
                    go_wp2
                    go_loopw [20] (fun iv Y => ∃ (k : Nat) (ys : List Value), k ≤ mL ∧ iv = .int .i64 (k : Nat) ∧ Own w.heap.size 5 Y (some ⟨hL_, 0, none⟩) (mL + 1) xL ys ∧ Off2 (some ⟨hT_, 0, none⟩) (some ⟨hL_, 0, none⟩) v6 Y) (fun iv _ => mL - (intOf iv).toNat)
                    case atStart => exact ⟨0, _, Nat.zero_le _, rfl, HOl.out, HOf.out⟩
                    case round =>
                      obtain ⟨k, ys, hk, rfl, hown, hoff⟩ := hrel
                      obtain ⟨Y, hY⟩ : ∃ Y, Y = wr := ⟨_, rfl⟩
                      rw [← hY] at hown hoff ⊢
                      clear hY r0 r2
                      have HOy := Lib.hid hown; have HOg := Lib.hid hoff
                      clear hown hoff
                      have HG := Lib.hid (HEnd.out Y HOg.out)
                      have r0 := cell_of_row Y bp 0 _ _ (0, 0) HG.out.2.2.2.2.1
                      have r2 := cell_of_row Y bp 2 _ _ (0, 0) HG.out.2.2.2.2.1
                      simp at r0 r2
                      by_cases hkn : k < mL
                      · have hki2 : (k : Int) < (mL : Int) := by omega
                        have hk2 : (k : Int) < (mL : Int) + 1 := by omega
                        have hkx : k < ys.length := by rw [Own.len HOy.out]; omega
                        have c0 := Own.cell HOy.out k hkx
                        have f0 := Own.unfrozen HOy.out k
                        obtain ⟨old, hold⟩ : ∃ old, old = ys[k] := ⟨_, rfl⟩
                        rw [← hold] at c0
                        have HN1 := Lib.hid (Own.store HOy.out k (.int .u8 77))
                        have HN3 := Lib.hid (HOg.out.set hL_ k (.int .u8 77) (.inr rfl))
                        clear hold hkx
                        go_wp2
                        go_roundw
                        case rel => exact ⟨k + 1, _, hkn, by go_num, HN1.out, HN3.out⟩
                        case measure => simp [intOf]; omega
                      · obtain rfl : mL = k := by omega
                        have hki2 : ¬ (mL : Int) < (mL : Int) := by omega
                        have p0 := cell_of_row Y bf 0 _ _ (0, 0) HG.out.2.2.2.1
                        have p1 := cell_of_row Y bf 1 _ _ (0, 0) HG.out.2.2.2.1
                        have s0 := cell_of_row Y bs 0 _ _ (0, 0) HG.out.2.2.2.2.2.1
                        have s1 := cell_of_row Y bs 1 _ _ (0, 0) HG.out.2.2.2.2.2.1
                        have s2 := cell_of_row Y bs 2 _ _ (0, 0) HG.out.2.2.2.2.2.1
                        simp at p0 p1 s0 s1 s2
                        have HLk2 := Lib.hid (HLk.out Y HG.out.1 HG.out.2.1 HG.out.2.2.1)
                        go_wp2_with fail
                        refine HLk2.out.mono ?_
                        rintro e v8 ⟨rfl, hb8⟩
                        have HB8 := Lib.hid (HG.out.2.2.2.2.2.2.trans (hb8.mono HG.out.2.2.2.2.2.2.size))
                        clear hb8 HLk2 p0 p1 s0 s1 s2 r0 r2
                        go_wp2_with fail
                        refine (awake_walk _).mono ?_
                        rintro e v9 ⟨rfl, hb9⟩
                        have HB9 := Lib.hid (HB8.out.trans (hb9.mono HB8.out.size))
                        clear hb9
                        go_wp2
                        go_ret
                        exact ⟨rfl, HB9.out⟩
end Go.Proofs.Ytabbabkmojaoaaa
