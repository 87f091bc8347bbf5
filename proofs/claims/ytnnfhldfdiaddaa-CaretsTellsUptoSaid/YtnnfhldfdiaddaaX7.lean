/-
  The document's line: its carets.
-/
import Derived.Test.YtnnfhldfdiaddaaX6
set_option linter.unusedVariables false
namespace Go.Proofs.Ytnnfhldfdiaddaa
open Go.RowKit

theorem quiet_add_left {P : Program} {f : FuncId} {args : Array Value} {w : World} {a n : Nat} {v : Value}
    (h : Calls P f args (w.drewN (a + n)) fun e w' => e = .returned v ∧ w.drewN (a + n) = w') :
    Calls P f args (w.drewN (a + n)) fun e w'' => e = .returned v ∧ ∃ m, w'' = w.drewN (a + m) :=
  h.mono fun _ _ ⟨he, hm⟩ => ⟨he, n, hm.symm⟩
theorem quiet_left {P : Program} {f : FuncId} {args : Array Value} {w : World} {n : Nat} {v : Value}
    (h : Calls P f args (w.drewN n) fun e w' => e = .returned v ∧ w.drewN n = w') : Calls P f args (w.drewN n) fun e w'' => e = .returned v ∧ ∃ m, w'' = w.drewN m :=
  h.mono fun _ _ ⟨he, hm⟩ => ⟨he, n, hm.symm⟩
theorem IsRef.drewN {w : World} {g : Nat} {base : Int} {lv ws : List Int} (h : IsRef w g base lv ws) (n : Nat) : IsRef (w.drewN n) g base lv ws := h.below (below_drewN (Below.refl _ _) n) (Nat.le_refl _)

theorem edge_first {base : Int} (h : base = 0 ∨ base = 1) (lv : List Int) : edgeP base lv false = base * (ord lv).length := by
  rcases h with rfl | rfl <;> simp [edgeP]
theorem edge_last {base : Int} (h : base = 0 ∨ base = 1) (lv : List Int) : edgeP base lv true = (1 - base) * (ord lv).length := by
  rcases h with rfl | rfl <;> simp [edgeP]

theorem BehP.start (base : Int) (lv : List Int) : BehP base lv 0 (base * (ord lv).length) base := .inl ⟨fun j hj => by omega, rfl, rfl⟩
theorem BehP.shown {base : Int} {lv : List Int} {k : Nat} (hk : k < lv.length) (hs : lv.getD k 0 ≠ -1) : BehP base lv (k + 1) ((placesL lv).getD k 0 + 1 - lv.getD k 0 % 2) (lv.getD k 0) :=
  .inr ⟨k, by omega, hk, hs, fun j h1 h2 => by omega, rfl, rfl⟩
theorem BehP.gone {base : Int} {lv : List Int} {k : Nat} {p l : Int} (h : BehP base lv k p l) (hs : lv.getD k 0 = -1) : BehP base lv (k + 1) p l := by
  rcases h with ⟨h1, h2, h3⟩ | ⟨i, h1, h2, h3, h4, h5, h6⟩
  · refine .inl ⟨fun j hj => ?_, h2, h3⟩
    by_cases e : j = k
    · rw [e]; exact hs
    · exact h1 j (by omega)
  · refine .inr ⟨i, by omega, h2, h3, fun j hj1 hj2 => ?_, h5, h6⟩
    by_cases e : j = k
    · rw [e]; exact hs
    · exact h4 j hj1 (by omega)
theorem AheP.start (base : Int) (lv : List Int) : AheP base lv lv.length ((1 - base) * (ord lv).length) base := .inl ⟨fun j h1 h2 => by omega, rfl, rfl⟩
theorem AheP.shown {base : Int} {lv : List Int} {k : Nat} (hk : k < lv.length) (hs : lv.getD k 0 ≠ -1) : AheP base lv k ((placesL lv).getD k 0 + lv.getD k 0 % 2) (lv.getD k 0) :=
  .inr ⟨k, Nat.le_refl _, hk, hs, fun j h1 h2 => by omega, rfl, rfl⟩
theorem AheP.gone {base : Int} {lv : List Int} {k : Nat} {p l : Int} (h : AheP base lv (k + 1) p l) (hs : lv.getD k 0 = -1) : AheP base lv k p l := by
  rcases h with ⟨h1, h2, h3⟩ | ⟨i, h1, h2, h3, h4, h5, h6⟩
  · refine .inl ⟨fun j hj1 hj2 => ?_, h2, h3⟩
    by_cases e : j = k
    · rw [e]; exact hs
    · exact h1 j (by omega) hj2
  · refine .inr ⟨i, by omega, h2, h3, fun j hj1 hj2 => ?_, h5, h6⟩
    by_cases e : j = k
    · rw [e]; exact hs
    · exact h4 j (by omega) hj2

def CarA (base : Int) (lv : List Int) (a : Nat) (w0 : World) (p l i : Value) (wr : World) : Prop :=
  ∃ (k : Nat) (pz lz : Int), k ≤ a ∧ i = .int .i64 k ∧ p = .int .i64 pz ∧ l = .int .i8 lz ∧ BehP base lv k pz lz ∧ Below w0.heap.size w0 wr
def CarB (base : Int) (lv : List Int) (a : Nat) (w0 : World) (p l i : Value) (wr : World) : Prop :=
  ∃ (k : Nat) (pz lz : Int), a ≤ k ∧ k ≤ lv.length ∧ i = .int .i64 ((k : Int) - 1) ∧ p = .int .i64 pz ∧ l = .int .i8 lz ∧ AheP base lv k pz lz ∧ Below w0.heap.size w0 wr

set_option maxRecDepth 100000 in
set_option maxHeartbeats 2000000 in
theorem rCaret_walk (g : Nat) (base : Int) (lv ws : List Int) (a : Nat) (w : World) (h : IsRef w g base lv ws) (ha : a ≤ lv.length) :
    Calls Try.prog 41 #[.pointer (some ⟨g, 0, none⟩), .int .i64 a] w (CaretPost base lv ws a w) := by
  have HH := Lib.hid h
  have hgl := h.lt
  have H01 := Lib.hid h.ok.h01
  have HOK := Lib.hid h.ok.ok
  have hb8 : 0 ≤ base ∧ base ≤ 1 := by rcases h.ok.h01 with h | h <;> omega
  have hlen := h.ok.len
  have HM := Lib.hid h.open
  clear h
  have hA : (w.alloc (.cells #[.int .i64 0, .int .i64 0, .int .i64 0, .int .i64 0, .bool false] 39)).heap[w.heap.size]? = some (.cells #[.int .i64 0, .int .i64 0, .int .i64 0, .int .i64 0, .bool false] 39 (0, 0)) := heap_alloc_new w _
  have HA := Lib.hid hA; clear hA
  have HB0 := Lib.hid ((Below.refl _ w).alloc (Nat.le_refl _) (.cells #[.int .i64 0, .int .i64 0, .int .i64 0, .int .i64 0, .bool false] 39))
  have k1 : ∃ aL cL, (w.alloc (.cells #[.int .i64 0, .int .i64 0, .int .i64 0, .int .i64 0, .bool false] 39)).cell? ⟨g, 1, none⟩ = some (.slice aL lv.length cL) ∧ (w.alloc (.cells #[.int .i64 0, .int .i64 0, .int .i64 0, .int .i64 0, .bool false] 39)).cell? ⟨g, 0, none⟩ = some (.int .i8 base) ∧ Hid (Ints .i8 w aL lv) := by
    obtain ⟨n, m, aL, cL, aW, cW, aO, cO, aA, cA, hn, hn2, hm, hMM, hmn, hn3, iL, iW, iO, iA⟩ := HM.out
    exact ⟨aL, cL, by rw [HB0.out.cell (p := ⟨g, 1, none⟩) hgl, hMM.k1, hn.out], by rw [HB0.out.cell (p := ⟨g, 0, none⟩) hgl, hMM.k0], iL⟩
  obtain ⟨aL, cL, k1, k0, iL⟩ := k1
  have hgl0 : g < (w.alloc (.cells #[.int .i64 0, .int .i64 0, .int .i64 0, .int .i64 0, .bool false] 39)).heap.size := by simp; omega
  have HB00 := Lib.hid (show w.heap.size < (w.alloc (.cells #[.int .i64 0, .int .i64 0, .int .i64 0, .int .i64 0, .bool false] 39)).heap.size by simp)
  go_enter Try.func41, Try.ntmps41
  go_wp2
  generalize hw0 : (w.alloc (.cells #[.int .i64 0, .int .i64 0, .int .i64 0, .int .i64 0, .bool false] 39)) = w0 at *
  have HW0 := Lib.hid hw0; clear hw0
  have HH0 := Lib.hid (HH.out.below HB0.out (Nat.le_refl _))
  have iL0 := Lib.hid (iL.out.below HB0.out (Nat.le_refl _))
  go_quiet ((go_at_call 51; exact quiet_left (edge_walk g base lv ws false _ (HH0.out.drewN _))))
  rw [edge_first H01.out]
  go_wp2
  go_loopw [6, 7, 8] (CarA base lv a w0) (fun _ _ i _ => a - (intOf i).toNat)
  case atStart => exact ⟨0, _, _, Nat.zero_le _, rfl, rfl, rfl, BehP.start base lv, by first | exact below_drewN (Below.refl _ _) _ | exact Below.refl _ _⟩
  case round =>
    obtain ⟨k, pz, lz, hk, rfl, rfl, rfl, hbeh, hB⟩ := hrel
    have hgr : g < wr.heap.size := Nat.lt_of_lt_of_le hgl0 hB.size
    have k1' : wr.cell? ⟨g, 1, none⟩ = some (.slice aL lv.length cL) := by rw [hB.cell (p := ⟨g, 1, none⟩) hgl0]; exact k1
    have k0' : wr.cell? ⟨g, 0, none⟩ = some (.int .i8 base) := by rw [hB.cell (p := ⟨g, 0, none⟩) hgl0]; exact k0
    have HHr := Lib.hid (HH0.out.below hB (Nat.le_refl _))
    have iLr := Lib.hid (iL0.out.below hB (Nat.le_refl _))
    have HBe := Lib.hid hbeh; clear hbeh
    have HBr := Lib.hid hB; clear hB
    by_cases hlt : k < a
    · have hkl : k < lv.length := by omega
      obtain ⟨bL, oL, haL⟩ := iLr.out.some (by omega)
      subst haL
      have c1 := iLr.out.get k hkl
      have hg : lv.getD k 0 = lv[k] := by simp [hkl]
      have hki : (k : Int) < (lv.length : Int) := by omega
      by_cases hs : 0 ≤ lv[k]
      · have HN : Hid (BehP base lv (k + 1) ((placesL lv).getD k 0 + 1 - lv[k] % 2) lv[k]) := by
          have := BehP.shown (base := base) hkl (by omega)
          rw [hg] at this
          exact Lib.hid this
        have hpb := placesL_bd hkl (by omega)
        have hol := ord_le lv
        have HE := Lib.hid (fun W (hW : IsRef W g base lv ws) => endR_walk g base lv ws k W hW hkl ⟨hs, (okL_get lv HOK.out k hkl).2⟩ ⟨hpb.1, by omega⟩)
        clear hg hpb hol
        generalize (placesL lv).getD k 0 + 1 - lv[k] % 2 = y at *
        generalize lv[k] = z at *
        go_wp2
        go_quiet ((go_at_call 52; exact quiet_left (HE.out _ (HHr.out.drewN _))))
        go_wp2
        go_roundw
        case rel => exact ⟨k + 1, _, _, by omega, by go_num, rfl, rfl, HN.out, below_drewN HBr.out _⟩
        case measure => simp [intOf]; omega
      · have HN : Hid (BehP base lv (k + 1) pz lz) := Lib.hid (HBe.out.gone (by have := okL_get lv HOK.out k hkl; omega))
        clear hg
        generalize lv[k] = z at *
        go_wp2
        go_roundw
        case rel => exact ⟨k + 1, _, _, by omega, by go_num, rfl, rfl, HN.out, HBr.out⟩
        case measure => simp [intOf]; omega
    · obtain rfl : k = a := by omega
      go_wp2
      go_quiet ((go_at_call 51; exact quiet_left (edge_walk g base lv ws true _ (HHr.out.drewN _))))
      rw [edge_last H01.out]
      go_wp2
      go_loopw [9, 10, 11] (CarB base lv k w0) (fun _ _ i _ => (intOf i + 1).toNat)
      case atStart => exact ⟨lv.length, _, _, ha, Nat.le_refl _, rfl, rfl, rfl, AheP.start base lv, below_drewN HBr.out _⟩
      case round =>
        obtain ⟨j, qz, mz, hj, hjl, rfl, rfl, rfl, hahe, hB2⟩ := hrel
        have HAh := Lib.hid hahe; clear hahe
        have HB2 := Lib.hid hB2
        have hgr2 : g < wr.heap.size := Nat.lt_of_lt_of_le hgl0 hB2.size
        have k12 : wr.cell? ⟨g, 1, none⟩ = some (.slice aL lv.length cL) := by rw [hB2.cell (p := ⟨g, 1, none⟩) hgl0]; exact k1
        have HHr2 := Lib.hid (HH0.out.below hB2 (Nat.le_refl _))
        have iLr2 := Lib.hid (iL0.out.below hB2 (Nat.le_refl _))
        have hsz2 := hB2.size
        clear hB2
        by_cases hlt2 : k < j
        · obtain ⟨jj, rfl⟩ : ∃ jj, j = jj + 1 := ⟨j - 1, by omega⟩
          rw [show (((jj + 1 : Nat) : Int) - 1) = (jj : Int) by omega]
          have hkl : jj < lv.length := by omega
          obtain ⟨bL, oL, haL⟩ := iLr2.out.some (by omega)
          subst haL
          have c1 := iLr2.out.get jj hkl
          have hg : lv.getD jj 0 = lv[jj] := by simp [hkl]
          have hki : (jj : Int) < (lv.length : Int) := by omega
          have hkj : (k : Int) ≤ (jj : Int) := by omega
          by_cases hs : 0 ≤ lv[jj]
          · have HN : Hid (AheP base lv jj ((placesL lv).getD jj 0 + lv[jj] % 2) lv[jj]) := by
              have := AheP.shown (base := base) hkl (by omega)
              rw [hg] at this
              exact Lib.hid this
            have hpb := placesL_bd hkl (by omega)
            have hol := ord_le lv
            have HE := Lib.hid (fun W (hW : IsRef W g base lv ws) => beginR_walk g base lv ws jj W hW hkl ⟨hs, (okL_get lv HOK.out jj hkl).2⟩ ⟨hpb.1, by omega⟩)
            clear hg hpb hol
            generalize (placesL lv).getD jj 0 + lv[jj] % 2 = y at *
            generalize lv[jj] = z at *
            go_wp2
            go_quiet ((go_at_call 53; exact quiet_left (HE.out _ (HHr2.out.drewN _))))
            go_wp2
            go_roundw
            case rel => exact ⟨jj, _, _, by omega, by omega, rfl, rfl, rfl, HN.out, below_drewN HB2.out _⟩
            case measure => simp [intOf]
          · have HN : Hid (AheP base lv jj qz mz) := Lib.hid (HAh.out.gone (by have := okL_get lv HOK.out jj hkl; omega))
            clear hg
            generalize lv[jj] = z at *
            go_wp2
            go_roundw
            case rel => exact ⟨jj, _, _, by omega, by omega, rfl, rfl, rfl, HN.out, HB2.out⟩
            case measure => simp [intOf]
        · obtain rfl : j = k := by omega
          have hge : decide ((j : Int) ≤ (j : Int) - 1) = false := decide_eq_false (by omega)
          have hp := HBe.out.range H01.out
          have hq := HAh.out.range H01.out
          obtain ⟨pn, rfl⟩ := Int.eq_ofNat_of_zero_le hp.1
          obtain ⟨qn, rfl⟩ := Int.eq_ofNat_of_zero_le hq.1
          have hpm : pn ≤ (ord lv).length := by omega
          have hqm : qn ≤ (ord lv).length := by omega
          clear hp hq
          have hR : wr.heap[w.heap.size]? = some (.cells #[.int .i64 0, .int .i64 0, .int .i64 0, .int .i64 0, .bool false] 39 (0, 0)) := by rw [HB2.out.block _ HB00.out]; exact HA.out
          have R0 := cell_of_row wr w.heap.size 0 _ _ (0, 0) hR
          have R1 := cell_of_row wr w.heap.size 1 _ _ (0, 0) hR
          have R2 := cell_of_row wr w.heap.size 2 _ _ (0, 0) hR
          have R3 := cell_of_row wr w.heap.size 3 _ _ (0, 0) hR
          have R4 := cell_of_row wr w.heap.size 4 _ _ (0, 0) hR
          have F0 := frozen_of_row wr w.heap.size 0 _ _ hR
          have F1 := frozen_of_row wr w.heap.size 1 _ _ hR
          have F2 := frozen_of_row wr w.heap.size 2 _ _ hR
          have F3 := frozen_of_row wr w.heap.size 3 _ _ hR
          have F4 := frozen_of_row wr w.heap.size 4 _ _ hR
          simp at R0 R1 R2 R3 R4
          have hRl : w.heap.size < wr.heap.size := Nat.lt_of_lt_of_le HB00.out hsz2
          have hRn : w.heap.size ≠ wr.heap.size := by omega
          have HV : ∀ s t : Nat, caretV ws (ord lv) (s : Int) (t : Int) = .agg #[.int .i64 s, .int .i64 t, .int .i64 (colAt ws (ord lv) s), .int .i64 (colAt ws (ord lv) t), .bool ((s : Int) != t)] := fun s t => by simp [caretV]
          have HVh := Lib.hid HV; clear HV
          clear hR k1 k0 k1' k0'
          by_cases hlm : mz < lz
          · have HP := Lib.hid (show CaretP base lv j (qn : Int) (pn : Int) from ⟨_, _, _, _, HBe.out, HAh.out, .inl ⟨hlm, rfl, rfl⟩⟩)
            have HVq := Lib.hid (HVh.out qn pn)
            have HX := Lib.hid HVq.out; clear HVq
            go_wp2_with fail
            refine (rColumn_walk g base lv ws qn _ (HH0.out.below (HB2.out.alloc HB2.out.size _) (Nat.le_refl _)) hqm).mono ?_
            rintro e w' ⟨rfl, d, rfl⟩
            generalize colAt ws (ord lv) qn = x at *
            go_wp2_with fail
            refine (rColumn_walk g base lv ws pn _ (HH0.out.below ((below_drewN (HB2.out.alloc HB2.out.size _) d).setCell (by exact HB2.out.size) _) (Nat.le_refl _)) hpm).mono ?_
            rintro e w' ⟨rfl, d2, rfl⟩
            generalize colAt ws (ord lv) pn = y at *
            have hb5 : Below wr.heap.size wr ((((wr.alloc (.cells #[.int .i64 qn, .int .i64 pn, .int .i64 0, .int .i64 0, .bool ((pn : Int) != (qn : Int))] 39)).drewN d).setCell ⟨wr.heap.size, 2, none⟩ (.int .i64 x)).drewN d2) := below_drewN ((below_drewN ((Below.refl _ wr).alloc (Nat.le_refl _) _) d).setCell (by exact Nat.le_refl _) _) d2
            have hblk : ((((wr.alloc (.cells #[.int .i64 qn, .int .i64 pn, .int .i64 0, .int .i64 0, .bool ((pn : Int) != (qn : Int))] 39)).drewN d).setCell ⟨wr.heap.size, 2, none⟩ (.int .i64 x)).drewN d2).heap[wr.heap.size]? = some (.cells #[.int .i64 qn, .int .i64 pn, .int .i64 x, .int .i64 0, .bool ((pn : Int) != (qn : Int))] 39 (0, 0)) := by
              have h1 : ((wr.alloc (.cells #[.int .i64 qn, .int .i64 pn, .int .i64 0, .int .i64 0, .bool ((pn : Int) != (qn : Int))] 39)).drewN d).heap[wr.heap.size]? = some (.cells #[.int .i64 qn, .int .i64 pn, .int .i64 0, .int .i64 0, .bool ((pn : Int) != (qn : Int))] 39 (0, 0)) := heap_alloc_new wr _
              have h2 := heap_setCell_same _ wr.heap.size 2 _ _ (.int .i64 x) h1
              simpa using h2
            generalize ((((wr.alloc (.cells #[.int .i64 qn, .int .i64 pn, .int .i64 0, .int .i64 0, .bool ((pn : Int) != (qn : Int))] 39)).drewN d).setCell ⟨wr.heap.size, 2, none⟩ (.int .i64 x)).drewN d2) = w5 at *
            have hcN : wr.heap.size < w5.heap.size := (Array.getElem?_eq_some_iff.1 hblk).1
            have HB5 := Lib.hid (HB0.out.trans ((HB2.out.trans (hb5.mono hsz2)).mono (Nat.le_of_lt HB00.out)))
            have S0 := (hb5.cell (p := ⟨w.heap.size, 0, none⟩) hRl).trans R0
            have S1 := (hb5.cell (p := ⟨w.heap.size, 1, none⟩) hRl).trans R1
            have S2 := (hb5.cell (p := ⟨w.heap.size, 2, none⟩) hRl).trans R2
            have S3 := (hb5.cell (p := ⟨w.heap.size, 3, none⟩) hRl).trans R3
            have S4 := (hb5.cell (p := ⟨w.heap.size, 4, none⟩) hRl).trans R4
            have G0 := (hb5.frozen (p := ⟨w.heap.size, 0, none⟩) hRl).trans F0
            have G1 := (hb5.frozen (p := ⟨w.heap.size, 1, none⟩) hRl).trans F1
            have G2 := (hb5.frozen (p := ⟨w.heap.size, 2, none⟩) hRl).trans F2
            have G3 := (hb5.frozen (p := ⟨w.heap.size, 3, none⟩) hRl).trans F3
            have G4 := (hb5.frozen (p := ⟨w.heap.size, 4, none⟩) hRl).trans F4
            have r0 := cell_of_row w5 wr.heap.size 0 _ _ (0, 0) hblk
            have r1 := cell_of_row w5 wr.heap.size 1 _ _ (0, 0) hblk
            have r2 := cell_of_row w5 wr.heap.size 2 _ _ (0, 0) hblk
            have r3 := cell_of_row w5 wr.heap.size 3 _ _ (0, 0) hblk
            have r4 := cell_of_row w5 wr.heap.size 4 _ _ (0, 0) hblk
            have f0 := frozen_of_row w5 wr.heap.size 0 _ _ hblk
            have f1 := frozen_of_row w5 wr.heap.size 1 _ _ hblk
            have f2 := frozen_of_row w5 wr.heap.size 2 _ _ hblk
            have f3 := frozen_of_row w5 wr.heap.size 3 _ _ hblk
            have f4 := frozen_of_row w5 wr.heap.size 4 _ _ hblk
            simp at r0 r1 r2 r3 r4
            clear hblk hb5 R0 R1 R2 R3 R4 F0 F1 F2 F3 F4
            go_wp2
            refine bodyPost_ret (v := .tuple #[.agg #[.int .i64 qn, .int .i64 pn, .int .i64 x, .int .i64 y, .bool ((pn : Int) != (qn : Int))], .int .i64 0]) (by simp [results, Try.results41, go_sem, S0, S1, S2, S3, S4]) rfl ?_
            refine ⟨qn, pn, by rw [HX.out, @bne_comm _ _ _ (qn : Int) (pn : Int)], HP.out, ?_⟩
            exact (((((HB5.out.setCell (by show w.heap.size ≤ wr.heap.size; omega) _).setCell (Nat.le_refl _) _).setCell (Nat.le_refl _) _).setCell (Nat.le_refl _) _).setCell (Nat.le_refl _) _).setCell (Nat.le_refl _) _
          · have HP := Lib.hid (show CaretP base lv j (pn : Int) (qn : Int) from ⟨_, _, _, _, HBe.out, HAh.out, .inr ⟨hlm, rfl, rfl⟩⟩)
            have HVq := Lib.hid (HVh.out pn qn)
            have HX := Lib.hid HVq.out; clear HVq
            go_wp2_with fail
            refine (rColumn_walk g base lv ws pn _ (HH0.out.below (HB2.out.alloc HB2.out.size _) (Nat.le_refl _)) hpm).mono ?_
            rintro e w' ⟨rfl, d, rfl⟩
            generalize colAt ws (ord lv) pn = x at *
            go_wp2_with fail
            refine (rColumn_walk g base lv ws qn _ (HH0.out.below ((below_drewN (HB2.out.alloc HB2.out.size _) d).setCell (by exact HB2.out.size) _) (Nat.le_refl _)) hqm).mono ?_
            rintro e w' ⟨rfl, d2, rfl⟩
            generalize colAt ws (ord lv) qn = y at *
            have hb5 : Below wr.heap.size wr ((((wr.alloc (.cells #[.int .i64 pn, .int .i64 qn, .int .i64 0, .int .i64 0, .bool ((pn : Int) != (qn : Int))] 39)).drewN d).setCell ⟨wr.heap.size, 2, none⟩ (.int .i64 x)).drewN d2) := below_drewN ((below_drewN ((Below.refl _ wr).alloc (Nat.le_refl _) _) d).setCell (by exact Nat.le_refl _) _) d2
            have hblk : ((((wr.alloc (.cells #[.int .i64 pn, .int .i64 qn, .int .i64 0, .int .i64 0, .bool ((pn : Int) != (qn : Int))] 39)).drewN d).setCell ⟨wr.heap.size, 2, none⟩ (.int .i64 x)).drewN d2).heap[wr.heap.size]? = some (.cells #[.int .i64 pn, .int .i64 qn, .int .i64 x, .int .i64 0, .bool ((pn : Int) != (qn : Int))] 39 (0, 0)) := by
              have h1 : ((wr.alloc (.cells #[.int .i64 pn, .int .i64 qn, .int .i64 0, .int .i64 0, .bool ((pn : Int) != (qn : Int))] 39)).drewN d).heap[wr.heap.size]? = some (.cells #[.int .i64 pn, .int .i64 qn, .int .i64 0, .int .i64 0, .bool ((pn : Int) != (qn : Int))] 39 (0, 0)) := heap_alloc_new wr _
              have h2 := heap_setCell_same _ wr.heap.size 2 _ _ (.int .i64 x) h1
              simpa using h2
            generalize ((((wr.alloc (.cells #[.int .i64 pn, .int .i64 qn, .int .i64 0, .int .i64 0, .bool ((pn : Int) != (qn : Int))] 39)).drewN d).setCell ⟨wr.heap.size, 2, none⟩ (.int .i64 x)).drewN d2) = w5 at *
            have hcN : wr.heap.size < w5.heap.size := (Array.getElem?_eq_some_iff.1 hblk).1
            have HB5 := Lib.hid (HB0.out.trans ((HB2.out.trans (hb5.mono hsz2)).mono (Nat.le_of_lt HB00.out)))
            have S0 := (hb5.cell (p := ⟨w.heap.size, 0, none⟩) hRl).trans R0
            have S1 := (hb5.cell (p := ⟨w.heap.size, 1, none⟩) hRl).trans R1
            have S2 := (hb5.cell (p := ⟨w.heap.size, 2, none⟩) hRl).trans R2
            have S3 := (hb5.cell (p := ⟨w.heap.size, 3, none⟩) hRl).trans R3
            have S4 := (hb5.cell (p := ⟨w.heap.size, 4, none⟩) hRl).trans R4
            have G0 := (hb5.frozen (p := ⟨w.heap.size, 0, none⟩) hRl).trans F0
            have G1 := (hb5.frozen (p := ⟨w.heap.size, 1, none⟩) hRl).trans F1
            have G2 := (hb5.frozen (p := ⟨w.heap.size, 2, none⟩) hRl).trans F2
            have G3 := (hb5.frozen (p := ⟨w.heap.size, 3, none⟩) hRl).trans F3
            have G4 := (hb5.frozen (p := ⟨w.heap.size, 4, none⟩) hRl).trans F4
            have r0 := cell_of_row w5 wr.heap.size 0 _ _ (0, 0) hblk
            have r1 := cell_of_row w5 wr.heap.size 1 _ _ (0, 0) hblk
            have r2 := cell_of_row w5 wr.heap.size 2 _ _ (0, 0) hblk
            have r3 := cell_of_row w5 wr.heap.size 3 _ _ (0, 0) hblk
            have r4 := cell_of_row w5 wr.heap.size 4 _ _ (0, 0) hblk
            have f0 := frozen_of_row w5 wr.heap.size 0 _ _ hblk
            have f1 := frozen_of_row w5 wr.heap.size 1 _ _ hblk
            have f2 := frozen_of_row w5 wr.heap.size 2 _ _ hblk
            have f3 := frozen_of_row w5 wr.heap.size 3 _ _ hblk
            have f4 := frozen_of_row w5 wr.heap.size 4 _ _ hblk
            simp at r0 r1 r2 r3 r4
            clear hblk hb5 R0 R1 R2 R3 R4 F0 F1 F2 F3 F4
            go_wp2
            refine bodyPost_ret (v := .tuple #[.agg #[.int .i64 pn, .int .i64 qn, .int .i64 x, .int .i64 y, .bool ((pn : Int) != (qn : Int))], .int .i64 0]) (by simp [results, Try.results41, go_sem, S0, S1, S2, S3, S4]) rfl ?_
            refine ⟨pn, qn, by rw [HX.out], HP.out, ?_⟩
            exact (((((HB5.out.setCell (by show w.heap.size ≤ wr.heap.size; omega) _).setCell (Nat.le_refl _) _).setCell (Nat.le_refl _) _).setCell (Nat.le_refl _) _).setCell (Nat.le_refl _) _).setCell (Nat.le_refl _) _
end Go.Proofs.Ytnnfhldfdiaddaa
