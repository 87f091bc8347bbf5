/-
  The walk of a line's Caret.
-/
import Derived.Test.YtnnfhldfdiaddaaL4
set_option linter.unusedVariables false
namespace Go.Proofs.Ytnnfhldfdiaddaa
open Go.RowKit

theorem odd_bd (lv : List Int) (i : Nat) : 0 ≤ lv.getD i 0 % 2 ∧ lv.getD i 0 % 2 ≤ 1 := by omega
theorem placesL_bd {lv : List Int} {i : Nat} (hi : i < lv.length) (hs : lv.getD i 0 ≠ -1) : 0 ≤ (placesL lv).getD i 0 ∧ (placesL lv).getD i 0 < (ord lv).length := by
  rcases place_at lv i hi with ⟨h, _⟩ | ⟨_, h2, h3⟩
  · exact absurd h hs
  · rw [List.getD_eq_getElem?_getD, List.getElem?_eq_getElem (by rw [placesL_length]; exact hi), Option.getD_some]
    exact ⟨h2, h3⟩
theorem BehP.range {base : Int} {lv : List Int} {a : Nat} {p l : Int} (h : BehP base lv a p l) (hb : base = 0 ∨ base = 1) : 0 ≤ p ∧ p ≤ (ord lv).length := by
  rcases h with ⟨_, rfl, _⟩ | ⟨i, _, hi, hs, _, rfl, _⟩
  · rcases hb with rfl | rfl <;> omega
  · have := placesL_bd hi hs
    have := odd_bd lv i
    omega
theorem AheP.range {base : Int} {lv : List Int} {a : Nat} {p l : Int} (h : AheP base lv a p l) (hb : base = 0 ∨ base = 1) : 0 ≤ p ∧ p ≤ (ord lv).length := by
  rcases h with ⟨_, rfl, _⟩ | ⟨i, _, hi, hs, _, rfl, _⟩
  · rcases hb with rfl | rfl <;> omega
  · have := placesL_bd hi hs
    have := odd_bd lv i
    omega

/-- the strong and the weak caret of a logical place -/
def CaretP (base : Int) (lv : List Int) (a : Nat) (s t : Int) : Prop :=
  ∃ p l q l2, BehP base lv a p l ∧ AheP base lv a q l2 ∧ ((l2 < l ∧ s = q ∧ t = p) ∨ (¬ l2 < l ∧ s = p ∧ t = q))
def caretV (ws o : List Int) (s t : Int) : Value := .agg #[.int .i64 s, .int .i64 t, .int .i64 (colAt ws o s.toNat), .int .i64 (colAt ws o t.toNat), .bool (s != t)]
def CaretPost (base : Int) (lv ws : List Int) (a : Nat) (w : World) (e : Ending) (w' : World) : Prop :=
  ∃ s t, e = .returned (.tuple #[caretV ws (ord lv) s t, .int .i64 0]) ∧ CaretP base lv a s t ∧ Below w.heap.size w w'

set_option maxHeartbeats 1000000 in
theorem Caret_walk (g : Nat) (base : Int) (lv ws : List Int) (w : World) (a : Nat) (h : IsLine w g base lv ws) (hat : a ≤ lv.length) :
    Calls Try.prog 15 #[.pointer (some ⟨g, 0, none⟩), .int .i64 a] w (CaretPost base lv ws a w) := by
  obtain ⟨n, m, aL, cL, aO, cO, aA, cA, bC, oC, cC, hn, hm, hM, hmn, hn2, iL, iO, iA, iC⟩ := h.open
  have HH := Lib.hid h
  have hgl := h.lt
  have H01 := Lib.hid h.ok.h01
  clear h
  have hat' : a ≤ n := by rw [← hn.out]; exact hat
  have HAT := Lib.hid hat; clear hat
  have hbC : bC < w.heap.size := iC.out.lt (by rw [colsL_length]; omega)
  have k1 := hM.k1
  have k4 := hM.k4
  go_enter Try.func15, Try.ntmps15
  go_wp2_with fail
  refine (none_walk g base lv ws _ (HH.out.below ((Below.refl _ w).alloc (Nat.le_refl _) _) (Nat.le_refl _))).mono ?_
  rintro e w' ⟨rfl, rfl⟩
  go_wp2_with fail
  refine (behind_walk g base lv ws _ a (HH.out.below ((Below.refl _ w).alloc (Nat.le_refl _) _) (Nat.le_refl _)) HAT.out).mono ?_
  rintro e w1 ⟨p, l, rfl, hbeh, hb1⟩
  have hB1 : Below w.heap.size w w1 := ((Below.refl _ w).alloc (Nat.le_refl _) _).trans (hb1.mono (by simp))
  have HB1 := Lib.hid hB1; clear hB1
  go_wp2_with fail
  refine (ahead_walk g base lv ws _ a (HH.out.below HB1.out (Nat.le_refl _)) HAT.out).mono ?_
  rintro e w2 ⟨q, l2, rfl, hahe, hb2⟩
  have hB2 : Below w.heap.size w w2 := HB1.out.trans (hb2.mono HB1.out.size)
  have hblk : w2.heap[w.heap.size]? = some (.cells #[.int .i64 0, .int .i64 0, .int .i64 0, .int .i64 0, .bool false] 39 (0, 0)) := by
    have h1 := hb1.size
    rw [hb2.block w.heap.size (by simp at h1; omega), hb1.block w.heap.size (by simp)]
    exact heap_alloc_new w _
  have hsz2 : w.heap.size < w2.heap.size := (Array.getElem?_eq_some_iff.1 hblk).1
  clear hb1 hb2
  have hp := hbeh.range H01.out
  have hq := hahe.range H01.out
  have HC2 := Lib.hid (iC.out.below hB2 (Nat.le_refl _))
  have k4' : w2.cell? ⟨g, 4, none⟩ = some (.slice (some ⟨bC, oC, none⟩) (m + 1) cC) := by rw [hB2.cell (p := ⟨g, 4, none⟩) hgl]; exact k4
  have hgl2 : g < w2.heap.size := by omega
  have hgne : g ≠ w.heap.size := by omega
  have hbC2 : bC < w2.heap.size := by omega
  have hbne : bC ≠ w.heap.size := by omega
  have HBK := Lib.hid hblk; clear hblk
  have HB2 := Lib.hid hB2; clear hB2
  have HBe := Lib.hid hbeh; clear hbeh
  have HAh := Lib.hid hahe; clear hahe
  rw [hm.out] at hp hq
  obtain ⟨pn, rfl⟩ := Int.eq_ofNat_of_zero_le hp.1
  obtain ⟨qn, rfl⟩ := Int.eq_ofNat_of_zero_le hq.1
  have hpm : pn ≤ m := by omega
  have hqm : qn ≤ m := by omega
  have hqb : (qn : Int) < (m : Int) + 1 := by omega
  have hpb : (pn : Int) < (m : Int) + 1 := by omega
  have cp := HC2.out.get pn (by rw [colsL_length, hm.out]; omega)
  have cq := HC2.out.get qn (by rw [colsL_length, hm.out]; omega)
  rw [colsL_get] at cp cq
  clear hp hq
  have HV : ∀ s t : Nat, caretV ws (ord lv) (s : Int) (t : Int) = .agg #[.int .i64 s, .int .i64 t, .int .i64 (colAt ws (ord lv) s), .int .i64 (colAt ws (ord lv) t), .bool ((s : Int) != t)] := fun s t => by simp [caretV]
  have HVh := Lib.hid HV; clear HV
  by_cases hl : l2 < l
  · have HP := Lib.hid (show CaretP base lv a (qn : Int) (pn : Int) from ⟨_, _, _, _, HBe.out, HAh.out, .inl ⟨hl, rfl, rfl⟩⟩)
    have HVq := Lib.hid (HVh.out qn pn)
    generalize colAt ws (ord lv) pn = x at *
    generalize colAt ws (ord lv) qn = y at *
    go_wp2
    refine wp_region_still_tail 26 (by kernel_rfl) (by kernel_rfl) ?_
    simp only [List.take_succ_cons, List.take_zero, List.drop_succ_cons, List.drop_zero]
    change wpStill _ _ (World.drew _) (fun a' => wpList _ _ _ _ a' (World.drew _)) _ _
    repeat still_step
    refine wpStill_nil ?_
    have hb5 : Below w2.heap.size w2 ((w2.alloc (.cells #[.int .i64 qn, .int .i8 l2] 67)).alloc (.cells #[.int .i64 pn, .int .i8 l] 67)).drew := by go_grown
    generalize ((w2.alloc (.cells #[.int .i64 qn, .int .i8 l2] 67)).alloc (.cells #[.int .i64 pn, .int .i8 l] 67)).drew = w5 at *
    have hblk : w5.heap[w.heap.size]? = some (.cells #[.int .i64 0, .int .i64 0, .int .i64 0, .int .i64 0, .bool false] 39 (0, 0)) := by rw [hb5.block w.heap.size hsz2]; exact HBK.out
    have HB5 := Lib.hid (HB2.out.trans (hb5.mono (by omega)))
    clear hb5 hsz2 hgl hgl2 hgne hbC hbC2 hbne k1 k4 k4' cp cq hM
    have r0 := cell_of_row w5 w.heap.size 0 _ _ (0, 0) hblk
    have r1 := cell_of_row w5 w.heap.size 1 _ _ (0, 0) hblk
    have r2 := cell_of_row w5 w.heap.size 2 _ _ (0, 0) hblk
    have r3 := cell_of_row w5 w.heap.size 3 _ _ (0, 0) hblk
    have r4 := cell_of_row w5 w.heap.size 4 _ _ (0, 0) hblk
    have f0 := frozen_of_row w5 w.heap.size 0 _ _ hblk
    have f1 := frozen_of_row w5 w.heap.size 1 _ _ hblk
    have f2 := frozen_of_row w5 w.heap.size 2 _ _ hblk
    have f3 := frozen_of_row w5 w.heap.size 3 _ _ hblk
    have f4 := frozen_of_row w5 w.heap.size 4 _ _ hblk
    simp at r0 r1 r2 r3 r4
    clear hblk
    go_wp2
    refine bodyPost_ret (v := .tuple #[.agg #[.int .i64 qn, .int .i64 pn, .int .i64 y, .int .i64 x, .bool ((qn : Int) != (pn : Int))], .int .i64 0]) (by simp [results, Try.results15, go_sem, r0, r1, r2, r3, r4]) rfl ?_
    refine ⟨qn, pn, by rw [HVq.out], HP.out, ?_⟩
    exact ((((HB5.out.setCell (Nat.le_refl _) _).setCell (Nat.le_refl _) _).setCell (Nat.le_refl _) _).setCell (Nat.le_refl _) _).setCell (Nat.le_refl _) _
  · have HP := Lib.hid (show CaretP base lv a (pn : Int) (qn : Int) from ⟨_, _, _, _, HBe.out, HAh.out, .inr ⟨hl, rfl, rfl⟩⟩)
    have HVq := Lib.hid (HVh.out pn qn)
    generalize colAt ws (ord lv) pn = x at *
    generalize colAt ws (ord lv) qn = y at *
    go_wp2
    refine wp_region_still_tail 26 (by kernel_rfl) (by kernel_rfl) ?_
    simp only [List.take_succ_cons, List.take_zero, List.drop_succ_cons, List.drop_zero]
    change wpStill _ _ (World.drew _) (fun a' => wpList _ _ _ _ a' (World.drew _)) _ _
    repeat still_step
    refine wpStill_nil ?_
    have hb5 : Below w2.heap.size w2 ((w2.alloc (.cells #[.int .i64 pn, .int .i8 l] 67)).alloc (.cells #[.int .i64 qn, .int .i8 l2] 67)).drew := by go_grown
    generalize ((w2.alloc (.cells #[.int .i64 pn, .int .i8 l] 67)).alloc (.cells #[.int .i64 qn, .int .i8 l2] 67)).drew = w5 at *
    have hblk : w5.heap[w.heap.size]? = some (.cells #[.int .i64 0, .int .i64 0, .int .i64 0, .int .i64 0, .bool false] 39 (0, 0)) := by rw [hb5.block w.heap.size hsz2]; exact HBK.out
    have HB5 := Lib.hid (HB2.out.trans (hb5.mono (by omega)))
    clear hb5 hsz2 hgl hgl2 hgne hbC hbC2 hbne k1 k4 k4' cp cq hM
    have r0 := cell_of_row w5 w.heap.size 0 _ _ (0, 0) hblk
    have r1 := cell_of_row w5 w.heap.size 1 _ _ (0, 0) hblk
    have r2 := cell_of_row w5 w.heap.size 2 _ _ (0, 0) hblk
    have r3 := cell_of_row w5 w.heap.size 3 _ _ (0, 0) hblk
    have r4 := cell_of_row w5 w.heap.size 4 _ _ (0, 0) hblk
    have f0 := frozen_of_row w5 w.heap.size 0 _ _ hblk
    have f1 := frozen_of_row w5 w.heap.size 1 _ _ hblk
    have f2 := frozen_of_row w5 w.heap.size 2 _ _ hblk
    have f3 := frozen_of_row w5 w.heap.size 3 _ _ hblk
    have f4 := frozen_of_row w5 w.heap.size 4 _ _ hblk
    simp at r0 r1 r2 r3 r4
    clear hblk
    go_wp2
    refine bodyPost_ret (v := .tuple #[.agg #[.int .i64 pn, .int .i64 qn, .int .i64 x, .int .i64 y, .bool ((pn : Int) != (qn : Int))], .int .i64 0]) (by simp [results, Try.results15, go_sem, r0, r1, r2, r3, r4]) rfl ?_
    refine ⟨pn, qn, by rw [HVq.out], HP.out, ?_⟩
    exact ((((HB5.out.setCell (Nat.le_refl _) _).setCell (Nat.le_refl _) _).setCell (Nat.le_refl _) _).setCell (Nat.le_refl _) _).setCell (Nat.le_refl _) _
end Go.Proofs.Ytnnfhldfdiaddaa
