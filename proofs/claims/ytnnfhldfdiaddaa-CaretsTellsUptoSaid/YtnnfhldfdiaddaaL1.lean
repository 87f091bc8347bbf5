/-
  A line of carets in memory, and the walks of what only looks at it.
-/
import Derived.Test.YtnnfhldfdiaddaaW3
set_option linter.unusedVariables false
namespace Go.Proofs.Ytnnfhldfdiaddaa
open Go.RowKit

/-- the widths to the left of each visual place -/
def colAt (ws o : List Int) (k : Nat) : Int := ((o.take k).map (fun i => ws.getD i.toNat 0)).sum
def colsL (ws o : List Int) : List Int := (List.range (o.length + 1)).map (fun k => colAt ws o k)
theorem colsL_length (ws o : List Int) : (colsL ws o).length = o.length + 1 := by simp [colsL]
theorem colsL_get (ws o : List Int) (k : Nat) (h : k < (colsL ws o).length) : (colsL ws o)[k] = colAt ws o k := by simp [colsL]
theorem colAt_succ (ws o : List Int) (k : Nat) (h : k < o.length) : colAt ws o (k + 1) = colAt ws o k + ws.getD o[k].toNat 0 := by
  unfold colAt
  rw [List.take_succ_eq_append_getElem h, List.map_append, List.sum_append]
  simp
theorem colAt_zero (ws o : List Int) : colAt ws o 0 = 0 := by simp [colAt]

/-- what a line may be made of -/
structure LineOk (base : Int) (lv ws : List Int) : Prop where
  h01 : base = 0 ∨ base = 1
  ok : okL lv = true
  above : ∀ x ∈ lv, x ≠ -1 → base ≤ x
  widths : ws.length = lv.length
  range : ∀ x ∈ ws, 0 ≤ x ∧ x ≤ 1048576
  len : lv.length ≤ 1048576

theorem ws_getD {ws : List Int} (h : ∀ x ∈ ws, 0 ≤ x ∧ x ≤ 1048576) (i : Nat) : 0 ≤ ws.getD i 0 ∧ ws.getD i 0 ≤ 1048576 := by
  rw [List.getD_eq_getElem?_getD]
  by_cases hi : i < ws.length
  · rw [List.getElem?_eq_getElem hi, Option.getD_some]; exact h _ (List.getElem_mem hi)
  · rw [List.getElem?_eq_none (by omega)]; simp
theorem colAt_mono {ws : List Int} (h : ∀ x ∈ ws, 0 ≤ x ∧ x ≤ 1048576) (o : List Int) (k : Nat) : 0 ≤ colAt ws o k ∧ colAt ws o k ≤ k * 1048576 := by
  induction k with
  | zero => rw [colAt_zero]; omega
  | succ k ih =>
    by_cases hk : k < o.length
    · rw [colAt_succ ws o k hk]
      have := ws_getD h o[k].toNat
      omega
    · have e : colAt ws o (k + 1) = colAt ws o k := by unfold colAt; rw [List.take_of_length_le (by omega), List.take_of_length_le (by omega)]
      rw [e]; omega

/-- the line at block g -/
structure IsLine (w : World) (g : Nat) (base : Int) (lv ws : List Int) : Prop where
  ok : LineOk base lv ws
  mem : ∃ aL cL aO cO aA cA aC cC, w.heap[g]? = some (.cells #[.int .i8 base, .slice aL lv.length cL, .slice aO (ord lv).length cO, .slice aA lv.length cA, .slice aC ((ord lv).length + 1) cC] 64 (0, 0)) ∧
    Ints .i8 w aL lv ∧ Ints .i64 w aO (ord lv) ∧ Ints .i64 w aA (placesL lv) ∧ Ints .i64 w aC (colsL ws (ord lv))

theorem IsLine.lt {w : World} {g : Nat} {base : Int} {lv ws : List Int} (h : IsLine w g base lv ws) : g < w.heap.size := by
  obtain ⟨_, _, _, _, _, _, _, _, hg, _⟩ := h.mem
  exact (Array.getElem?_eq_some_iff.1 hg).1

theorem IsLine.below {w w' : World} {B g : Nat} {base : Int} {lv ws : List Int} (h : IsLine w g base lv ws) (hb : Below B w w') (hB : w.heap.size ≤ B) : IsLine w' g base lv ws := by
  have hl := h.lt
  obtain ⟨aL, cL, aO, cO, aA, cA, aC, cC, hg, h1, h2, h3, h4⟩ := h.mem
  exact ⟨h.ok, aL, cL, aO, cO, aA, cA, aC, cC, by rw [hb.block g (by omega)]; exact hg, h1.below hb hB, h2.below hb hB, h3.below hb hB, h4.below hb hB⟩

/-- what a walk asks of a line -/
structure LineMem (w : World) (g : Nat) (base : Int) (n m : Nat) (aL : Option Addr) (cL : Nat) (aO : Option Addr) (cO : Nat) (aA : Option Addr) (cA : Nat) (bC oC cC : Nat) : Prop where
  k0 : w.cell? ⟨g, 0, none⟩ = some (.int .i8 base)
  k1 : w.cell? ⟨g, 1, none⟩ = some (.slice aL n cL)
  k2 : w.cell? ⟨g, 2, none⟩ = some (.slice aO m cO)
  k3 : w.cell? ⟨g, 3, none⟩ = some (.slice aA n cA)
  k4 : w.cell? ⟨g, 4, none⟩ = some (.slice (some ⟨bC, oC, none⟩) (m + 1) cC)

theorem IsLine.open {w : World} {g : Nat} {base : Int} {lv ws : List Int} (h : IsLine w g base lv ws) :
    ∃ n m aL cL aO cO aA cA bC oC cC, Hid (lv.length = n) ∧ Hid ((ord lv).length = m) ∧ LineMem w g base n m aL cL aO cO aA cA bC oC cC ∧ m ≤ n ∧ n ≤ 1048576 ∧ Hid (Ints .i8 w aL lv) ∧ Hid (Ints .i64 w aO (ord lv)) ∧ Hid (Ints .i64 w aA (placesL lv)) ∧ Hid (Ints .i64 w (some ⟨bC, oC, none⟩) (colsL ws (ord lv))) := by
  obtain ⟨aL, cL, aO, cO, aA, cA, aC, cC, hg, h1, h2, h3, h4⟩ := h.mem
  obtain ⟨bC, oC, rfl⟩ := h4.some (by rw [colsL_length]; omega)
  refine ⟨lv.length, (ord lv).length, aL, cL, aO, cO, aA, cA, bC, oC, cC, Lib.hid rfl, Lib.hid rfl, ⟨?_, ?_, ?_, ?_, ?_⟩, ord_le lv, h.ok.len, h1, h2, h3, h4⟩
  all_goals (rw [cell_of_row w g _ _ _ (0, 0) hg]; rfl)

/-- 'none' of a line that is there -/
theorem none_walk (g : Nat) (base : Int) (lv ws : List Int) (w : World) (h : IsLine w g base lv ws) :
    Calls Try.prog 30 #[.pointer (some ⟨g, 0, none⟩)] w fun e w' => e = .returned (.bool false) ∧ w = w' := by
  obtain ⟨n, m, aL, cL, aO, cO, aA, cA, bC, oC, cC, hn, hm, hM, hmn, hn2, iL, iO, iA, iC⟩ := h.open
  have HH := Lib.hid h; clear h
  have k4 := hM.k4
  have hnil : ∀ w : World, (binOp .eql 25 (.slice (some ⟨bC, oC, none⟩) (m + 1) cC) (.slice none 0 0)).run Try.prog w = .ok (.bool false) w := fun w => Lib.run_eql_slice_nil w _ _ _ _ _ _ _ Try.underlying25
  go_enter Try.func30, Try.ntmps30
  go_wp2
  go_ret
  exact ⟨rfl, rfl⟩
theorem none_nil (w : World) :
    Calls Try.prog 30 #[.pointer none] w fun e w' => e = .returned (.bool true) ∧ w = w' := by
  go_enter Try.func30, Try.ntmps30
  go_wp2
  go_ret
  exact ⟨rfl, rfl⟩

theorem Len_walk (g : Nat) (base : Int) (lv ws : List Int) (w : World) (h : IsLine w g base lv ws) :
    Calls Try.prog 16 #[.pointer (some ⟨g, 0, none⟩)] w fun e w' => e = .returned (.int .i64 (lv.length : Nat)) ∧ w = w' := by
  obtain ⟨n, m, aL, cL, aO, cO, aA, cA, bC, oC, cC, hn, hm, hM, hmn, hn2, iL, iO, iA, iC⟩ := h.open
  have HH := Lib.hid h; clear h
  have k1 := hM.k1
  go_enter Try.func16, Try.ntmps16
  go_wp2_with fail
  refine (none_walk g base lv ws _ HH.out).mono ?_
  rintro e w' ⟨rfl, rfl⟩
  go_wp2
  go_ret
  exact ⟨by rw [hn.out]; rfl, rfl⟩
theorem Len_nil (w : World) :
    Calls Try.prog 16 #[.pointer none] w fun e w' => e = .returned (.int .i64 0) ∧ w = w' := by
  go_enter Try.func16, Try.ntmps16
  go_wp2_with fail
  refine (none_nil _).mono ?_
  rintro e w' ⟨rfl, rfl⟩
  go_wp2
  go_ret
  exact ⟨rfl, rfl⟩

theorem Shown_walk (g : Nat) (base : Int) (lv ws : List Int) (w : World) (h : IsLine w g base lv ws) :
    Calls Try.prog 13 #[.pointer (some ⟨g, 0, none⟩)] w fun e w' => e = .returned (.int .i64 ((ord lv).length : Nat)) ∧ w = w' := by
  obtain ⟨n, m, aL, cL, aO, cO, aA, cA, bC, oC, cC, hn, hm, hM, hmn, hn2, iL, iO, iA, iC⟩ := h.open
  have HH := Lib.hid h; clear h
  have k2 := hM.k2
  go_enter Try.func13, Try.ntmps13
  go_wp2_with fail
  refine (none_walk g base lv ws _ HH.out).mono ?_
  rintro e w' ⟨rfl, rfl⟩
  go_wp2
  go_ret
  exact ⟨by rw [hm.out]; rfl, rfl⟩
theorem Shown_nil (w : World) :
    Calls Try.prog 13 #[.pointer none] w fun e w' => e = .returned (.int .i64 0) ∧ w = w' := by
  go_enter Try.func13, Try.ntmps13
  go_wp2_with fail
  refine (none_nil _).mono ?_
  rintro e w' ⟨rfl, rfl⟩
  go_wp2
  go_ret
  exact ⟨rfl, rfl⟩

theorem Width_walk (g : Nat) (base : Int) (lv ws : List Int) (w : World) (h : IsLine w g base lv ws) :
    Calls Try.prog 19 #[.pointer (some ⟨g, 0, none⟩)] w fun e w' => e = .returned (.int .i64 (colAt ws (ord lv) (ord lv).length)) ∧ ∃ d, w' = w.drewN d := by
  obtain ⟨n, m, aL, cL, aO, cO, aA, cA, bC, oC, cC, hn, hm, hM, hmn, hn2, iL, iO, iA, iC⟩ := h.open
  have HH := Lib.hid h; clear h
  have k2 := hM.k2
  have k4 := hM.k4
  have hml : m < (colsL ws (ord lv)).length := by rw [colsL_length, hm.out]; omega
  have hc := iC.out.get m hml
  rw [colsL_get] at hc
  have hv : colAt ws (ord lv) (ord lv).length = colAt ws (ord lv) m := by rw [hm.out]
  rw [hv]
  generalize colAt ws (ord lv) m = x at *
  clear hv hml
  go_enter Try.func19, Try.ntmps19
  go_wp2_with fail
  refine (none_walk g base lv ws _ HH.out).mono ?_
  rintro e w' ⟨rfl, rfl⟩
  go_wp2
  go_quiet (fail)
  go_wp2
  go_ret
  exact ⟨rfl, _, rfl⟩

theorem and_one_all : ∀ k : Fin 128, wrap64 (bits .and .i8 ((k.val : Int) - 1) 1) = ((k.val : Int) - 1) % 2 := by decide +kernel
theorem and_one_i8 (x : Int) (h : -1 ≤ x ∧ x ≤ 126) : wrap64 (bits .and .i8 x 1) = x % 2 := by
  have := and_one_all ⟨(x + 1).toNat, by omega⟩
  simp only [show (((x + 1).toNat : Nat) : Int) - 1 = x by omega] at this
  exact this
/-- 'odd' -/
theorem odd_walk (g : Nat) (base : Int) (lv ws : List Int) (w : World) (i : Int) (h : IsLine w g base lv ws) (h0 : 0 ≤ i) (h1 : i < lv.length) :
    Calls Try.prog 31 #[.pointer (some ⟨g, 0, none⟩), .int .i64 i] w fun e w' => e = .returned (.int .i64 (lv.getD i.toNat 0 % 2)) ∧ w = w' := by
  obtain ⟨n, m, aL, cL, aO, cO, aA, cA, bC, oC, cC, hn, hm, hM, hmn, hn2, iL, iO, iA, iC⟩ := h.open
  obtain ⟨k, rfl⟩ := Int.eq_ofNat_of_zero_le h0
  have hk : k < lv.length := by omega
  have hok := okL_get lv h.ok.ok k hk
  clear h h0
  have k1 := hM.k1
  obtain ⟨bL, oL, ha⟩ := iL.out.some (by omega)
  subst ha
  have hc := iL.out.get k hk
  have hkn : k < n := by rw [← hn.out]; exact hk
  have hv : lv.getD ((k : Int)).toNat 0 = lv[k] := by simp [hk]
  rw [hv]
  generalize lv[k] = x at *
  clear hv h1 hk
  go_enter Try.func31, Try.ntmps31
  go_wp2
  go_ret
  exact ⟨by rw [← and_one_i8 x hok]; rfl, rfl⟩
end Go.Proofs.Ytnnfhldfdiaddaa
