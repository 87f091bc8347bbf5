/- several texts in one: TAS TFS TQS TGS THS TWS -/
import Derived.Test.YtabbabkmojaoaaaTA
import Derived.Deep.QuietTactic
import Derived.Deep.Cut
import Derived.BigQuiet
import Derived.Lib.Hide
import Derived.StillTailTactics
import Derived.RegionTactic
import Derived.BigRegion
import Derived.TacticsInMore
import Derived.Laws.StructEq
import Derived.Test.YtabbabkmojaoaaaTF
import Derived.Test.YtabbabkmojaoaaaTQ
import Derived.Test.YtabbabkmojaoaaaTZ
import Derived.Test.YtabbabkmojaoaaaTN
set_option linter.unusedVariables false
set_option linter.unusedSimpArgs false
/-
  The walk of the maker's 'add' (string).
-/
namespace Go.Proofs.Ytabbabkmojaoaaa.VS
open Go.RowKit

theorem part_str {P : Program} (w : World) (t : TypeId) (xs : Array Value) (i : Nat) (v : Value) (hu : P.underlying t = some .string) (hx : xs[i]? = some v) : (part t xs i).run P w = .ok v w := by
  have hagg : (isAgg t).run P w = .ok false w := by unfold isAgg; rw [Sem.run_bind, run_underlying hu w]; simp
  simp [part, Sem.run_bind, hagg, hx]
theorem byteArray_toList_inj {a b : ByteArray} (e : a.toList = b.toList) : a = b := by
  rw [ByteArray.toList_eq, ByteArray.toList_eq] at e
  obtain ⟨x⟩ := a
  obtain ⟨y⟩ := b
  simpa using e

/-- the values -/
abbrev El := ByteArray
def val8 (x : El) : Value := .string x
theorem val8_cells (k : El) : (val8 k).cells.toList = [val8 k] := rfl
theorem blkC8_map (b : List El) : blkC val8 b = b.map val8 := by
  induction b with
  | nil => rfl
  | cons a l ih => rw [blkC, List.flatMap_cons, ← blkC, ih, val8_cells]; rfl
theorem strArrK {P : Program} {t E : TypeId} (hu : P.underlying t = some (.array 64 E)) (he : P.underlying E = some .string) (hi : (P.info? E).isSome = true) (hc : P.cellsOf E = 1) :
    ArrK P t E 64 1 val8 (fun a b => decide (a = b)) where
  und := hu
  inf := Option.isSome_iff_exists.1 hi
  cel := hc
  wide := fun a => rfl
  part := fun w xs off a h => part_str w E xs off _ he (by have := take_at h; simpa using this)
  eqE := fun w d a b => by
    rw [val8, val8, run_equalIn_string w (d + 2) E a b he]
    congr 1
    by_cases h : a = b
    · subst h; simp
    · have : a.toList ≠ b.toList := fun e => h (byteArray_toList_inj e)
      simp [h, this]
  chk := fun w em d a => MapKept.run_checkKey he (by simp [MapKept.IsKey, val8]) em (d + 2)
theorem Try.k8 : ArrK Try.prog 122 9 64 1 val8 (fun a b => decide (a = b)) := strArrK Try.underlying122 Try.underlying9 (by kernel_rfl) (by kernel_rfl)
def eq8 : El → El → Bool := fun a b => decide (a = b)
theorem blkC8_size (b : List El) : (blkC val8 b).toArray.size = b.length := by
  have := blkC_length (val := val8) (sz := 1) (fun _ => rfl) b
  simpa using this

theorem Try.elemB8 : ElemN Try.prog 121 122 (.agg (Array.replicate 64 (.string { data := #[] }))) 64 1024 := ⟨Try.underlying121, by kernel_rfl, by kernel_rfl, by decide⟩
theorem blkC8_one (b : List El) : ∀ u ∈ (blkC val8 b).toArray.toList, u.oneCell' = true := fun u hu => by
  simp only [blkC, List.mem_flatMap] at hu
  obtain ⟨x, -, hx⟩ := hu
  rw [val8_cells, List.mem_singleton] at hx
  subst hx
  rfl
/-- a low block gets its number -/
def LowR (g : Nat) (w : World) (S : MkS El) (b : List El) (a l : Option Addr) (no : Value) (w' : World) : Prop :=
  ∃ al cl am cm, no = num16 (numB eq8 S.lows b).2 ∧ MkAt val8 1 129 138 120 122 w' g { S with lows := (numB eq8 S.lows b).1 } (numB eq8 S.lows b).1 S.mids am cm al cl ∧ AddFr g w w' a l am al

/-- a middle block gets its number -/
def MidR (g : Nat) (w : World) (S : MkS El) (a l : Option Addr) (no : Value) (w' : World) : Prop :=
  ∃ al cl am cm, no = num16 (numB eq16 S.mids S.cur).2 ∧ MkAt val8 1 129 138 120 122 w' g { S with mids := (numB eq16 S.mids S.cur).1 } S.lows (numB eq16 S.mids S.cur).1 am cm al cl ∧ AddFr g w w' a l am al
theorem addS_less {S : MkS El} {b : List El} (h : ¬ (S.blocks + 1) % 64 = 0) : addS eq8 S b = { S with cur := S.cur.set (S.blocks % 64) (numB eq8 S.lows b).2, lows := (numB eq8 S.lows b).1, blocks := S.blocks + 1 } := by
  unfold addS
  simp only
  rw [if_neg h]
theorem addS_full {S : MkS El} {b : List El} (h : (S.blocks + 1) % 64 = 0) : addS eq8 S b = { top := S.top.set (S.blocks / 64) (numB eq16 S.mids (S.cur.set (S.blocks % 64) (numB eq8 S.lows b).2)).2, cur := S.cur.set (S.blocks % 64) (numB eq8 S.lows b).2, lows := (numB eq8 S.lows b).1, mids := (numB eq16 S.mids (S.cur.set (S.blocks % 64) (numB eq8 S.lows b).2)).1, blocks := S.blocks + 1 } := by
  unfold addS
  simp only
  rw [if_pos h]
  rfl

set_option maxRecDepth 100000 in
set_option maxHeartbeats 1600000 in
theorem add8_walk (w : World) (g : Nat) (S : MkS El) (b : List El) (am : Option Addr) (cm : Nat) (al : Option Addr) (cl : Nat) (hw : MkW S) (hb : b.length = 64) (hbl : S.blocks < 17408) (hL : S.lows.length ≤ S.blocks) (hM : S.mids.length ≤ S.blocks / 64)
    (h : MkAt val8 1 129 138 120 122 w g S S.lows S.mids am cm al cl) :
    Calls Try.prog 65 #[.pointer (some ⟨g + 3, 0, none⟩), .agg (blkC val8 b).toArray] w fun e w' => e = .returned (.tuple #[]) ∧
      (∃ am' cm' al' cl', MkAt val8 1 129 138 120 122 w' g (addS eq8 S b) (addS eq8 S b).lows (addS eq8 S b).mids am' cm' al' cl' ∧ AddFr g w w' am al am' al') := by
  have H := Lib.hid h; clear h
  have HW := Lib.hid hw; clear hw
  have HBl := Lib.hid hb; clear hb
  go_enter Try.func65, Try.ntmps65
  go_upto_region 1 with (fail)
  obtain ⟨w1, hw1⟩ : ∃ w1, w1 = w.alloc (.cells (blkC val8 b).toArray 122) := ⟨_, rfl⟩
  have HB1 : Hid (Below w.heap.size w w1) := by rw [hw1]; exact Lib.hid ((Below.refl _ _).alloc (Nat.le_refl _) _)
  have HR1 : Hid (w1.rangeAt w.heap.size 0 (blkC val8 b)) := by
    rw [hw1]
    have := World.rangeAt_of_block (heap_alloc_new w (.cells (blkC val8 b).toArray 122)) 0 (blkC val8 b).length
    simpa using Lib.hid this
  rw [← hw1]
  clear hw1
  have H1 := Lib.hid (H.out.below HB1.out)
  have A1 : Hid (AddFr g w w1 am al am al) := Lib.hid (.below am al HB1.out)
  have HLb := Lib.hid (World.ownsRow.lt H.out.rl)
  have HMb := Lib.hid (World.ownsRow.lt H.out.rm)
  have hgb := H.out.lt
  generalize w.heap.size = bb at *
  have hbs : (blkC val8 b).length = 64 := by rw [blkC_length (sz := 1) (fun _ => rfl), HBl.out]
  have c1 := H1.out.c_lm
  refine wp_region_still_lit (by kernel_rfl) (by kernel_rfl) ?_
  iterate 4 still_step
  refine wpStill_load rfl 122 (.tmp 3) rfl bb 0 rfl (blkC val8 b) _ HR1.out Try.underlying122 rfl (by rw [hbs]; kernel_rfl) ?_
  refine wpStill_lookup rfl 126 (.tmp 10) (.tmp 11) true rfl (.map (some (g + 1))) (blkV val8 b) _ rfl rfl (Try.k8.lookup Try.underlying126 (fun w => by kernel_rfl) (w := w1.drew) (b := g + 1) H1.out.lm b HBl.out HW.out.low) ?_
  rw [show findB (fun a b => decide (a = b)) b S.lows = findB eq8 b S.lows from rfl, foundV_eq]
  obtain ⟨k0, hk0⟩ : ∃ k0, k0 = (findB eq8 b S.lows).getD 0 := ⟨_, rfl⟩
  obtain ⟨met, hmet⟩ : ∃ met, met = (findB eq8 b S.lows).isSome := ⟨_, rfl⟩
  rw [← hk0, ← hmet]
  have HK0 := Lib.hid (And.intro hk0 hmet); clear hk0 hmet
  repeat still_step
  refine wpStill_nil ?_
  change Exit.then _ _ _ _ (World.drew w1)
  have H2 := Lib.hid H1.out.drew
  have HB2 := Lib.hid (HB1.out.drew)
  have A2 := Lib.hid A1.out.drew
  have HR2 : Hid (w1.drew.rangeAt bb 0 (blkC val8 b)) := Lib.hid HR1.out
  clear H1 HB1 HR1 c1 A1
  generalize w1.drew = w2 at *
  go_upto_if 16 with (fail)
  go_cut [4] from 17 (LowR g w S b am al)
  case first =>
    cases met
    · have hf : findB eq8 b S.lows = none := by
        have h := HK0.out.2
        cases h2 : findB eq8 b S.lows with
        | none => rfl
        | some k => rw [h2] at h; cases h
      have HF := Lib.hid hf; clear hf
      have c0 := H2.out.c_t
      have c1 := H2.out.c_low HW.out
      have hn1 : S.lows.length < 17408 := by omega
      have hg4 : g + 4 ≤ w2.heap.size := H2.out.lt
      go_upto_region 4 with (fail)
      refine (wpIn_wide (n := 2)).1 ?_
      refine wpIn_region_calm [14, 15, 16] (fun w' : World => w'.cell? ⟨g + 3, 0, none⟩ = some (.pointer (some ⟨g, 0, none⟩)) ∧ w'.cell? ⟨g, 273, none⟩ = some (.slice al S.lows.length cl) ∧ w'.rangeAt bb 0 (blkC val8 b)) (by kernel_rfl) ?_
      have HCx : Hid ((fun w' : World => w'.cell? ⟨g + 3, 0, none⟩ = some (.pointer (some ⟨g, 0, none⟩)) ∧ w'.cell? ⟨g, 273, none⟩ = some (.slice al S.lows.length cl) ∧ w'.rangeAt bb 0 (blkC val8 b)) w2.drew) := Lib.hid ⟨c0, c1, HR2.out⟩
      clear c0 c1
      have H3 := Lib.hid H2.out.drew
      have A3 := Lib.hid A2.out.drew
      have hg5 : g + 4 ≤ w2.drew.heap.size := hg4
      generalize w2.drew = w3 at *
      refine' anyC_take (i := 0) (v := _) [1, 2, 3, 14, 15, 16] (by kernel_rfl) rfl (by kernel_rfl) (fun _ _ _ h => h) (by rfl) ?hv4x0 HCx.out ?h4x0
      case hv4x0 =>
        rintro w' ⟨c0, c1, c2⟩
        go_simp
        try with_reducible rfl
      simp only [List.getElem_toArray, List.getElem_cons_zero, List.getElem_cons_succ, Act.put, List.setIfInBounds_toArray, List.set_cons_zero, List.set_cons_succ]
      refine' anyC_take (i := 1) (v := _) [2, 3, 14, 15, 16] (by kernel_rfl) rfl (by kernel_rfl) (fun _ _ _ h => h) (by rfl) ?hv4x1 HCx.out ?h4x1
      case hv4x1 =>
        rintro w' ⟨c0, c1, c2⟩
        go_simp
        try with_reducible rfl
      simp only [List.getElem_toArray, List.getElem_cons_zero, List.getElem_cons_succ, Act.put, List.setIfInBounds_toArray, List.set_cons_zero, List.set_cons_succ]
      refine' anyC_take (i := 2) (v := _) [3, 14, 15, 16] (by kernel_rfl) rfl (by kernel_rfl) (fun _ _ _ h => h) (by rfl) ?hv4x2 HCx.out ?h4x2
      case hv4x2 =>
        rintro w' ⟨c0, c1, c2⟩
        go_simp
        try with_reducible rfl
      simp only [List.getElem_toArray, List.getElem_cons_zero, List.getElem_cons_succ, Act.put, List.setIfInBounds_toArray, List.set_cons_zero, List.set_cons_succ]
      refine' anyC_take (i := 3) (v := _) [14, 15, 16] (by kernel_rfl) rfl (by kernel_rfl) (fun _ _ _ h => h) (by rfl) ?hv4x3 HCx.out ?h4x3
      case hv4x3 =>
        rintro w' ⟨c0, c1, c2⟩
        go_simp
        try with_reducible rfl
      simp only [List.getElem_toArray, List.getElem_cons_zero, List.getElem_cons_succ, Act.put, List.setIfInBounds_toArray, List.set_cons_zero, List.set_cons_succ]
      refine' anyC_take (i := 4) (v := _) [5, 6, 7, 8, 9, 10, 13, 14, 15, 16] (by kernel_rfl) rfl (by kernel_rfl) (fun _ _ _ h => h) (by rfl) ?hv4x4 HCx.out ?h4x4
      case hv4x4 =>
        rintro w' ⟨c0, c1, c2⟩
        go_simp
        try with_reducible rfl
      simp only [List.getElem_toArray, List.getElem_cons_zero, List.getElem_cons_succ, Act.put, List.setIfInBounds_toArray, List.set_cons_zero, List.set_cons_succ]
      refine' anyC_take (i := 5) (v := _) [6, 7, 8, 9, 10, 13, 14, 15, 16] (by kernel_rfl) rfl (by kernel_rfl) (fun _ _ _ h => h) (by rfl) ?hv4x5 HCx.out ?h4x5
      case hv4x5 =>
        rintro w' ⟨c0, c1, c2⟩
        go_simp
        try with_reducible rfl
      simp only [List.getElem_toArray, List.getElem_cons_zero, List.getElem_cons_succ, Act.put, List.setIfInBounds_toArray, List.set_cons_zero, List.set_cons_succ]
      refine' anyC_take (i := 6) (v := _) [7, 8, 9, 10, 13, 14, 15, 16] (by kernel_rfl) rfl (by kernel_rfl) (fun _ _ _ h => h) (by rfl) ?hv4x6 HCx.out ?h4x6
      case hv4x6 =>
        rintro w' ⟨c0, c1, c2⟩
        go_simp
        try with_reducible rfl
      simp only [List.getElem_toArray, List.getElem_cons_zero, List.getElem_cons_succ, Act.put, List.setIfInBounds_toArray, List.set_cons_zero, List.set_cons_succ]
      refine' anyC_take (i := 7) (v := _) [8, 9, 10, 13, 14, 15, 16] (by kernel_rfl) rfl (by kernel_rfl) (fun _ _ _ h => h) (by rfl) ?hv4x7 HCx.out ?h4x7
      case hv4x7 =>
        rintro w' ⟨c0, c1, c2⟩
        go_simp
        try with_reducible rfl
      simp only [List.getElem_toArray, List.getElem_cons_zero, List.getElem_cons_succ, Act.put, List.setIfInBounds_toArray, List.set_cons_zero, List.set_cons_succ]
      refine' anyC_take (i := 8) (v := _) [9, 10, 13, 14, 15, 16] (by kernel_rfl) rfl (by kernel_rfl) (fun _ _ _ h => h) (by rfl) ?hv4x8 HCx.out ?h4x8
      case hv4x8 =>
        rintro w' ⟨c0, c1, c2⟩
        go_simp
        try with_reducible rfl
      simp only [List.getElem_toArray, List.getElem_cons_zero, List.getElem_cons_succ, Act.put, List.setIfInBounds_toArray, List.set_cons_zero, List.set_cons_succ]
      refine' anyC_take (i := 9) (v := _) [10, 13, 14, 15, 16] (by kernel_rfl) rfl (by kernel_rfl) (fun _ _ _ h => h) (by rfl) ?hv4x9 HCx.out ?h4x9
      case hv4x9 =>
        rintro w' ⟨c0, c1, c2⟩
        go_simp
        try with_reducible rfl
      simp only [List.getElem_toArray, List.getElem_cons_zero, List.getElem_cons_succ, Act.put, List.setIfInBounds_toArray, List.set_cons_zero, List.set_cons_succ]
      refine' anyC_take (i := 10) (v := _) [13, 14, 15, 16] (by kernel_rfl) rfl (by kernel_rfl) (fun _ _ _ h => h) (by rfl) ?hv4x10 HCx.out ?h4x10
      case hv4x10 =>
        rintro w' ⟨c0, c1, c2⟩
        go_simp
        try with_reducible rfl
      simp only [List.getElem_toArray, List.getElem_cons_zero, List.getElem_cons_succ, Act.put, List.setIfInBounds_toArray, List.set_cons_zero, List.set_cons_succ]
      refine' anyC_take (i := 11) (v := _) [12, 13, 14, 15, 16] (by kernel_rfl) rfl (by kernel_rfl) (fun _ _ _ h => h) (by rfl) ?hv4x11 HCx.out ?h4x11
      case hv4x11 => exact fun w' hC => by refine exec_load 122 (.tmp 3) ?_ bb 0 ?_ (blkC val8 b) (.array 64 9) hC.2.2 Try.underlying122 rfl (by rw [hbs]; kernel_rfl) <;> rfl
      simp only [List.getElem_toArray, List.getElem_cons_zero, List.getElem_cons_succ, Act.put, List.setIfInBounds_toArray, List.set_cons_zero, List.set_cons_succ]
      refine anyC_one (i := 12) (v := .slice (some ⟨w3.heap.size, 0, none⟩) 1 1) (w' := w3.alloc (.cells (blkC val8 b).toArray 122)) (by kernel_rfl) rfl (by kernel_rfl) (by rfl) (by go_simp; exact congrArg (fun c => w3.alloc (.cells c 122)) (fill_all (blkC val8 b) _ (by rw [hbs]; rfl))) ⟨cell_allocN HCx.out.1 _, cell_allocN HCx.out.2.1 _, World.rangeAt_alloc HCx.out.2.2 _⟩ ?_
      simp only [List.getElem_toArray, List.getElem_cons_zero, List.getElem_cons_succ, Act.put, List.setIfInBounds_toArray, List.set_cons_zero, List.set_cons_succ]
      have hkb : ∀ k, (Value.slice al S.lows.length cl).ownBlock = some k → g + 4 ≤ k ∧ k < bb := HLb.out
      refine anyC_app (i := 13) Try.elemB8 (by kernel_rfl) rfl (by kernel_rfl) (by rfl) (.tmp 36) (.tmp 38) rfl H3.out.rl (by omega) (by omega) hg5 (blkC val8 b) hbs (fun u hu => blkC8_one b u (by simpa using hu)) 122 rfl rfl (fun w' hg => ⟨cell_grown hg HCx.out.1 (fun k e => by have := hkb k e; omega), cell_grown hg HCx.out.2.1 (fun k e => by have := hkb k e; omega), range_grown hg HCx.out.2.2 (fun k e => by have := hkb k e; omega)⟩) ?_
      intro al' cl' w5 ho5 hg5' hn5
      simp only [List.getElem_toArray, List.getElem_cons_zero, List.getElem_cons_succ, Act.put, List.setIfInBounds_toArray, List.set_cons_zero, List.set_cons_succ]
      refine anyC_tail 14 (by rfl) (by kernel_rfl) (by kernel_rfl) ?_
      simp only [List.drop_succ_cons, List.drop_zero]
      have HP := Lib.hid (H3.out.push_low HW.out b ho5 hg5' hn5)
      have c1 := cell_grown hg5' HCx.out.2.1 (fun k e => by have := hkb k e; omega)
      have f1 : w5.frozen? ⟨g, 273, none⟩ = false := frozen_of_row w5 g 273 _ _ ((other_grown hg5' (by omega) (fun k e => by have := hkb k e; omega)).trans H3.out.tr)
      have HR5 := Lib.hid (range_grown hg5' HCx.out.2.2 (fun k e => by have := hkb k e; omega))
      have A5 : Hid (AddFr g w w5 am al am al') := Lib.hid (A3.out.trans (.low am hg5' hn5))
      clear ho5 hg5' hn5 hkb
      gi_wp2
      obtain ⟨w6, hw6⟩ : ∃ w6, w6 = w5.setCell ⟨g, 273, none⟩ (.slice al' (S.lows.length + 1) cl') := ⟨_, rfl⟩
      have H6 : Hid (MkAt val8 1 129 138 120 122 w6 g { S with lows := S.lows ++ [b] } S.lows S.mids am cm al' cl') := Lib.hid (by rw [hw6]; exact HP.out)
      have A6 : Hid (AddFr g w w6 am al am al') := Lib.hid (by rw [hw6]; exact A5.out.store g 273 _ (by omega))
      have HR6 : Hid (w6.rangeAt bb 0 (blkC val8 b)) := Lib.hid (by
        rw [hw6]
        intro j v hv
        rw [World.cell?_setCell_other _ _ _ _ (by simp <;> omega)]
        exact HR5.out j v hv)
      rw [← hw6]
      clear hw6 HP A5 HR5 c1 f1 HCx H3 A3
      have c0 := H6.out.c_lm
      refine wp_region_still_tail 6 (by kernel_rfl) (by kernel_rfl) ?_
      simp only [List.take_succ_cons, List.take_zero, List.drop_succ_cons, List.drop_zero]
      change wpStill _ _ (World.drew _) (fun a' => wpList _ _ _ _ a' (World.drew _)) _ _
      iterate 4 still_step
      refine wpStill_load rfl 122 (.tmp 3) rfl bb 0 rfl (blkC val8 b) _ (show w6.drew.rangeAt bb 0 (blkC val8 b) from HR6.out) Try.underlying122 rfl (by rw [hbs]; kernel_rfl) ?_
      still_step
      refine wpStill_nil ?_
      refine wpList_mapUpdate_val rfl 126 (.tmp 45) (.tmp 46) (.tmp 47) rfl (.map (some (g + 1))) (blkV val8 b) (.int .u16 (S.lows.length : Nat)) rfl rfl rfl (Try.k8.store Try.underlying126 (w := w6.drew) (b := g + 1) H6.out.lm b HBl.out HW.out.low HF.out) ?_
      go_wp2
      go_meet
      case rel =>
        have hnb : numB eq8 S.lows b = (S.lows ++ [b], S.lows.length) := by unfold numB; rw [HF.out]
        refine ⟨al', cl', am, cm, by rw [hnb]; rfl, ?_, A6.out.drew.put (g + 1) _ (by omega)⟩
        rw [hnb]
        exact H6.out.drew.put_lm (S.lows ++ [b])
    · obtain ⟨k, hf⟩ : ∃ k, findB eq8 b S.lows = some k := by
        have h := HK0.out.2
        cases h2 : findB eq8 b S.lows with
        | none => rw [h2] at h; cases h
        | some k => exact ⟨k, rfl⟩
      have hk : k0 = k := by have h := HK0.out.1; rw [hf] at h; exact h
      have HF := Lib.hid hf; clear hf
      go_wp2
      go_meet
      case rel =>
        have hnb : numB eq8 S.lows b = (S.lows, k) := by unfold numB; rw [HF.out]
        refine ⟨al, cl, am, cm, by rw [hnb, hk]; rfl, ?_, A2.out⟩
        rw [hnb]
        exact H2.out
  case rest =>
    obtain ⟨al1, cl1, am1, cm1, rfl, hk1, hb1⟩ := hcut
    have hlow1 : ∀ l ∈ (numB eq8 S.lows b).1, l.length = 64 := fun l hl => by
      unfold numB at hl
      cases h2 : findB eq8 b S.lows with
      | none =>
        rw [h2] at hl
        rcases List.mem_append.1 hl with h | h
        · exact HW.out.low l h
        · rw [List.mem_singleton.1 h]; exact HBl.out
      | some k => rw [h2] at hl; exact HW.out.low l hl
    have HAdd : Hid (addS eq8 S b = addS eq8 S b) := Lib.hid rfl
    unfold addS at HAdd
    obtain ⟨N, hN⟩ : ∃ N, N = numB eq8 S.lows b := ⟨_, rfl⟩
    rw [← hN] at hk1 hlow1 ⊢
    have HN := Lib.hid hN; clear hN
    have H7 := Lib.hid hk1
    have A7 := Lib.hid hb1
    have HW7 : Hid (MkW { S with lows := N.1 }) := Lib.hid ⟨HW.out.top, HW.out.cur, hlow1, HW.out.mid⟩
    clear hk1 hb1 hlow1 H2 HB2 A2 HR2 HAdd
    generalize wc = w7 at *
    have c0 := H7.out.c_b
    have hcu : S.blocks % 64 < S.cur.length := by rw [HW.out.cur]; omega
    obtain ⟨v1, c1⟩ : ∃ v, w7.cell? ⟨g + 3, 4 + S.blocks % 64, none⟩ = some v := ⟨_, H7.out.c_cur (S.blocks % 64) hcu⟩
    have f1 := H7.out.f_mk (4 + S.blocks % 64)
    have i1 : (0 : Int) ≤ (S.blocks : Int) % 64 := by omega
    have i2 : (S.blocks : Int) % 64 < 64 := by omega
    obtain ⟨bk, hbk⟩ : ∃ bk, bk = S.blocks := ⟨_, rfl⟩
    obtain ⟨k1, hk1⟩ : ∃ k1, k1 = N.2 := ⟨_, rfl⟩
    rw [← hk1]
    simp only [← hbk] at c0 c1 f1 i1 i2
    have HBk := Lib.hid hbk; clear hbk
    have HK1 := Lib.hid hk1; clear hk1
    have hbl7 : bk < 17408 := by rw [HBk.out]; exact hbl
    unfold num16
    go_wp2
    go_region
    obtain ⟨w8, hw8⟩ : ∃ w8, w8 = (w7.setCell ⟨g + 3, 4 + bk % 64, none⟩ (.int .u16 (k1 : Nat))).drew := ⟨_, rfl⟩
    have H8 : Hid (MkAt val8 1 129 138 120 122 w8 g { S with lows := N.1, cur := S.cur.set (bk % 64) k1 } N.1 S.mids am1 cm1 al1 cl1) := Lib.hid (by rw [hw8]; exact (H7.out.set_cur (bk % 64) k1).drew)
    have A8 : Hid (AddFr g w w8 am al am1 al1) := Lib.hid (by rw [hw8]; exact (A7.out.store (g + 3) (4 + bk % 64) _ (by omega)).drew)
    rw [← hw8]
    clear hw8 c0 c1 f1 H7 A7
    have HW8 : Hid (MkW { S with lows := N.1, cur := S.cur.set (bk % 64) k1 }) := Lib.hid ⟨HW7.out.top, by simpa using HW7.out.cur, HW7.out.low, HW7.out.mid⟩
    clear HW7
    obtain ⟨cur8, hc8⟩ : ∃ c, c = S.cur.set (bk % 64) k1 := ⟨_, rfl⟩
    rw [← hc8] at H8 HW8
    have HC8 := Lib.hid hc8; clear hc8
    have c0 := H8.out.c_b
    have f0 := H8.out.f_mk 3
    simp only [← HBk.out] at c0
    have H9 := Lib.hid (H8.out.set_blocks (bk + 1))
    have A9 := Lib.hid (A8.out.store (g + 3) 3 (.int .i64 ((bk + 1 : Nat) : Int)) (by omega))
    rw [show ((bk + 1 : Nat) : Int) = (bk : Int) + 1 by omega] at H9 A9
    have d0 := H9.out.c_b
    simp only at d0
    rw [show ((bk + 1 : Nat) : Int) = (bk : Int) + 1 by omega] at d0
    generalize hw9 : w8.setCell ⟨g + 3, 3, none⟩ (.int .i64 ((bk : Int) + 1)) = w9 at *
    by_cases h64 : (bk + 1) % 64 = 0
    · have h64i : ¬ (0 : Int) < ((bk : Int) + 1) % 64 := by omega
      have HW9 : Hid (MkW { S with lows := N.1, cur := cur8, blocks := bk + 1 }) := Lib.hid ⟨HW8.out.top, HW8.out.cur, HW8.out.low, HW8.out.mid⟩
      have hc9 : cur8.length = 64 := HW8.out.cur
      have hbs9 : (blkC num16 cur8).length = 64 := by rw [blkC_length (sz := 1) (fun _ => rfl), hc9]
      have HR9 : Hid (w9.rangeAt (g + 3) 4 (blkC num16 cur8)) := Lib.hid H9.out.r_cur
      have e0 := H9.out.c_mm
      go_upto_region 9 with (fail)
      refine wp_region_still_lit (by kernel_rfl) (by kernel_rfl) ?_
      iterate 7 still_step
      refine wpStill_load rfl 120 (.tmp 78) rfl (g + 3) 4 rfl (blkC num16 cur8) _ (show w9.drew.rangeAt (g + 3) 4 (blkC num16 cur8) from HR9.out) Try.underlying120 rfl (by rw [hbs9]; kernel_rfl) ?_
      refine wpStill_lookup rfl 127 (.tmp 75) (.tmp 79) true rfl (.map (some (g + 2))) (blkV num16 cur8) _ rfl rfl (Try.k16.lookup Try.underlying127 (fun w => by kernel_rfl) (w := w9.drew) (b := g + 2) H9.out.mm_ cur8 hc9 HW9.out.mid) ?_
      rw [show findB (fun a b => decide (a = b)) cur8 S.mids = findB eq16 cur8 S.mids from rfl, foundV_eq]
      obtain ⟨k2, hk2⟩ : ∃ k2, k2 = (findB eq16 cur8 S.mids).getD 0 := ⟨_, rfl⟩
      obtain ⟨met2, hmet2⟩ : ∃ met2, met2 = (findB eq16 cur8 S.mids).isSome := ⟨_, rfl⟩
      rw [← hk2, ← hmet2]
      have HK2 := Lib.hid (And.intro hk2 hmet2); clear hk2 hmet2
      repeat still_step
      refine wpStill_nil ?_
      change Exit.then _ _ _ _ (World.drew w9)
      have H10 := Lib.hid H9.out.drew
      have A10 := Lib.hid A9.out.drew
      have HR10 : Hid (w9.drew.rangeAt (g + 3) 4 (blkC num16 cur8)) := Lib.hid HR9.out
      clear H9 A9 HR9 e0 d0 c0 f0 hw9 H8 A8
      generalize w9.drew = w10 at *
      go_upto_if 84 with (fail)
      go_cut [4] from 85 (MidR g w { S with lows := N.1, cur := cur8, blocks := bk + 1 } am al)
      case first =>
        cases met2
        · have hf : findB eq16 cur8 S.mids = none := by
            have h := HK2.out.2
            cases h2 : findB eq16 cur8 S.mids with
            | none => rfl
            | some k => rw [h2] at h; cases h
          have HF := Lib.hid hf; clear hf
          have c0 := H10.out.c_t
          have c1 := H10.out.c_mid HW9.out
          simp only at c1
          have hn1 : S.mids.length < 17408 := by omega
          have hg4 : g + 4 ≤ w10.heap.size := H10.out.lt
          go_upto_region 12 with (fail)
          refine (wpIn_wide (n := 2)).1 ?_
          refine wpIn_region_calm [17, 18, 19] (fun w' : World => w'.cell? ⟨g + 3, 0, none⟩ = some (.pointer (some ⟨g, 0, none⟩)) ∧ w'.cell? ⟨g, 272, none⟩ = some (.slice am1 S.mids.length cm1) ∧ w'.rangeAt (g + 3) 4 (blkC num16 cur8)) (by kernel_rfl) ?_
          have HCx : Hid ((fun w' : World => w'.cell? ⟨g + 3, 0, none⟩ = some (.pointer (some ⟨g, 0, none⟩)) ∧ w'.cell? ⟨g, 272, none⟩ = some (.slice am1 S.mids.length cm1) ∧ w'.rangeAt (g + 3) 4 (blkC num16 cur8)) w10.drew) := Lib.hid ⟨c0, c1, HR10.out⟩
          clear c0 c1
          have H11 := Lib.hid H10.out.drew
          have A11 := Lib.hid A10.out.drew
          have hg5 : g + 4 ≤ w10.drew.heap.size := hg4
          generalize w10.drew = w11 at *
          refine' anyC_take (i := 0) (v := _) [1, 2, 3, 17, 18, 19] (by kernel_rfl) rfl (by kernel_rfl) (fun _ _ _ h => h) (by rfl) ?hv12x0 HCx.out ?h12x0
          case hv12x0 =>
            rintro w' ⟨c0, c1, c2⟩
            go_simp
            try with_reducible rfl
          simp only [List.getElem_toArray, List.getElem_cons_zero, List.getElem_cons_succ, Act.put, List.setIfInBounds_toArray, List.set_cons_zero, List.set_cons_succ]
          refine' anyC_take (i := 1) (v := _) [2, 3, 17, 18, 19] (by kernel_rfl) rfl (by kernel_rfl) (fun _ _ _ h => h) (by rfl) ?hv12x1 HCx.out ?h12x1
          case hv12x1 =>
            rintro w' ⟨c0, c1, c2⟩
            go_simp
            try with_reducible rfl
          simp only [List.getElem_toArray, List.getElem_cons_zero, List.getElem_cons_succ, Act.put, List.setIfInBounds_toArray, List.set_cons_zero, List.set_cons_succ]
          refine' anyC_take (i := 2) (v := _) [3, 17, 18, 19] (by kernel_rfl) rfl (by kernel_rfl) (fun _ _ _ h => h) (by rfl) ?hv12x2 HCx.out ?h12x2
          case hv12x2 =>
            rintro w' ⟨c0, c1, c2⟩
            go_simp
            try with_reducible rfl
          simp only [List.getElem_toArray, List.getElem_cons_zero, List.getElem_cons_succ, Act.put, List.setIfInBounds_toArray, List.set_cons_zero, List.set_cons_succ]
          refine' anyC_take (i := 3) (v := _) [17, 18, 19] (by kernel_rfl) rfl (by kernel_rfl) (fun _ _ _ h => h) (by rfl) ?hv12x3 HCx.out ?h12x3
          case hv12x3 =>
            rintro w' ⟨c0, c1, c2⟩
            go_simp
            try with_reducible rfl
          simp only [List.getElem_toArray, List.getElem_cons_zero, List.getElem_cons_succ, Act.put, List.setIfInBounds_toArray, List.set_cons_zero, List.set_cons_succ]
          refine' anyC_take (i := 4) (v := _) [5, 6, 7, 8, 9, 10, 16, 17, 18, 19] (by kernel_rfl) rfl (by kernel_rfl) (fun _ _ _ h => h) (by rfl) ?hv12x4 HCx.out ?h12x4
          case hv12x4 =>
            rintro w' ⟨c0, c1, c2⟩
            go_simp
            try with_reducible rfl
          simp only [List.getElem_toArray, List.getElem_cons_zero, List.getElem_cons_succ, Act.put, List.setIfInBounds_toArray, List.set_cons_zero, List.set_cons_succ]
          refine' anyC_take (i := 5) (v := _) [6, 7, 8, 9, 10, 16, 17, 18, 19] (by kernel_rfl) rfl (by kernel_rfl) (fun _ _ _ h => h) (by rfl) ?hv12x5 HCx.out ?h12x5
          case hv12x5 =>
            rintro w' ⟨c0, c1, c2⟩
            go_simp
            try with_reducible rfl
          simp only [List.getElem_toArray, List.getElem_cons_zero, List.getElem_cons_succ, Act.put, List.setIfInBounds_toArray, List.set_cons_zero, List.set_cons_succ]
          refine' anyC_take (i := 6) (v := _) [7, 8, 9, 10, 16, 17, 18, 19] (by kernel_rfl) rfl (by kernel_rfl) (fun _ _ _ h => h) (by rfl) ?hv12x6 HCx.out ?h12x6
          case hv12x6 =>
            rintro w' ⟨c0, c1, c2⟩
            go_simp
            try with_reducible rfl
          simp only [List.getElem_toArray, List.getElem_cons_zero, List.getElem_cons_succ, Act.put, List.setIfInBounds_toArray, List.set_cons_zero, List.set_cons_succ]
          refine' anyC_take (i := 7) (v := _) [8, 9, 10, 16, 17, 18, 19] (by kernel_rfl) rfl (by kernel_rfl) (fun _ _ _ h => h) (by rfl) ?hv12x7 HCx.out ?h12x7
          case hv12x7 =>
            rintro w' ⟨c0, c1, c2⟩
            go_simp
            try with_reducible rfl
          simp only [List.getElem_toArray, List.getElem_cons_zero, List.getElem_cons_succ, Act.put, List.setIfInBounds_toArray, List.set_cons_zero, List.set_cons_succ]
          refine' anyC_take (i := 8) (v := _) [9, 10, 16, 17, 18, 19] (by kernel_rfl) rfl (by kernel_rfl) (fun _ _ _ h => h) (by rfl) ?hv12x8 HCx.out ?h12x8
          case hv12x8 =>
            rintro w' ⟨c0, c1, c2⟩
            go_simp
            try with_reducible rfl
          simp only [List.getElem_toArray, List.getElem_cons_zero, List.getElem_cons_succ, Act.put, List.setIfInBounds_toArray, List.set_cons_zero, List.set_cons_succ]
          refine' anyC_take (i := 9) (v := _) [10, 16, 17, 18, 19] (by kernel_rfl) rfl (by kernel_rfl) (fun _ _ _ h => h) (by rfl) ?hv12x9 HCx.out ?h12x9
          case hv12x9 =>
            rintro w' ⟨c0, c1, c2⟩
            go_simp
            try with_reducible rfl
          simp only [List.getElem_toArray, List.getElem_cons_zero, List.getElem_cons_succ, Act.put, List.setIfInBounds_toArray, List.set_cons_zero, List.set_cons_succ]
          refine' anyC_take (i := 10) (v := _) [16, 17, 18, 19] (by kernel_rfl) rfl (by kernel_rfl) (fun _ _ _ h => h) (by rfl) ?hv12x10 HCx.out ?h12x10
          case hv12x10 =>
            rintro w' ⟨c0, c1, c2⟩
            go_simp
            try with_reducible rfl
          simp only [List.getElem_toArray, List.getElem_cons_zero, List.getElem_cons_succ, Act.put, List.setIfInBounds_toArray, List.set_cons_zero, List.set_cons_succ]
          refine' anyC_take (i := 11) (v := _) [12, 13, 14, 15, 16, 17, 18, 19] (by kernel_rfl) rfl (by kernel_rfl) (fun _ _ _ h => h) (by rfl) ?hv12x11 HCx.out ?h12x11
          case hv12x11 =>
            rintro w' ⟨c0, c1, c2⟩
            go_simp
            try with_reducible rfl
          simp only [List.getElem_toArray, List.getElem_cons_zero, List.getElem_cons_succ, Act.put, List.setIfInBounds_toArray, List.set_cons_zero, List.set_cons_succ]
          refine' anyC_take (i := 12) (v := _) [13, 14, 15, 16, 17, 18, 19] (by kernel_rfl) rfl (by kernel_rfl) (fun _ _ _ h => h) (by rfl) ?hv12x12 HCx.out ?h12x12
          case hv12x12 =>
            rintro w' ⟨c0, c1, c2⟩
            go_simp
            try with_reducible rfl
          simp only [List.getElem_toArray, List.getElem_cons_zero, List.getElem_cons_succ, Act.put, List.setIfInBounds_toArray, List.set_cons_zero, List.set_cons_succ]
          refine' anyC_take (i := 13) (v := _) [14, 15, 16, 17, 18, 19] (by kernel_rfl) rfl (by kernel_rfl) (fun _ _ _ h => h) (by rfl) ?hv12x13 HCx.out ?h12x13
          case hv12x13 =>
            rintro w' ⟨c0, c1, c2⟩
            go_simp
            try with_reducible rfl
          simp only [List.getElem_toArray, List.getElem_cons_zero, List.getElem_cons_succ, Act.put, List.setIfInBounds_toArray, List.set_cons_zero, List.set_cons_succ]
          refine' anyC_take (i := 14) (v := _) [15, 16, 17, 18, 19] (by kernel_rfl) rfl (by kernel_rfl) (fun _ _ _ h => h) (by rfl) ?hv12x14 HCx.out ?h12x14
          case hv12x14 => exact fun w' hC => by refine exec_load 120 (.tmp 107) ?_ (g + 3) 4 ?_ (blkC num16 cur8) (.array 64 91) hC.2.2 Try.underlying120 rfl (by rw [hbs9]; kernel_rfl) <;> rfl
          simp only [List.getElem_toArray, List.getElem_cons_zero, List.getElem_cons_succ, Act.put, List.setIfInBounds_toArray, List.set_cons_zero, List.set_cons_succ]
          refine anyC_one (i := 15) (v := .slice (some ⟨w11.heap.size, 0, none⟩) 1 1) (w' := w11.alloc (.cells (blkC num16 cur8).toArray 120)) (by kernel_rfl) rfl (by kernel_rfl) (by rfl) (by go_simp; exact congrArg (fun c => w11.alloc (.cells c 120)) (fill_all (blkC num16 cur8) _ (by rw [hbs9]; rfl))) ⟨cell_allocN HCx.out.1 _, cell_allocN HCx.out.2.1 _, World.rangeAt_alloc HCx.out.2.2 _⟩ ?_
          simp only [List.getElem_toArray, List.getElem_cons_zero, List.getElem_cons_succ, Act.put, List.setIfInBounds_toArray, List.set_cons_zero, List.set_cons_succ]
          have hkb : ∀ k, (Value.slice am1 S.mids.length cm1).ownBlock = some k → g + 4 ≤ k := fun k e => (World.ownsRow.lt H11.out.rm k e).1
          refine anyC_app (i := 16) Try.elemB16 (by kernel_rfl) rfl (by kernel_rfl) (by rfl) (.tmp 104) (.tmp 109) rfl H11.out.rm (by simp only; omega) (by simp only; omega) hg5 (blkC num16 cur8) hbs9 (fun u hu => blkC16_one cur8 u (by simpa using hu)) 120 rfl rfl (fun w' hg => ⟨cell_grown hg HCx.out.1 (fun k e => by have := hkb k e; omega), cell_grown hg HCx.out.2.1 (fun k e => by have := hkb k e; omega), range_grown hg HCx.out.2.2 (fun k e => by have := hkb k e; omega)⟩) ?_
          intro am' cm' w5 ho5 hg5' hn5
          simp only [List.getElem_toArray, List.getElem_cons_zero, List.getElem_cons_succ, Act.put, List.setIfInBounds_toArray, List.set_cons_zero, List.set_cons_succ]
          refine anyC_tail 17 (by rfl) (by kernel_rfl) (by kernel_rfl) ?_
          simp only [List.drop_succ_cons, List.drop_zero]
          have HP := Lib.hid (H11.out.push_mid HW9.out cur8 ho5 hg5' hn5)
          have c1 := cell_grown hg5' HCx.out.2.1 (fun k e => by have := hkb k e; omega)
          have f1 : w5.frozen? ⟨g, 272, none⟩ = false := frozen_of_row w5 g 272 _ _ ((other_grown hg5' (by omega) (fun k e => by have := hkb k e; omega)).trans H11.out.tr)
          have A5 : Hid (AddFr g w w5 am al am' al1) := Lib.hid (A11.out.trans (.mid al1 hg5' hn5))
          clear ho5 hg5' hn5 hkb
          gi_wp2
          obtain ⟨w6, hw6⟩ : ∃ w6, w6 = w5.setCell ⟨g, 272, none⟩ (.slice am' (S.mids.length + 1) cm') := ⟨_, rfl⟩
          have H6 : Hid (MkAt val8 1 129 138 120 122 w6 g { S with lows := N.1, cur := cur8, blocks := bk + 1, mids := S.mids ++ [cur8] } N.1 S.mids am' cm' al1 cl1) := Lib.hid (by rw [hw6]; exact HP.out)
          have A6 : Hid (AddFr g w w6 am al am' al1) := Lib.hid (by rw [hw6]; exact A5.out.store g 272 _ (by omega))
          have HR6 : Hid (w6.rangeAt (g + 3) 4 (blkC num16 cur8)) := Lib.hid H6.out.r_cur
          rw [← hw6]
          clear hw6 HP A5 c1 f1 HCx H11 A11
          have c0 := H6.out.c_mm
          refine wp_region_still_tail 9 (by kernel_rfl) (by kernel_rfl) ?_
          simp only [List.take_succ_cons, List.take_zero, List.drop_succ_cons, List.drop_zero]
          change wpStill _ _ (World.drew _) (fun a' => wpList _ _ _ _ a' (World.drew _)) _ _
          iterate 7 still_step
          refine wpStill_load rfl 120 (.tmp 119) rfl (g + 3) 4 rfl (blkC num16 cur8) _ (show w6.drew.rangeAt (g + 3) 4 (blkC num16 cur8) from HR6.out) Try.underlying120 rfl (by rw [hbs9]; kernel_rfl) ?_
          still_step
          refine wpStill_nil ?_
          refine wpList_mapUpdate_val rfl 127 (.tmp 116) (.tmp 120) (.tmp 121) rfl (.map (some (g + 2))) (blkV num16 cur8) (.int .u16 (S.mids.length : Nat)) rfl rfl rfl (Try.k16.store Try.underlying127 (w := w6.drew) (b := g + 2) H6.out.mm_ cur8 hc9 HW9.out.mid HF.out) ?_
          go_wp2
          go_meet
          case rel =>
            have hnb : numB eq16 S.mids cur8 = (S.mids ++ [cur8], S.mids.length) := by unfold numB; rw [HF.out]
            refine ⟨al1, cl1, am', cm', by simp only [hnb]; rfl, ?_, A6.out.drew.put (g + 2) _ (by omega)⟩
            simp only [hnb]
            exact H6.out.drew.put_mm (S.mids ++ [cur8])
        · obtain ⟨k, hf⟩ : ∃ k, findB eq16 cur8 S.mids = some k := by
            have h := HK2.out.2
            cases h2 : findB eq16 cur8 S.mids with
            | none => rw [h2] at h; cases h
            | some k => exact ⟨k, rfl⟩
          have hk : Hid (k2 = k) := Lib.hid (by have h := HK2.out.1; rw [hf] at h; exact h)
          have HF := Lib.hid hf; clear hf
          go_wp2
          go_meet
          case rel =>
            have hnb : numB eq16 S.mids cur8 = (S.mids, k) := by unfold numB; rw [HF.out]
            refine ⟨al1, cl1, am1, cm1, by simp only [hnb, hk.out]; rfl, ?_, A10.out⟩
            simp only [hnb]
            exact H10.out
      case rest =>
        obtain ⟨al2, cl2, am2, cm2, rfl, hk3, hb3⟩ := hcut
        simp only at hk3
        obtain ⟨M, hM2⟩ : ∃ M, M = numB eq16 S.mids cur8 := ⟨_, rfl⟩
        rw [← hM2] at hk3 ⊢
        have HM2 := Lib.hid hM2
        have hmid2 : ∀ l ∈ M.1, l.length = 64 := by rw [hM2]; exact numB_len HW9.out.mid hc9
        clear hM2
        have H12 := Lib.hid hk3
        have A12 := Lib.hid hb3
        have HW12 : Hid (MkW { S with lows := N.1, cur := cur8, blocks := bk + 1, mids := M.1 }) := Lib.hid ⟨HW9.out.top, HW9.out.cur, HW9.out.low, hmid2⟩
        clear hk3 hb3 hmid2 H10 A10 HR10
        generalize wc = w12 at *
        obtain ⟨q, hq⟩ : ∃ q, q = bk / 64 := ⟨_, rfl⟩
        have hq1 : q < 272 := by omega
        have hq2 : ((bk : Int) + 1) / 64 - 1 = (q : Int) := by omega
        have hq0 : (0 : Int) ≤ (bk : Int) + 1 := by omega
        have HQ := Lib.hid hq; clear hq
        obtain ⟨v2, c2⟩ := H12.out.c_top HW12.out q hq1
        have f2 := H12.out.f_tr q
        have c0 := H12.out.c_t
        have c1 := H12.out.c_b
        simp only at c1
        rw [show ((bk + 1 : Nat) : Int) = (bk : Int) + 1 by omega] at c1
        obtain ⟨k3, hk3⟩ : ∃ k3, k3 = M.2 := ⟨_, rfl⟩
        rw [← hk3]
        have HK3 := Lib.hid hk3; clear hk3
        unfold num16
        go_wp2
        go_region
        go_end0
        have e : addS eq8 S b = { top := S.top.set q k3, cur := cur8, lows := N.1, mids := M.1, blocks := bk + 1 } := by
          rw [addS_full (by rw [← HBk.out]; exact h64), ← HBk.out, ← HN.out, ← HK1.out, ← HC8.out, ← HM2.out, ← HK3.out, ← HQ.out]
        rw [e]
        exact ⟨rfl, am2, cm2, al2, cl2, (H12.out.set_top HW12.out q k3 hq1).drew, (A12.out.store g q _ (by omega)).drew⟩
    · have h64i : (0 : Int) < ((bk : Int) + 1) % 64 := by omega
      go_wp2
      refine bodyPost_ret (results_none rfl _ _ _) rfl ?_
      have e : addS eq8 S b = { S with cur := cur8, lows := N.1, blocks := bk + 1 } := by
        rw [addS_less (by rw [← HBk.out]; exact h64), ← HBk.out, ← HN.out, ← HK1.out, ← HC8.out]
      rw [e]
      first
        | exact ⟨rfl, am1, cm1, al1, cl1, H9.out, A9.out⟩
        | exact ⟨rfl, am1, cm1, al1, ⟨cl1, H9.out⟩, A9.out⟩
end Go.Proofs.Ytabbabkmojaoaaa.VS

/-
  The walks of 'begin' and 'Fill' (string).
-/
namespace Go.Proofs.Ytabbabkmojaoaaa.VS
open Go.RowKit

def S0 : MkS El := { top := List.replicate 272 0, cur := List.replicate 64 0, lows := [], mids := [], blocks := 0 }
theorem S0_ok : MkW S0 := ⟨List.length_replicate, List.length_replicate, fun _ h => absurd h (List.not_mem_nil), fun _ h => absurd h (List.not_mem_nil)⟩
set_option maxRecDepth 100000 in
set_option maxHeartbeats 1600000 in
theorem begin8_walk (w : World) :
    Calls Try.prog 64 #[] w fun e w' => e = .returned (.pointer (some ⟨w.heap.size + 3, 0, none⟩)) ∧
      MkAt val8 1 129 138 120 122 w' w.heap.size S0 [] [] none 0 none 0 ∧ Below w.heap.size w w' := by
  go_enter Try.func64, Try.ntmps64
  go_upto_region 1 with (fail)
  refine wp_region_list ?_
  refine wpList_val (v := .agg (trC S0 none 0 none 0).toArray) (w' := w) rfl (by kernel_rfl) ?_
  refine wpList_val (v := .pointer (some ⟨w.heap.size, 0, none⟩)) (w' := w.alloc (.cells (trC S0 none 0 none 0).toArray 138)) rfl (by kernel_rfl) ?_
  obtain ⟨w1, hw1⟩ : ∃ w1, w1 = w.alloc (.cells (trC S0 none 0 none 0).toArray 138) := ⟨_, rfl⟩
  have hs1 : w1.heap.size = w.heap.size + 1 := by rw [hw1]; simp
  rw [← hw1]
  refine wpList_val (v := .map (some (w.heap.size + 1))) (w' := w1.alloc (.map #[] 0)) rfl (by rw [← hs1]; kernel_rfl) ?_
  obtain ⟨w2, hw2⟩ : ∃ w2, w2 = w1.alloc (.map #[] 0) := ⟨_, rfl⟩
  have hs2 : w2.heap.size = w.heap.size + 2 := by rw [hw2]; simp [hs1]
  rw [← hw2]
  refine wpList_val (v := .map (some (w.heap.size + 2))) (w' := w2.alloc (.map #[] 0)) rfl (by rw [← hs2]; kernel_rfl) ?_
  obtain ⟨w3, hw3⟩ : ∃ w3, w3 = w2.alloc (.map #[] 0) := ⟨_, rfl⟩
  have hs3 : w3.heap.size = w.heap.size + 3 := by rw [hw3]; simp [hs2]
  rw [← hw3]
  refine wpList_val (v := .agg (mkC w.heap.size S0).toArray) (w' := w3) rfl (by kernel_rfl) ?_
  refine wpList_val (v := .pointer (some ⟨w.heap.size + 3, 0, none⟩)) (w' := w3.alloc (.cells (mkC w.heap.size S0).toArray 129)) rfl (by rw [← hs3]; kernel_rfl) ?_
  obtain ⟨w4, hw4⟩ : ∃ w4, w4 = w3.alloc (.cells (mkC w.heap.size S0).toArray 129) := ⟨_, rfl⟩
  rw [← hw4]
  refine wpList_val (v := .pointer (some ⟨w.heap.size + 3, 0, none⟩)) (w' := w4) rfl (by kernel_rfl) ?_
  have b1 : Below w.heap.size w w1 := by rw [hw1]; exact (Below.refl _ _).alloc (Nat.le_refl _) _
  have b2 : Below w1.heap.size w1 w2 := by rw [hw2]; exact (Below.refl _ _).alloc (Nat.le_refl _) _
  have b3 : Below w2.heap.size w2 w3 := by rw [hw3]; exact (Below.refl _ _).alloc (Nat.le_refl _) _
  have b4 : Below w3.heap.size w3 w4 := by rw [hw4]; exact (Below.refl _ _).alloc (Nat.le_refl _) _
  have k1 : w1.heap[w.heap.size]? = some (.cells (trC S0 none 0 none 0).toArray 138 (0, 0)) := by rw [hw1]; exact heap_alloc_new w _
  have k2 : w2.heap[w.heap.size + 1]? = some (.map #[] 0) := by rw [← hs1, hw2]; exact heap_alloc_new w1 _
  have k3 : w3.heap[w.heap.size + 2]? = some (.map #[] 0) := by rw [← hs2, hw3]; exact heap_alloc_new w2 _
  have k4 : w4.heap[w.heap.size + 3]? = some (.cells (mkC w.heap.size S0).toArray 129 (0, 0)) := by rw [← hs3, hw4]; exact heap_alloc_new w3 _
  have HB := Lib.hid (below_sq (below_sq (below_sq b1 b2) b3) b4)
  have HM : Hid (MkAt val8 1 129 138 120 122 w4 w.heap.size S0 [] [] none 0 none 0) := Lib.hid
    ⟨k4, (b4.block _ (by omega)).trans ((b3.block _ (by omega)).trans ((b2.block _ (by omega)).trans k1)), World.ownsRow_nil _ _ _ _, World.ownsRow_nil _ _ _ _, (fun k e => by cases e),
      (b4.block _ (by omega)).trans ((b3.block _ (by omega)).trans k2), (b4.block _ (by omega)).trans k3⟩
  clear b1 b2 b3 b4 k1 k2 k3 k4 hw1 hw2 hw3 hw4 hs1 hs2 hs3
  go_wp2
  go_ret
  exact ⟨rfl, HM.out, HB.out⟩

/-- block number k of a function -/
def blkF (f : Nat → El) (k : Nat) : List El := (List.range 64).map (fun i => f (64 * k + i))
theorem blkF_length (f : Nat → El) (k : Nat) : (blkF f k).length = 64 := by simp [blkF]
/-- the maker after k blocks -/
def mkF (f : Nat → El) : Nat → MkS El
  | 0 => S0
  | k + 1 => addS eq8 (mkF f k) (blkF f k)
theorem addS_ok {S : MkS El} {b : List El} (h : MkW S) (hb : b.length = 64) : MkW (addS eq8 S b) ∧ (addS eq8 S b).blocks = S.blocks + 1 := by
  by_cases h1 : (S.blocks + 1) % 64 = 0
  · rw [addS_full h1]
    exact ⟨⟨by simpa using h.top, by simpa using h.cur, numB_len h.low hb, numB_len h.mid (by simpa using h.cur)⟩, rfl⟩
  · rw [addS_less h1]
    exact ⟨⟨h.top, by simpa using h.cur, numB_len h.low hb, h.mid⟩, rfl⟩
theorem mkF_ok (f : Nat → El) (k : Nat) : MkW (mkF f k) ∧ (mkF f k).blocks = k ∧ (mkF f k).lows.length ≤ k ∧ (mkF f k).mids.length ≤ k / 64 := by
  induction k with
  | zero => exact ⟨S0_ok, rfl, Nat.le_refl _, Nat.le_refl _⟩
  | succ k ih =>
    obtain ⟨h1, h2, h3, h4⟩ := ih
    obtain ⟨h5, h6⟩ := addS_ok h1 (blkF_length f k)
    refine ⟨h5, by rw [mkF, h6, h2], ?_, ?_⟩
    · rw [mkF]
      have := numB_le eq8 (mkF f k).lows (blkF f k)
      by_cases h7 : ((mkF f k).blocks + 1) % 64 = 0
      · rw [addS_full h7]; simp only; omega
      · rw [addS_less h7]; simp only; omega
    · rw [mkF]
      by_cases h7 : ((mkF f k).blocks + 1) % 64 = 0
      · rw [addS_full h7]
        have := numB_le eq16 (mkF f k).mids ((mkF f k).cur.set ((mkF f k).blocks % 64) (numB eq8 (mkF f k).lows (blkF f k)).2)
        simp only
        omega
      · rw [addS_less h7]; simp only; omega

/-- what lies from B on is left alone -/
theorem Keeps.mkAt (B : Nat) {W W' : World} {g : Nat} {S : MkS El} {ml : List (List El)} {mm : List (List Nat)} {am : Option Addr} {cm : Nat} {al : Option Addr} {cl : Nat} {tM tT tA tV : TypeId} (hk : Keeps B W W') (hB : B ≤ g)
    (h : MkAt val8 1 tM tT tA tV W g S ml mm am cm al cl) : MkAt val8 1 tM tT tA tV W' g S ml mm am cm al cl := by
  have hl := h.lt
  have k : ∀ b, B ≤ b → b < W.heap.size → W'.heap[b]? = W.heap[b]? := hk.block
  have r : ∀ {E : TypeId} {s : Nat} {v : Value} {n : Nat} {xs : List Value}, W.ownsRow (g + 4) E s v n xs → W'.ownsRow (g + 4) E s v n xs := fun {E s v n xs} h => by
    refine ⟨h.1, ?_⟩
    rcases h.2 with hn | ⟨gg, cap, cur, e, hbg, hgg, rest⟩
    · exact .inl hn
    · exact .inr ⟨gg, cap, cur, e, hbg, by rw [k gg (by omega) (Array.getElem?_eq_some_iff.1 hgg).1]; exact hgg, rest⟩
  exact ⟨(k _ (by omega) (by omega)).trans h.mk_, (k _ hB (by omega)).trans h.tr, r h.rm, r h.rl, h.ap, (k _ (by omega) (by omega)).trans h.lm, (k _ (by omega) (by omega)).trans h.mm_⟩

def FilR (B : Nat) (f : Nat → El) (J : Nat → World → Prop) (g bB : Nat) (i : Value) (wr : World) : Prop :=
  ∃ (r : Nat) (bc : List El) (am : Option Addr) (cm : Nat) (al : Option Addr) (cl : Nat), r ≤ 1114112 ∧ i = .int .i32 r ∧ bc.length = 64 ∧ (∀ j, j < r % 64 → bc[j]? = some (f (64 * (r / 64) + j))) ∧
    wr.heap[bB]? = some (.cells (blkC val8 bc).toArray 122 (0, 0)) ∧
    MkAt val8 1 129 138 120 122 wr g (mkF f (r / 64)) (mkF f (r / 64)).lows (mkF f (r / 64)).mids am cm al cl ∧ J r wr ∧
    (∀ k, (Value.slice am (mkF f (r / 64)).mids.length cm).ownBlock = some k ∨ (Value.slice al (mkF f (r / 64)).lows.length cl).ownBlock = some k → k ≠ bB)

set_option maxRecDepth 100000 in
set_option maxHeartbeats 1600000 in
theorem Fill8_walk (cf : Nat) (lb : Array Value) (w : World) (f : Nat → El) (J : Nat → World → Prop) (eg : ∀ args W, (callFunc cf args).run Try.prog W = .ok (.enter cf args) W)
    (hJ : ∀ k W W', J k W → Below w.heap.size W W' → J k W')
    (hcall : ∀ k W, k < 1114112 → J k W → w.heap.size ≤ W.heap.size → Calls Try.prog cf (#[.int .i32 (k : Nat)] ++ lb) W fun e W' => e = .returned (val8 (f k)) ∧ J (k + 1) W' ∧ Keeps w.heap.size W W')
    (h0 : J 0 w) :
    Calls Try.prog 124 #[.func (.func cf) #[] lb] w fun e w' => ∃ g, e = .returned (.pointer (some ⟨g, 0, none⟩)) ∧ w.heap.size ≤ g ∧
      (∃ am cm al cl, MkAt val8 1 129 138 120 122 w' g (mkF f 17408) (mkF f 17408).lows (mkF f 17408).mids am cm al cl) ∧ J 1114112 w' := by
  have HJ := Lib.hid hJ; clear hJ
  have HCl := Lib.hid hcall; clear hcall
  have H0 := Lib.hid h0; clear h0
  have HEg := Lib.hid eg; clear eg
  have qF := fun (w : World) (cs : Array Value) => run_eql_func_nil (P := Try.prog) w 158 (.func cf) #[] cs _ _ _ Try.underlying158
  go_enter Try.func124, Try.ntmps124
  go_wp2_with fail
  refine (begin8_walk w).mono ?_
  rintro e w1 ⟨rfl, hm, hb⟩
  have HM1 := Lib.hid hm
  have HB1 := Lib.hid hb; clear hm hb
  obtain ⟨g, hg⟩ : ∃ g, g = w.heap.size := ⟨_, rfl⟩
  rw [← hg] at HM1 ⊢
  have hgs : g + 4 ≤ w1.heap.size := HM1.out.lt
  have HG := Lib.hid hg
  rw [← hg] at HB1
  go_upto_region 5 with (fail)
  change Code.wp _ _ _ _ (w1.alloc (.cells (blkC val8 (List.replicate 64 (ByteArray.empty : El))).toArray 122))
  obtain ⟨w2, hw2⟩ : ∃ w2, w2 = w1.alloc (.cells (blkC val8 (List.replicate 64 (ByteArray.empty : El))).toArray 122) := ⟨_, rfl⟩
  have HB2 : Hid (Below w1.heap.size w1 w2) := Lib.hid (by rw [hw2]; exact (Below.refl _ _).alloc (Nat.le_refl _) _)
  have HC2 : Hid (w2.heap[w1.heap.size]? = some (.cells (blkC val8 (List.replicate 64 (ByteArray.empty : El))).toArray 122 (0, 0))) := Lib.hid (by rw [hw2]; exact heap_alloc_new w1 _)
  rw [← hw2]
  clear hw2
  obtain ⟨bB, hbB⟩ : ∃ bB, bB = w1.heap.size := ⟨_, rfl⟩
  have HM2 := Lib.hid (HM1.out.below HB2.out)
  rw [← hbB] at HC2 hgs ⊢
  have HW02 := Lib.hid (HB1.out.trans (HB2.out.mono (by have := HB1.out.size; have := HG.out; omega)))
  have HJ2 := Lib.hid (HJ.out 0 w w2 H0.out (by rw [← HG.out]; exact HW02.out))
  clear hbB HM1 HB1 HB2 hg
  rw [← HG.out] at HCl HJ ⊢
  go_wp2
  go_loopw [5] (FilR g f J g bB) (fun i _ => 1114112 - (intOf i).toNat)
  case atStart =>
    exact ⟨0, List.replicate 64 (ByteArray.empty : El), none, 0, none, 0, Nat.zero_le _, rfl, List.length_replicate, fun j hj => by omega, HC2.out, HM2.out, HJ2.out, fun k hk => by rcases hk with hk | hk <;> cases hk⟩
  case round =>
    obtain ⟨r, bc, am, cm, al, cl, hr, rfl, hbl, hbc, hcell, hmk, hj, hdis⟩ := hrel
    have HBc := Lib.hid hbc; clear hbc
    have HCe := Lib.hid hcell; clear hcell
    have HMk := Lib.hid hmk; clear hmk
    have HJr := Lib.hid hj; clear hj
    have HDi := Lib.hid hdis; clear hdis
    by_cases hrN : r < 1114112
    · have hri : (r : Int) ≤ 1114111 := by omega
      have i1 : (0 : Int) ≤ (r : Int) % 64 := by omega
      have i2 : (r : Int) % 64 < 64 := by omega
      have heg := HEg.out
      go_wp2_with fail
      refine (HCl.out r wr hrN HJr.out (by have := HMk.out.lt; omega)).mono ?_
      rintro e w5 ⟨rfl, hj5, hk5⟩
      have HM5 := Lib.hid (Keeps.mkAt g hk5 (Nat.le_refl g) HMk.out)
      have hbBl : bB < wr.heap.size := (Array.getElem?_eq_some_iff.1 HCe.out).1
      have HC5 := Lib.hid ((hk5.block bB (by omega) hbBl).trans HCe.out)
      have HJ5 := Lib.hid hj5; clear hj5
      have hs5 := hk5.size
      clear hk5
      obtain ⟨v1, q1⟩ : ∃ v, w5.cell? ⟨bB, r % 64, none⟩ = some v := by
        rw [cell_of_row w5 bB (r % 64) _ _ (0, 0) HC5.out, blkC8_map]
        exact ⟨_, by rw [List.getElem?_toArray, List.getElem?_map, List.getElem?_eq_getElem (by omega)]; rfl⟩
      have f1 := frozen_of_row w5 bB (r % 64) _ _ HC5.out
      have HC6 : Hid ((w5.setCell ⟨bB, r % 64, none⟩ (val8 (f r))).heap[bB]? = some (.cells (blkC val8 (bc.set (r % 64) (f r))).toArray 122 (0, 0))) := Lib.hid (by
        rw [heap_setCell_same w5 bB (r % 64) _ _ (val8 (f r)) HC5.out, blkC8_map, blkC8_map, List.map_set]
        simp)
      have HB6 : Hid (Below g w5 (w5.setCell ⟨bB, r % 64, none⟩ (val8 (f r)))) := Lib.hid ((Below.refl g w5).setCell (p := ⟨bB, r % 64, none⟩) (by show g ≤ bB; omega) _)
      have HM6 : Hid (MkAt val8 1 129 138 120 122 (w5.setCell ⟨bB, r % 64, none⟩ (val8 (f r))) g (mkF f (r / 64)) (mkF f (r / 64)).lows (mkF f (r / 64)).mids am cm al cl) := Lib.hid (by
        have hm := HM5.out
        have oth : ∀ k, k ≠ bB → (w5.setCell ⟨bB, r % 64, none⟩ (val8 (f r))).heap[k]? = w5.heap[k]? := fun k hk => heap_setCell_other w5 ⟨bB, r % 64, none⟩ k _ hk
        refine ⟨(oth _ (by omega)).trans hm.mk_, (oth _ (by omega)).trans hm.tr, ?_, ?_, hm.ap, (oth _ (by omega)).trans hm.lm, (oth _ (by omega)).trans hm.mm_⟩
        · exact hm.rm.kept (grown_store w5 bB (r % 64) _) (by
            cases e : (Value.slice am (mkF f (r / 64)).mids.length cm).ownBlock with
            | none => exact .inl rfl
            | some k => exact .inr (fun e2 => by cases e2; exact HDi.out bB (.inl e) rfl))
        · exact hm.rl.kept (grown_store w5 bB (r % 64) _) (by
            cases e : (Value.slice al (mkF f (r / 64)).lows.length cl).ownBlock with
            | none => exact .inl rfl
            | some k => exact .inr (fun e2 => by cases e2; exact HDi.out bB (.inr e) rfl)))
      have HJ6 := Lib.hid (HJ.out (r + 1) w5 _ HJ5.out HB6.out)
      have hl6 : bB < (w5.setCell ⟨bB, r % 64, none⟩ (val8 (f r))).heap.size := (Array.getElem?_eq_some_iff.1 HC6.out).1
      have HBs : Hid (∀ j, j < r % 64 + 1 → (bc.set (r % 64) (f r))[j]? = some (f (64 * (r / 64) + j))) := Lib.hid (fun j hj => by
        by_cases h : r % 64 = j
        · subst h
          rw [List.getElem?_set_self (by omega)]
          rw [show 64 * (r / 64) + r % 64 = r by omega]
        · rw [List.getElem?_set_ne h]
          exact HBc.out j (by omega))
      have hbl6 : (bc.set (r % 64) (f r)).length = 64 := by simpa using hbl
      generalize hw6 : w5.setCell ⟨bB, r % 64, none⟩ (val8 (f r)) = w6 at *
      unfold val8 at hw6
      generalize bc.set (r % 64) (f r) = bc6 at *
      unfold val8
      by_cases h63 : (r : Int) % 64 = 63
      · have h63' : ((r : Int) % 64 == 63) = true := beq_iff_eq.2 h63
        have HRn := Lib.hid h63; clear h63
        obtain ⟨hk1, hk2, hk3, hk4⟩ := mkF_ok f (r / 64)
        have HKf := Lib.hid hk1
        have hq : r / 64 < 17408 := by omega
        have hbf : bc6 = blkF f (r / 64) := by
          apply List.ext_getElem?
          intro j
          have h3 := HRn.out
          by_cases hj : j < 64
          · rw [HBs.out j (by omega)]
            simp [blkF, hj]
          · rw [List.getElem?_eq_none (by omega), List.getElem?_eq_none (by rw [blkF_length]; omega)]
        have HBf := Lib.hid hbf; clear hbf
        have hbs6 : (blkC val8 bc6).length = 64 := by rw [blkC_length (sz := 1) (fun _ => rfl), hbl6]
        have HR6 : Hid (w6.rangeAt bB 0 (blkC val8 bc6)) := Lib.hid (by
          have := World.rangeAt_of_block HC6.out 0 (blkC val8 bc6).length
          simpa using this)
        go_upto_region 10 with (fail)
        refine wp_region_list ?_
        refine wpList_val (v := .pointer (some ⟨g + 3, 0, none⟩)) (w' := w6) rfl (by rfl) ?_
        refine wpList_load_mid rfl 122 (.tmp 4) rfl bB 0 rfl (blkC val8 bc6) (.array 64 9) HR6.out Try.underlying122 rfl (by rw [hbs6]; kernel_rfl) ?_
        go_wp2_with fail
        rw [HBf.out]
        refine (add8_walk w6 g (mkF f (r / 64)) (blkF f (r / 64)) am cm al cl HKf.out (blkF_length _ _) (by omega) (by omega) (by omega) HM6.out).mono ?_
        rintro e w7 ⟨rfl, am', cm', al', cl', hm7, ha7⟩
        have hB7 := ha7.to_below (fun k e => by rw [← ob_eq am (mkF f (r / 64)).mids.length cm] at e; have := (World.ownsRow.lt HM6.out.rm k e).1; omega) (fun k e => by rw [← ob_eq al (mkF f (r / 64)).lows.length cl] at e; have := (World.ownsRow.lt HM6.out.rl k e).1; omega) (by omega)
        have HJ7 := Lib.hid (HJ.out (r + 1) w6 w7 HJ6.out hB7)
        have HC7 := Lib.hid ((ha7.oth bB hl6 (by omega) (fun e => HDi.out bB (.inl (by rw [ob_eq]; exact e)) rfl) (fun e => HDi.out bB (.inr (by rw [ob_eq]; exact e)) rfl)).trans HC6.out)
        have HM7 := Lib.hid hm7
        have HDi7 : Hid (∀ k, (Value.slice am' (mkF f (r / 64 + 1)).mids.length cm').ownBlock = some k ∨ (Value.slice al' (mkF f (r / 64 + 1)).lows.length cl').ownBlock = some k → k ≠ bB) := Lib.hid (fun k hk => by
          rw [ob_eq, ob_eq] at hk
          rcases hk with hk | hk
          · rcases ha7.na k hk with h | h
            · exact HDi.out k (.inl (by rw [ob_eq]; exact h))
            · omega
          · rcases ha7.nl k hk with h | h
            · exact HDi.out k (.inr (by rw [ob_eq]; exact h))
            · omega)
        clear hm7 ha7 hB7 hk1 hk2 hk3 hk4
        go_wp2
        go_roundw
        case rel =>
          have h3 := HRn.out
          refine ⟨r + 1, bc6, am', cm', al', cl', by omega, by go_num, hbl6, fun j hj => by omega, HC7.out, ?_, HJ7.out, ?_⟩
          · rw [show (r + 1) / 64 = r / 64 + 1 by omega]
            exact HM7.out
          · rw [show (r + 1) / 64 = r / 64 + 1 by omega]
            exact HDi7.out
        case measure => simp [intOf]; omega
      · have h63' : ((r : Int) % 64 == 63) = false := beq_false_of_ne h63
        have HRn := Lib.hid h63; clear h63
        go_wp2
        go_roundw
        case rel =>
          have h3 := HRn.out
          refine ⟨r + 1, bc6, am, cm, al, cl, by omega, by go_num, hbl6, fun j hj => ?_, HC6.out, ?_, HJ6.out, ?_⟩
          · rw [show (r + 1) / 64 = r / 64 by omega]
            exact HBs.out j (by omega)
          · rw [show (r + 1) / 64 = r / 64 by omega]
            exact HM6.out
          · rw [show (r + 1) / 64 = r / 64 by omega]
            exact HDi.out
        case measure => simp [intOf]; omega
    · have hr2 : r = 1114112 := by omega
      have hri : ¬ (r : Int) ≤ 1114111 := by omega
      have hq : r / 64 = 17408 := by omega
      have HM8 : Hid (MkAt val8 1 129 138 120 122 wr g (mkF f 17408) (mkF f 17408).lows (mkF f 17408).mids am cm al cl) := Lib.hid (by rw [← hq]; exact HMk.out)
      have HJ8 : Hid (J 1114112 wr) := Lib.hid (by rw [← hr2]; exact HJr.out)
      clear hr2 hq
      have c0 := HM8.out.c_t
      go_wp2
      go_ret
      exact ⟨g, rfl, by rw [← HG.out]; exact Nat.le_refl _, ⟨am, cm, al, cl, HM8.out⟩, HJ8.out⟩
end Go.Proofs.Ytabbabkmojaoaaa.VS

/-
  The trie that was made: its memory, its numbers, what it gives (string).
-/
namespace Go.Proofs.Ytabbabkmojaoaaa.VS
open Go.RowKit

theorem inv8 (f : Nat → El) : ∀ k, k ≤ 17408 → InvT (blkF f) k (mkF f k) := by
  intro k
  induction k with
  | zero => intro _; exact InvT.zero _ _ rfl rfl rfl
  | succ k ih =>
    intro hk
    obtain ⟨h1, h2, -⟩ := mkF_ok f k
    exact (ih (by omega)).next h1 h2 (blkF_length f k) (by omega)
/-- S is what 'Fill' has made of f -/
structure Made8 (f : Nat → El) (S : MkS El) : Prop where
  made : MadeT (blkF f) S
  ml : S.mids.length ≤ 272
  ll : S.lows.length ≤ 17408
  eq : ∃ K, K = 17408 ∧ S = mkF f K
theorem made8 (f : Nat → El) : ∀ K, K = 17408 → Made8 f (mkF f K) := fun K hK => by
  obtain ⟨hw, -, hl, hm⟩ := mkF_ok f K
  refine ⟨⟨?_, hw⟩, by omega, by omega, K, hK, rfl⟩
  have := inv8 f K (by omega)
  subst hK
  exact this
def trieS (S : MkS El) : TrieD El := ⟨S.top, S.mids, S.lows⟩
theorem trieS_at {f : Nat → El} {S : MkS El} (hM : Made8 f S) {w : World} {g : Nat} {am : Option Addr} {cm : Nat} {al : Option Addr} {cl : Nat}
    (h : MkAt val8 1 129 138 120 122 w g S S.lows S.mids am cm al cl) : TrieAt val8 138 64 w g (trieS S) := by
  refine ⟨am, cm, al, cl, h.tr, ?_, ?_⟩
  · exact blocks_of_row h.rm (fun l hl => by rw [blkC_length (sz := 1) (fun _ => rfl), hM.made.ok.mid l hl])
  · exact blocks_of_row h.rl (fun l hl => by rw [blkC_length (sz := 1) (fun _ => rfl), hM.made.ok.low l hl])
theorem Made8.trie {f : Nat → El} {S : MkS El} (hM : Made8 f S) : TrieOk (trieS S) := by
  refine ⟨hM.made.ok.top, hM.made.ok.mid, hM.made.ok.low, fun k hk => ?_, fun m hm k hk => ?_, hM.ml, hM.ll⟩
  · obtain ⟨c, hc, rfl⟩ := List.mem_iff_getElem.1 hk
    have hc2 : c < 272 := by have := hM.made.ok.top; unfold trieS at hc; simp only at hc; omega
    obtain ⟨i, m, h1, h2, -⟩ := hM.made.inv.tp c (by omega)
    rw [show S.top[c]? = some ((trieS S).top[c]) from List.getElem?_eq_getElem hc] at h1
    have e := Option.some.inj h1
    rw [e]
    exact (List.getElem?_eq_some_iff.1 h2).1
  · obtain ⟨c, -, hr⟩ := hM.made.inv.md m hm
    exact hr.lt (hM.made.ok.mid m hm) k hk
theorem Made8.pos {f : Nat → El} {S : MkS El} (hM : Made8 f S) : 0 < S.lows.length ∧ 0 < S.mids.length := by
  have h1 := hM.made.inv.hl 0 (by omega)
  obtain ⟨i, m, -, h2, -⟩ := hM.made.inv.tp 0 (by omega)
  exact ⟨List.length_pos_of_mem h1, List.length_pos_of_mem (List.mem_of_getElem? h2)⟩
theorem Made8.look {f : Nat → El} {S : MkS El} (hM : Made8 f S) (r : Nat) (hr : r ≤ 1114111) : lookT (ByteArray.empty : El) (trieS S) r = f r := by
  obtain ⟨i, m, h1, h2, h3⟩ := hM.made.inv.tp (r / 4096) (by omega)
  obtain ⟨j, h4, h5⟩ := h3 (r / 64 % 64) (by omega)
  unfold lookT trieS
  simp only
  have e1 : S.top.getD (r / 4096) 0 = i := by rw [List.getD_eq_getElem?_getD, h1]; rfl
  have e2 : S.mids.getD i [] = m := by rw [List.getD_eq_getElem?_getD, h2]; rfl
  have e3 : m.getD (r / 64 % 64) 0 = j := by rw [List.getD_eq_getElem?_getD, h4]; rfl
  have e4 : S.lows.getD j [] = blkF f (64 * (r / 4096) + r / 64 % 64) := by rw [List.getD_eq_getElem?_getD, h5]; rfl
  rw [e1, e2, e3, e4]
  unfold blkF
  rw [List.getD_eq_getElem?_getD, List.getElem?_map, List.getElem?_range (by omega)]
  simp only [Option.map_some, Option.getD_some]
  congr 1
  omega
end Go.Proofs.Ytabbabkmojaoaaa.VS

/-
  The walk of 'Map' from numbers of eight bits (string).
-/
namespace Go.Proofs.Ytabbabkmojaoaaa.VS
open Go.RowKit

theorem run_index_low (cs : Array Value) (c : Nat) (v : Value) (hc : c < 64) (hv : cs[c]? = some v) (w : World) : (Instr.index 119 (.agg cs) (.int .i64 (c : Nat))).run Try.prog w = .ok v w := by
  have h1 : (isAgg 5).run Try.prog w = .ok false w := by kernel_rfl
  have h2 : (sizeOf 5).run Try.prog w = .ok 1 w := by kernel_rfl
  have h3 : (c : Int) < 64 := by omega
  simp [Instr.index, run_underlying Try.underlying119, asIntOf, h3, part, h1, h2, hv]
  omega
/-- between two rounds: the row of turned blocks -/
def MaT (w : World) (h : Int → El) (L : List (List Int)) (nl : Nat) (i sl : Value) (wr : World) : Prop :=
  ∃ (j : Nat) (a : Option Addr) (c : Nat), j ≤ nl ∧ i = .int .i64 (j : Nat) ∧ sl = .slice a j c ∧ wr.ownsRow w.heap.size 122 64 (.slice a j c) j ((L.take j).flatMap (fun l => blkC val8 (l.map h))) ∧ Below w.heap.size w wr
def MaI (W : World) (h : Int → El) (l : List Int) (bc : Nat) (i : Value) (wr : World) : Prop :=
  ∃ (q : Nat) (cs : List El), q ≤ 64 ∧ i = .int .i64 (q : Nat) ∧ cs.length = 64 ∧ (∀ p, p < q → cs[p]? = (l[p]?).map h) ∧ wr.heap[bc]? = some (.cells (blkC val8 cs).toArray 122 (0, 0)) ∧ Below bc W wr
def MaO (w1 : World) (f : Nat → El) (v : Value) (wr : World) : Prop :=
  ∃ (c : Nat) (am : Option Addr) (cm : Nat) (al : Option Addr) (cl : Nat), c ≤ 272 ∧ v = .int .i64 (c : Nat) ∧ Below w1.heap.size w1 wr ∧
    MkAt val8 1 129 138 120 122 wr w1.heap.size (mkF f (64 * c)) (mkF f (64 * c)).lows (mkF f (64 * c)).mids am cm al cl
def MaP (w1 : World) (f : Nat → El) (c : Nat) (v : Value) (wr : World) : Prop :=
  ∃ (j : Nat) (am : Option Addr) (cm : Nat) (al : Option Addr) (cl : Nat), j ≤ 64 ∧ v = .int .i64 (j : Nat) ∧ Below w1.heap.size w1 wr ∧
    MkAt val8 1 129 138 120 122 wr w1.heap.size (mkF f (64 * c + j)) (mkF f (64 * c + j)).lows (mkF f (64 * c + j)).mids am cm al cl
theorem take_map {β γ : Type} (L : List β) (f : β → List γ) (j : Nat) (hj : j < L.length) : (L.take (j + 1)).flatMap f = (L.take j).flatMap f ++ f L[j] := by
  rw [List.take_succ_eq_append_getElem hj, List.flatMap_append]
  simp
theorem lowAt_map (h : Int → El) (T : TrieD Int) (hk : TrieOk T) (k : Nat) (hk2 : k < 17408) : (lowAt T k).map h = blkF (fun r => h (lookT 0 T r)) k := by
  apply List.ext_getElem?
  intro j
  unfold blkF
  rw [List.getElem?_map, List.getElem?_map]
  by_cases hj : j < 64
  · rw [List.getElem?_range hj, List.getElem?_eq_getElem (by rw [lowAt_length hk k hk2]; exact hj)]
    simp only [Option.map_some]
    rw [← lowAt_look 0 T k j hj]
    simp [List.getD_eq_getElem?_getD, lowAt_length hk k hk2, hj]
  · rw [List.getElem?_eq_none (by rw [lowAt_length hk k hk2]; omega), List.getElem?_eq_none (by simp; omega)]
    rfl

set_option maxRecDepth 100000 in
set_option maxHeartbeats 1600000 in
theorem Map_walk (w : World) (g : Nat) (T : TrieD Int) (hk : TrieOk T) (h0 : 0 < T.low.length) (ht : TrieAt Go.Proofs.Ytabbabkmojaoaaa.val8 114 64 w g T) (cf : Nat) (lb : Array Value) (h : Int → El) (eg : ∀ args W, (callFunc cf args).run Try.prog W = .ok (.enter cf args) W)
    (hcall : ∀ v W, (∃ l ∈ T.low, v ∈ l) → Below w.heap.size w W → Calls Try.prog cf (#[.int .u8 v] ++ lb) W fun e W' => e = .returned (val8 (h v)) ∧ Below W.heap.size W W') :
    Calls Try.prog 22 #[.pointer (some ⟨g, 0, none⟩), .func (.func cf) #[] lb] w fun e w' => ∃ g' S, e = .returned (.pointer (some ⟨g', 0, none⟩)) ∧ w.heap.size ≤ g' ∧ Below w.heap.size w w' ∧
      Made8 (fun r => h (lookT 0 T r)) S ∧ TrieAt val8 138 64 w' g' (trieS S) := by
  have HCl := Lib.hid hcall; clear hcall
  have HEg := Lib.hid eg; clear eg
  have HK := Lib.hid hk; clear hk
  have HT0 := Lib.hid ht
  have HTh := Lib.hid (there8_walk w g T HK.out h0 ht)
  obtain ⟨am, cm, al, cl, hh1, hh2, hh3⟩ := ht
  have HG1 := Lib.hid hh1; have HG2 := Lib.hid hh2; have HG3 := Lib.hid hh3
  have c2 := TrieAt.cell_low (val := Go.Proofs.Ytabbabkmojaoaaa.val8) HK.out hh1
  obtain ⟨bl, ol, rfl⟩ := hh3.some h0
  clear hh1 hh2 hh3
  have hll := HK.out.lowL
  have qF := fun (w : World) (cs : Array Value) => run_eql_func_nil (P := Try.prog) w 40 (.func cf) #[] cs _ _ _ Try.underlying40
  obtain ⟨nl, hnl⟩ : ∃ nl, nl = T.low.length := ⟨_, rfl⟩
  rw [← hnl] at c2 hll h0
  have HNl := Lib.hid hnl; clear hnl
  go_enter Try.func22, Try.ntmps22
  go_wp2_with fail
  refine HTh.out.mono ?_
  rintro e w1 ⟨rfl, rfl⟩
  go_wp2
  go_loopw [28, 5] (MaT w h T.low nl) (fun i _ _ => nl - (intOf i).toNat)
  case atStart => exact ⟨0, none, 0, Nat.zero_le _, rfl, rfl, World.ownsRow_nil _ _ _ _, Below.refl _ _⟩
  case round =>
    obtain ⟨j, a, c, hj, rfl, rfl, hown, hbel⟩ := hrel
    have HOw := Lib.hid hown; clear hown
    have HBe := Lib.hid hbel; clear hbel
    by_cases hjn : j < nl
    · have hji : (j : Int) < (nl : Int) := by omega
      have hjl : j < T.low.length := by rw [← HNl.out]; exact hjn
      have HR : Hid (wr.rangeAt bl (ol + j * 64) (blkC Go.Proofs.Ytabbabkmojaoaaa.val8 T.low[j])) := Lib.hid (rangeAt_below (HG3.out.get j hjl) HBe.out (Nat.le_refl _))
      have hll64 : (T.low[j]).length = 64 := HK.out.low _ (List.getElem_mem hjl)
      have HMem : Hid (∀ v ∈ T.low[j], ∃ l ∈ T.low, v ∈ l) := Lib.hid (fun v hv => ⟨_, List.getElem_mem hjl, hv⟩)
      have HTk := Lib.hid (take_map T.low (fun l => blkC val8 (l.map h)) j hjl)
      generalize T.low[j] = l at *
      have hbs : (blkC Go.Proofs.Ytabbabkmojaoaaa.val8 l).length = 64 := by rw [blkC_length (sz := 1) (fun _ => rfl), hll64]
      go_upto_region 6 with (fail)
      refine wp_region_list ?_
      refine wpList_val (v := .pointer (some ⟨bl, ol + j * 64, none⟩)) (w' := wr) rfl (by go_simp) ?_
      refine wpList_load_mid rfl 119 (.tmp 30) rfl bl (ol + j * 64) rfl (blkC Go.Proofs.Ytabbabkmojaoaaa.val8 l) (.array 64 5) HR.out Try.underlying119 rfl (by rw [hbs]; kernel_rfl) ?_
      refine wpList_val (v := .pointer (some ⟨wr.heap.size, 0, none⟩)) (w' := wr.alloc (.cells (blkC Go.Proofs.Ytabbabkmojaoaaa.val8 (List.replicate 64 0)).toArray 119)) rfl (by kernel_rfl) ?_
      obtain ⟨b7, hb7⟩ : ∃ b7, b7 = wr.heap.size := ⟨_, rfl⟩
      have hA1 := heap_alloc_new wr (.cells (blkC Go.Proofs.Ytabbabkmojaoaaa.val8 (List.replicate 64 0)).toArray 119)
      have hB1 : Below wr.heap.size wr (wr.alloc (.cells (blkC Go.Proofs.Ytabbabkmojaoaaa.val8 (List.replicate 64 0)).toArray 119)) := (Below.refl _ _).alloc (Nat.le_refl _) _
      have hz1 := World.size_alloc wr (.cells (blkC Go.Proofs.Ytabbabkmojaoaaa.val8 (List.replicate 64 0)).toArray 119)
      rw [← hb7] at hA1 hB1 hz1 ⊢
      generalize wr.alloc (.cells (blkC Go.Proofs.Ytabbabkmojaoaaa.val8 (List.replicate 64 0)).toArray 119) = v1 at *
      refine wpList_store_row rfl 119 (.tmp 7) (.tmp 31) rfl b7 (blkC Go.Proofs.Ytabbabkmojaoaaa.val8 l).toArray rfl rfl 119 _ hA1 (by rw [List.size_toArray, hbs]; kernel_rfl) (by rw [List.size_toArray, List.size_toArray, hbs, blkC_length (sz := 1) (fun _ => rfl)]; rfl) (by rw [Go.Proofs.Ytabbabkmojaoaaa.blkC8_map]; exact all_oneCell_toArray (Go.Proofs.Ytabbabkmojaoaaa.val8_one _)) ?_
      have hA2 := setRow_heap v1 b7 _ (blkC Go.Proofs.Ytabbabkmojaoaaa.val8 l).toArray _ _ hA1
      have hB2 : Below b7 wr (v1.setRow b7 (blkC Go.Proofs.Ytabbabkmojaoaaa.val8 l).toArray) := ⟨hB1.os, hB1.tape, hB1.output, by rw [setRow_size]; exact hB1.size, fun k hk => by rw [setRow_other v1 b7 k _ (by omega)]; exact hB1.block k hk⟩
      have hz2 : (v1.setRow b7 (blkC Go.Proofs.Ytabbabkmojaoaaa.val8 l).toArray).heap.size = b7 + 1 := by rw [setRow_size]; exact hz1
      generalize v1.setRow b7 (blkC Go.Proofs.Ytabbabkmojaoaaa.val8 l).toArray = v2 at *
      have HB7 := Lib.hid hb7
      clear hA1 hB1 hz1 HR hb7
      go_upto_region 8 with (fail)
      change Code.wp _ _ _ _ (v2.alloc (.cells (blkC val8 (List.replicate 64 (ByteArray.empty : El))).toArray 122))
      have hA3 := heap_alloc_new v2 (.cells (blkC val8 (List.replicate 64 (ByteArray.empty : El))).toArray 122)
      have hB3 : Below v2.heap.size v2 (v2.alloc (.cells (blkC val8 (List.replicate 64 (ByteArray.empty : El))).toArray 122)) := (Below.refl _ _).alloc (Nat.le_refl _) _
      have hz3 := World.size_alloc v2 (.cells (blkC val8 (List.replicate 64 (ByteArray.empty : El))).toArray 122)
      generalize v2.alloc (.cells (blkC val8 (List.replicate 64 (ByteArray.empty : El))).toArray 122) = v3 at *
      rw [hz2] at hA3 hB3 hz3
      have hA7 : v3.heap[b7]? = some (.cells (blkC Go.Proofs.Ytabbabkmojaoaaa.val8 l).toArray 119 (0, 0)) := (hB3.block b7 (by omega)).trans hA2
      have HR7 : Hid (v3.rangeAt b7 0 (blkC Go.Proofs.Ytabbabkmojaoaaa.val8 l)) := Lib.hid (by
        have := World.rangeAt_of_block hA7 0 (blkC Go.Proofs.Ytabbabkmojaoaaa.val8 l).length
        simpa using this)
      have HC3 := Lib.hid hA3
      have HB3 : Hid (Below b7 wr v3) := Lib.hid (hB2.trans (hB3.mono (by omega)))
      have HBw3 : Hid (Below w.heap.size w v3) := Lib.hid (HBe.out.trans (HB3.out.mono (by rw [HB7.out]; exact HBe.out.size)))
      have HOw3 : Hid (v3.ownsRow w.heap.size 122 64 (.slice a j c) j ((T.low.take j).flatMap (fun l => blkC val8 (l.map h)))) := Lib.hid (HOw.out.kept (row := none) ⟨HB3.out.os, HB3.out.tape, HB3.out.output, HB3.out.size, fun k hk _ => HB3.out.block k (by rw [HB7.out]; exact hk)⟩ (by cases e : (Value.slice a j c).ownBlock <;> simp))
      have HZ3 := Lib.hid hz3
      have HOlt : Hid (∀ k, (Value.slice a j c).ownBlock = some k → k < b7) := Lib.hid (fun k e => by rw [HB7.out]; exact (World.ownsRow.lt HOw.out k e).2)
      have hwb : w.heap.size ≤ b7 := by rw [HB7.out]; exact HBe.out.size
      clear hA2 hB2 hA3 hB3 hA7 hz2 hz3 v1 v2 HOw HBe
      refine wp_region_list ?_
      refine wpList_load_mid rfl 119 (.tmp 7) rfl b7 0 rfl (blkC Go.Proofs.Ytabbabkmojaoaaa.val8 l) (.array 64 5) HR7.out Try.underlying119 rfl (by rw [hbs]; kernel_rfl) ?_
      have HIx : Hid (∀ q (hq : q < l.length), (blkC Go.Proofs.Ytabbabkmojaoaaa.val8 l).toArray[q]? = some (.int .u8 (l[q]))) := Lib.hid (fun q hq => by rw [List.getElem?_toArray, blkC_get Go.Proofs.Ytabbabkmojaoaaa.val8_cells _ q hq]; rfl)
      generalize (blkC Go.Proofs.Ytabbabkmojaoaaa.val8 l).toArray = arr at *
      go_wp2
      go_loopw [33] (MaI v3 h l (b7 + 1)) (fun i _ => 64 - (intOf i).toNat)
      case atStart => exact ⟨0, List.replicate 64 ByteArray.empty, Nat.zero_le _, rfl, List.length_replicate, fun p hp => by omega, HC3.out, Below.refl _ _⟩
      case round =>
        obtain ⟨q, cs, hq, rfl, hcl, hcs, hcell, hbel⟩ := hrel
        have HCs := Lib.hid hcs; clear hcs
        have HCe := Lib.hid hcell; clear hcell
        have HBe := Lib.hid hbel; clear hbel
        have HBwr : Hid (Below w.heap.size w wr) := Lib.hid (HBw3.out.trans (HBe.out.mono (by omega)))
        by_cases hqn : q < 64
        · have hqi : (q : Int) < 64 := by omega
          have a1 := run_index_low arr q _ hqn (HIx.out q (by omega)) wr
          have HCv := Lib.hid (HCl.out (l[q]'(by omega)) wr (HMem.out _ (List.getElem_mem _)) HBwr.out)
          have HLq : Hid (l[q]? = some (l[q]'(by omega))) := Lib.hid (List.getElem?_eq_getElem _)
          generalize l[q]'(by omega) = x at *
          have heg := HEg.out
          go_wp2_with fail
          refine HCv.out.mono ?_
          rintro e w5 ⟨rfl, hb5⟩
          have hbcl : b7 + 1 < wr.heap.size := (Array.getElem?_eq_some_iff.1 HCe.out).1
          have HC5 := Lib.hid ((hb5.block (b7 + 1) hbcl).trans HCe.out)
          have HB5 : Hid (Below (b7 + 1) v3 w5) := Lib.hid (HBe.out.trans (hb5.mono (by omega)))
          obtain ⟨z1, q1⟩ : ∃ v, w5.cell? ⟨b7 + 1, q, none⟩ = some v := by
            rw [cell_of_row w5 (b7 + 1) q _ _ (0, 0) HC5.out, blkC8_map]
            exact ⟨_, by rw [List.getElem?_toArray, List.getElem?_map, List.getElem?_eq_getElem (by omega)]; rfl⟩
          have f1 := frozen_of_row w5 (b7 + 1) q _ _ HC5.out
          have HC6 : Hid ((w5.setCell ⟨b7 + 1, q, none⟩ (val8 (h x))).heap[b7 + 1]? = some (.cells (blkC val8 (cs.set q (h x))).toArray 122 (0, 0))) := Lib.hid (by
            rw [heap_setCell_same w5 (b7 + 1) q _ _ (val8 (h x)) HC5.out, blkC8_map, blkC8_map, List.map_set]
            simp)
          have HB6 : Hid (Below (b7 + 1) v3 (w5.setCell ⟨b7 + 1, q, none⟩ (val8 (h x)))) := Lib.hid (HB5.out.setCell (p := ⟨b7 + 1, q, none⟩) (Nat.le_refl _) _)
          have HCs6 : Hid (∀ p, p < q + 1 → (cs.set q (h x))[p]? = (l[p]?).map h) := Lib.hid (fun p hp => by
            by_cases e : q = p
            · subst e
              rw [List.getElem?_set_self (by omega), HLq.out]
              rfl
            · rw [List.getElem?_set_ne e]
              exact HCs.out p (by omega))
          have hcl6 : (cs.set q (h x)).length = 64 := by simpa using hcl
          clear hb5 HCv HLq
          generalize hw6 : w5.setCell ⟨b7 + 1, q, none⟩ (val8 (h x)) = w6 at *
          generalize cs.set q (h x) = cs6 at *
          generalize h x = y at *
          unfold val8 at hw6
          unfold val8
          go_wp2
          go_roundw
          case rel => exact ⟨q + 1, cs6, by omega, by go_num, hcl6, HCs6.out, HC6.out, HB6.out⟩
          case measure => simp [intOf]; omega
        · obtain rfl : q = 64 := by omega
          have hcs : cs = l.map h := by
            apply List.ext_getElem?
            intro p
            by_cases hp : p < 64
            · rw [HCs.out p hp, List.getElem?_map]
            · rw [List.getElem?_eq_none (by omega), List.getElem?_eq_none (by simp; omega)]
          have hcbs : (blkC val8 cs).length = 64 := by rw [blkC_length (sz := 1) (fun _ => rfl), hcl]
          have HRc : Hid (wr.rangeAt (b7 + 1) 0 (blkC val8 cs)) := Lib.hid (by
            have := World.rangeAt_of_block HCe.out 0 (blkC val8 cs).length
            simpa using this)
          have HOw4 : Hid (wr.ownsRow w.heap.size 122 64 (.slice a j c) j ((T.low.take j).flatMap (fun l => blkC val8 (l.map h)))) := Lib.hid (HOw3.out.kept (row := some (b7 + 1)) ⟨HBe.out.os, HBe.out.tape, HBe.out.output, HBe.out.size, fun k hk hne => HBe.out.block k (by have := HZ3.out; have : k ≠ b7 + 1 := fun e => hne (by rw [e]); omega)⟩ (by
            cases e : (Value.slice a j c).ownBlock with
            | none => exact .inl rfl
            | some k => exact .inr (fun e2 => by cases e2; have := HOlt.out _ e; omega)))
          have HCq := Lib.hid hcs; clear hcs
          have hbase : w.heap.size ≤ wr.heap.size := HBwr.out.size
          have hj2 : j < 17408 := by omega
          go_upto_region 13 with (fail)
          refine wp_region_list ?_
          refine wpList_val (v := .slice a j c) (w' := wr) rfl (by rfl) ?_
          refine wpList_load_mid rfl 122 (.tmp 8) rfl (b7 + 1) 0 rfl (blkC val8 cs) (.array 64 9) HRc.out Try.underlying122 rfl (by rw [hcbs]; kernel_rfl) ?_
          refine wpList_val (v := .slice (some ⟨wr.heap.size, 0, none⟩) 1 1) (w' := wr.alloc (.cells (blkC val8 cs).toArray 122)) rfl (by go_simp; exact congrArg (fun c => wr.alloc (.cells c 122)) (fill_all (blkC val8 cs) _ (by rw [hcbs]; rfl))) ?_
          refine wpList_appN Try.elemB8 rfl (.tmp 43) (.tmp 45) rfl HOw4.out hbase (by omega) (by omega) (blkC val8 cs).toArray (by rw [List.size_toArray, hcbs]) (fun u hu => blkC8_one cs u hu) 122 rfl rfl ?_
          intro a' c' w5 ho5 hg5 hn5
          have HOw5 : Hid (w5.ownsRow w.heap.size 122 64 (.slice a' (j + 1) c') (j + 1) ((T.low.take (j + 1)).flatMap (fun l => blkC val8 (l.map h)))) := Lib.hid (by
            rw [HTk.out, ← HCq.out]
            exact ho5)
          have HB5 : Hid (Below w.heap.size w w5) := Lib.hid (HBwr.out.trans (below_grown hg5 (fun k e => (World.ownsRow.lt HOw4.out k e).1) hbase))
          clear ho5 hg5 hn5 HCq
          go_wp2
          go_roundw
          case rel => exact ⟨j + 1, a', c', by omega, by go_num, rfl, HOw5.out, HB5.out⟩
          case measure => simp [intOf]; omega
    · obtain rfl : j = nl := by omega
      have hji : ¬ (j : Int) < (j : Int) := by omega
      obtain ⟨w2, rfl⟩ : ∃ w2, w2 = wr := ⟨_, rfl⟩
      have hjT : (T.low.map (List.map h)).length = j := by rw [List.length_map, HNl.out]
      have HTur : Hid (BlocksAt val8 64 w2 a (T.low.map (List.map h))) := Lib.hid (by
        refine blocks_of_row (B := w.heap.size) (m := 64) (E := 122) (c := c) ?_ (fun l hl => ?_)
        · rw [hjT]
          have := HOw.out
          rwa [List.take_of_length_le (by rw [HNl.out]; exact Nat.le_refl _), ← List.flatMap_map] at this
        · obtain ⟨m, hm, rfl⟩ := List.mem_map.1 hl
          rw [blkC_length (sz := 1) (fun _ => rfl), List.length_map, HK.out.low _ hm])
      obtain ⟨ba, oa, rfl⟩ := HTur.out.some (by omega)
      obtain ⟨f, hf⟩ : ∃ f : Nat → El, f = fun r => h (lookT 0 T r) := ⟨_, rfl⟩
      have HFf := Lib.hid (show ∀ k, k < 17408 → (lowAt T k).map h = blkF f k from fun k hk => by rw [hf]; exact lowAt_map h T HK.out k hk)
      have HFe := Lib.hid hf; clear hf
      have HT2 := Lib.hid (HT0.out.below HBe.out (Nat.le_refl _))
      have HBw2 := Lib.hid HBe.out
      clear HCl HOw HBe HG1 HG2 HG3 HT0 HTh c2
      go_wp2_with fail
      refine (begin8_walk w2).mono ?_
      rintro e w3 ⟨rfl, hm, hb⟩
      have HM3 := Lib.hid hm
      have HB3 := Lib.hid hb; clear hm hb
      obtain ⟨am1, cm1, al1, cl1, hh1, hh2, hh3⟩ := HT2.out
      have HG1 := Lib.hid hh1; have HG2 := Lib.hid hh2
      clear hh1 hh2 hh3
      have hh1 := (HB3.out.block g (Array.getElem?_eq_some_iff.1 HG1.out).1).trans HG1.out
      have HR0 : Hid (w3.rangeAt g 0 (blkC num16 T.top)) := Lib.hid (by
        intro j v hv
        have hjl : j < T.top.length := by
          have := (List.getElem?_eq_some_iff.1 hv).1
          rw [blkC_length (sz := 1) (fun _ => rfl)] at this
          omega
        rw [Nat.zero_add, TrieAt.cell_top (val := Go.Proofs.Ytabbabkmojaoaaa.val8) HK.out hh1 j (by rw [← HK.out.top]; exact hjl), getD_at (d := 0) hjl, ← hv, blkC_get num16_cells _ j hjl])
      have hts : (blkC num16 T.top).length = 272 := by rw [blkC_length (sz := 1) (fun _ => rfl), HK.out.top]
      clear hh1
      have hh16 : w2.heap.size + 3 < w3.heap.size := by have := HM3.out.lt; omega
      go_upto_region 16 with (fail)
      refine wp_region_list ?_
      refine wpList_val (v := .pointer (some ⟨g, 0, none⟩)) (w' := w3) rfl (by rfl) ?_
      refine wpList_val (v := .pointer (some ⟨g, 0, none⟩)) (w' := w3) rfl (by rfl) ?_
      refine wpList_val (v := .pointer (some ⟨g, 0, none⟩)) (w' := w3) rfl (by go_simp) ?_
      refine wpList_load_mid rfl 110 (.tmp 51) rfl g 0 rfl (blkC num16 T.top) (.array 272 91) HR0.out Try.underlying110 rfl (by rw [hts]; kernel_rfl) ?_
      have HTop : Hid (∀ c, c < 272 → (blkC num16 T.top).toArray[c]? = some (num16 (T.top.getD c 0))) := Lib.hid (fun c hc => by
        have hcl : c < T.top.length := by rw [HK.out.top]; exact hc
        rw [List.getElem?_toArray, blkC_get num16_cells _ c hcl, getD_at (d := 0) hcl])
      generalize (blkC num16 T.top).toArray = top at *
      clear hts HR0
      go_wp2
      go_loopw [53] (MaO w2 f) (fun i _ => 272 - (intOf i).toNat)
      case atStart => exact ⟨0, none, 0, none, 0, Nat.zero_le _, rfl, HB3.out, HM3.out⟩
      case round =>
        obtain ⟨c4, am4, cm4, al4, cl4, hc4, rfl, hbel, hmk⟩ := hrel
        have HBe := Lib.hid hbel; clear hbel
        have HMk := Lib.hid hmk; clear hmk
        by_cases hcn : c4 < 272
        · have hci : (c4 : Int) < 272 := by omega
          have a1 := run_index_top top c4 _ hcn (HTop.out c4 hcn) wr
          have htl : c4 < T.top.length := by rw [HK.out.top]; exact hcn
          have hil : T.top.getD c4 0 < T.mid.length := by rw [getD_at (d := 0) htl]; exact HK.out.topN _ (List.getElem_mem htl)
          obtain ⟨i, hi⟩ : ∃ i, i = T.top.getD c4 0 := ⟨_, rfl⟩
          rw [← hi] at a1 hil
          have HI := Lib.hid hi; clear hi
          have c1 := TrieAt.cell_mid (val := Go.Proofs.Ytabbabkmojaoaaa.val8) HK.out ((HBe.out.block g (by have := (Array.getElem?_eq_some_iff.1 HG1.out).1; omega)).trans HG1.out)
          obtain ⟨bm, om, rfl⟩ := HG2.out.some (by omega)
          have HR := Lib.hid (rangeAt_below (HG2.out.get i hil) HBe.out (Nat.le_refl _))
          have hml : (T.mid[i]).length = 64 := HK.out.mid _ (List.getElem_mem hil)
          have hms : (blkC num16 T.mid[i]).length = 64 := by rw [blkC_length (sz := 1) (fun _ => rfl), hml]
          have hnm : T.mid.length ≤ 272 := HK.out.midL
          have HMid : Hid (∀ j, j < 64 → (blkC num16 T.mid[i]).toArray[j]? = some (num16 ((T.mid.getD i []).getD j 0))) := Lib.hid (fun j hj => by
            rw [List.getElem?_toArray, blkC_get num16_cells _ j (by omega), getD_at (d := []) hil, getD_at (d := 0) (by omega)])
          unfold num16 at a1
          have g1 : (0 : Int) ≤ (i : Int) := by omega
          have g2 : (i : Int) < ((T.mid.length : Nat) : Int) := by omega
          generalize hnn : T.mid.length = nm at c1 g2 hnm
          clear hnn
          go_upto_region 19 with (fail)
          refine wp_region_list ?_
          refine wpList_val (v := .pointer (some ⟨g, 0, none⟩)) (w' := wr) rfl (by rfl) ?_
          refine wpList_val (v := .pointer (some ⟨g, 0, none⟩)) (w' := wr) rfl (by rfl) ?_
          refine wpList_val (v := .pointer (some ⟨g, 272, none⟩)) (w' := wr) rfl (by go_simp) ?_
          refine wpList_val (v := .slice (some ⟨bm, om, none⟩) nm cm1) (w' := wr) rfl (by go_simp) ?_
          refine wpList_val (v := .int .u16 (i : Nat)) (w' := wr) rfl (by rfl) ?_
          refine wpList_val (v := .pointer (some ⟨bm, om + i * 64, none⟩)) (w' := wr) rfl (by go_simp) ?_
          refine wpList_load_mid rfl 120 (.tmp 61) rfl bm (om + i * 64) rfl (blkC num16 T.mid[i]) (.array 64 91) HR.out Try.underlying120 rfl (by rw [hms]; kernel_rfl) ?_
          generalize (blkC num16 T.mid[i]).toArray = mid at *
          clear hms HR c1 g1 g2 hnm a1
          go_wp2
          go_loopw [63] (MaP w2 f c4) (fun i _ => 64 - (intOf i).toNat)
          case atStart => exact ⟨0, am4, cm4, al4, cl4, Nat.zero_le _, rfl, HBe.out, HMk.out⟩
          case round =>
            obtain ⟨k, am5, cm5, al5, cl5, hk, rfl, hbel, hmk⟩ := hrel
            have HBe5 := Lib.hid hbel; clear hbel
            have HMk5 := Lib.hid hmk; clear hmk
            by_cases hkn : k < 64
            · have hki : (k : Int) < 64 := by omega
              have b1 := run_index_mid mid k _ hkn (HMid.out k hkn) wr
              have hkk : 64 * c4 + k < 17408 := by omega
              have hLow : lowAt T (64 * c4 + k) = T.low.getD ((T.mid.getD i []).getD k 0) [] := by
                unfold lowAt
                rw [show (64 * c4 + k) / 64 = c4 by omega, show (64 * c4 + k) % 64 = k by omega, ← HI.out]
              have hmj : k < (T.mid[i]).length := by rw [hml]; exact hkn
              have hll2 : (T.mid.getD i []).getD k 0 < T.low.length := by
                rw [getD_at (d := []) hil, getD_at (d := 0) hmj]
                exact HK.out.midN _ (List.getElem_mem hil) _ (List.getElem_mem hmj)
              obtain ⟨q, hq⟩ : ∃ q, q = (T.mid.getD i []).getD k 0 := ⟨_, rfl⟩
              rw [← hq] at b1 hLow hll2
              have hqT : q < (T.low.map (List.map h)).length := by rw [List.length_map]; exact hll2
              have HRl : Hid (wr.rangeAt ba (oa + q * 64) (blkC val8 (blkF f (64 * c4 + k)))) := Lib.hid (by
                rw [← HFf.out _ hkk, hLow, getD_at (d := []) hll2]
                have := HTur.out.get q hqT
                rw [List.getElem_map] at this
                exact rangeAt_below this HBe5.out (Nat.le_refl _))
              have hbF : (blkC val8 (blkF f (64 * c4 + k))).length = 64 := by rw [blkC_length (sz := 1) (fun _ => rfl), blkF_length]
              have hqj : q < j := by rw [HNl.out]; exact hll2
              clear hq hLow
              unfold num16 at b1
              have g3 : (0 : Int) ≤ (q : Int) := by omega
              have g4 : (q : Int) < (j : Int) := by omega
              obtain ⟨hk1, hk2, hk3, hk4⟩ := mkF_ok f (64 * c4 + k)
              have HKf := Lib.hid hk1; clear hk1
              go_upto_region 22 with (fail)
              refine wp_region_list ?_
              refine wpList_val (v := .pointer (some ⟨w2.heap.size + 3, 0, none⟩)) (w' := wr) rfl (by rfl) ?_
              refine wpList_val (v := .slice (some ⟨ba, oa, none⟩) j c) (w' := wr) rfl (by rfl) ?_
              refine wpList_val (v := .int .u16 (q : Nat)) (w' := wr) rfl (by rfl) ?_
              refine wpList_val (v := .pointer (some ⟨ba, oa + q * 64, none⟩)) (w' := wr) rfl (by go_simp) ?_
              refine wpList_load_mid rfl 122 (.tmp 69) rfl ba (oa + q * 64) rfl (blkC val8 (blkF f (64 * c4 + k))) (.array 64 9) HRl.out Try.underlying122 rfl (by rw [hbF]; kernel_rfl) ?_
              go_wp2_with fail
              refine (add8_walk wr w2.heap.size (mkF f (64 * c4 + k)) (blkF f (64 * c4 + k)) am5 cm5 al5 cl5 HKf.out (blkF_length _ _) (by omega) (by omega) (by omega) HMk5.out).mono ?_
              rintro e w7 ⟨rfl, am', cm', al', cl', hm7, ha7⟩
              have hB7 := ha7.to_below (fun k' e => by rw [← ob_eq am5 (mkF f (64 * c4 + k)).mids.length cm5] at e; have := (World.ownsRow.lt HMk5.out.rm k' e).1; omega) (fun k' e => by rw [← ob_eq al5 (mkF f (64 * c4 + k)).lows.length cl5] at e; have := (World.ownsRow.lt HMk5.out.rl k' e).1; omega) HBe5.out.size
              have HM7 := Lib.hid hm7
              have HB7 := Lib.hid (HBe5.out.trans hB7)
              clear hm7 ha7 hB7 hk2 hk3 hk4
              go_wp2
              go_roundw
              case rel => exact ⟨k + 1, am', cm', al', cl', by omega, by go_num, HB7.out, HM7.out⟩
              case measure => simp [intOf]; omega
            · obtain rfl : k = 64 := by omega
              have HM6 : Hid (MkAt val8 1 129 138 120 122 wr w2.heap.size (mkF f (64 * (c4 + 1))) (mkF f (64 * (c4 + 1))).lows (mkF f (64 * (c4 + 1))).mids am5 cm5 al5 cl5) := Lib.hid HMk5.out
              go_wp2
              go_roundw
              case rel => exact ⟨c4 + 1, am5, cm5, al5, cl5, by omega, by go_num, HBe5.out, HM6.out⟩
              case measure => simp [intOf]; omega
        · obtain rfl : c4 = 272 := by omega
          have HM8 : Hid (MkAt val8 1 129 138 120 122 wr w2.heap.size (mkF f 17408) (mkF f 17408).lows (mkF f 17408).mids am4 cm4 al4 cl4) := Lib.hid HMk.out
          have c0 := HM8.out.c_t
          go_wp2
          go_ret
          have hM := made8 f 17408 rfl
          have hm8 := HM8.out
          generalize mkF f 17408 = S at *
          exact ⟨_, S, rfl, HBw2.out.size, HBw2.out.trans (HBe.out.mono HBw2.out.size), HFe.out ▸ hM, trieS_at hM hm8⟩
end Go.Proofs.Ytabbabkmojaoaaa.VS

/-
  The walk of 'Same' (string).
-/
namespace Go.Proofs.Ytabbabkmojaoaaa.VS
open Go.RowKit

theorem there_walk (w : World) (g : Nat) (T : TrieD El) (hk : TrieOk T) (h0 : 0 < T.low.length) (h : TrieAt val8 138 64 w g T) :
    Calls Try.prog 68 #[.pointer (some ⟨g, 0, none⟩)] w fun e w' => e = .returned (.bool true) ∧ w = w' := by
  obtain ⟨am, cm, al, cl, h1, h2, h3⟩ := h
  have c2 := TrieAt.cell_low (val := val8) hk h1
  have h0i : (0 : Int) < (T.low.length : Int) := by omega
  have d0 : decide ((0 : Int) < (T.low.length : Int)) = true := decide_eq_true h0i
  have H1 := Lib.hid h1; clear h1
  have H2 := Lib.hid h2; clear h2
  have H3 := Lib.hid h3; clear h3
  clear hk
  generalize T.low.length = n at *
  go_enter Try.func68, Try.ntmps68
  go_wp2
  go_ret
  exact ⟨rfl, rfl⟩
theorem wpStill_bin {P : Program} {ops : Array Oper} {w : World} {Q : Act → Prop} {rest : List Oper} {o : Oper} {a : Act} (hg : o.guard = none) (bo : BinOp) (t : TypeId) (x y : Operand) (t2 : TypeId) (ho : o.op = .binOp bo t x y t2) (xv yv v : Value) (hx : a.eval x = xv) (hy : a.eval y = yv)
    (hG : (eqGuard bo t x y xv yv).run P w = .ok () w) (hr : (binOp bo t xv yv).run P w = .ok v w) (h : wpStill P ops w Q rest (a.put o.dst v)) : wpStill P ops w Q (o :: rest) a := by
  refine wpStill_val hg ?_ h
  unfold execOp
  simp only [ho, hx, hy, Sem.run_bind, Sem.run_pure, Result.andThen_ok, hG, hr]
theorem eqg_low (xs ys : Array Value) (x y : Operand) (w : World) : (eqGuard .neq 122 x y (.agg xs) (.agg ys)).run Try.prog w = .ok () w := run_eqGuard_agg w .neq 122 x y xs ys (by kernel_rfl)
theorem neq_agg {P : Program} (w : World) (t : TypeId) (xs ys : Array Value) (b : Bool) (h : (Op.equal t (.agg xs) (.agg ys)).run P w = .ok b w) : (binOp .neq t (.agg xs) (.agg ys)).run P w = .ok (.bool (!b)) w := by
  simp [binOp, h]
theorem eqL_low (l m : List El) (h : l.length = m.length) : eqL (fun a b => decide (a = b)) l m = decide (l = m) := by
  by_cases e : l = m
  · rw [(eqL_iff l m h).2 e]; simp [e]
  · cases e2 : eqL (fun a b => decide (a = b)) l m
    · simp [e]
    · exact absurd ((eqL_iff l m h).1 e2) e
theorem neq_low (l m : List El) (hl : l.length = 64) (hm : m.length = 64) (w : World) : (binOp .neq 122 (.agg (blkC val8 l).toArray) (.agg (blkC val8 m).toArray)).run Try.prog w = .ok (.bool (!decide (l = m))) w := by
  have := Try.k8.equal w l m hl hm
  rw [eqL_low l m (by omega)] at this
  exact neq_agg w _ _ _ _ this
def SaO (w : World) (T1 T2 : TrieD El) (v : Value) (wr : World) : Prop := ∃ c : Nat, c ≤ 272 ∧ v = .int .i64 (c : Nat) ∧ (∀ k, k < 64 * c → lowAt T1 k = lowAt T2 k) ∧ ∃ n, wr = w.drewN n
def SaI (w : World) (T1 T2 : TrieD El) (c : Nat) (v : Value) (wr : World) : Prop := ∃ j : Nat, j ≤ 64 ∧ v = .int .i64 (j : Nat) ∧ (∀ k, k < 64 * c + j → lowAt T1 k = lowAt T2 k) ∧ ∃ n, wr = w.drewN n
theorem same_look {T1 T2 : TrieD El} (h1 : TrieOk T1) (h2 : TrieOk T2) : (∀ k, k < 17408 → lowAt T1 k = lowAt T2 k) ↔ ∀ r, r ≤ 1114111 → lookT ByteArray.empty T1 r = lookT ByteArray.empty T2 r := by
  constructor
  · intro h r hr
    have e := h (r / 64) (by omega)
    rw [show r = 64 * (r / 64) + r % 64 by omega, ← lowAt_look ByteArray.empty T1 (r / 64) (r % 64) (by omega), ← lowAt_look ByteArray.empty T2 (r / 64) (r % 64) (by omega), e]
  · intro h k hk
    apply List.ext_getElem?
    intro j
    have l1 := lowAt_length h1 k hk
    have l2 := lowAt_length h2 k hk
    by_cases hj : j < 64
    · have := h (64 * k + j) (by omega)
      rw [← lowAt_look ByteArray.empty T1 k j hj, ← lowAt_look ByteArray.empty T2 k j hj, getD_at (by omega), getD_at (by omega)] at this
      rw [List.getElem?_eq_getElem (by omega), List.getElem?_eq_getElem (by omega), this]
    · rw [List.getElem?_eq_none (by omega), List.getElem?_eq_none (by omega)]
/-- what a trie's cells tell of middle block c -/
structure TopC (w : World) (g : Nat) (T : TrieD El) (c cm cl i bm om bl ol : Nat) : Prop where
  mid : w.cell? ⟨g, 272, none⟩ = some (.slice (some ⟨bm, om, none⟩) T.mid.length cm)
  low : w.cell? ⟨g, 273, none⟩ = some (.slice (some ⟨bl, ol, none⟩) T.low.length cl)
  top : w.cell? ⟨g, c, none⟩ = some (.int .u16 (i : Nat))
  il : i < T.mid.length
  m : ∀ j, j < 64 → ∃ q, w.cell? ⟨bm, om + i * 64 + j, none⟩ = some (.int .u16 (q : Nat)) ∧ q < T.low.length ∧ w.rangeAt bl (ol + q * 64) (blkC val8 (lowAt T (64 * c + j)))
theorem topC {w : World} {g : Nat} {T : TrieD El} (hk : TrieOk T) (h0 : 0 < T.low.length) (h : TrieAt val8 138 64 w g T) (c : Nat) (hc : c < 272) : ∃ cm cl i bm om bl ol, TopC w g T c cm cl i bm om bl ol := by
  obtain ⟨am, cm, al, cl, h1, h2, h3⟩ := h
  have ht := TrieAt.cell_top (val := val8) hk h1 c hc
  have htl : c < T.top.length := by rw [hk.top]; exact hc
  obtain ⟨i, hi⟩ : ∃ i, i = T.top.getD c 0 := ⟨_, rfl⟩
  have hil : i < T.mid.length := by
    rw [hi, getD_at (d := 0) htl]
    exact hk.topN _ (List.getElem_mem htl)
  have hml : (T.mid[i]).length = 64 := hk.mid _ (List.getElem_mem hil)
  obtain ⟨bm, om, rfl⟩ := h2.some (by omega)
  obtain ⟨bl, ol, rfl⟩ := h3.some h0
  refine ⟨cm, cl, i, bm, om, bl, ol, TrieAt.cell_mid (val := val8) hk h1, TrieAt.cell_low (val := val8) hk h1, by rw [ht, ← hi]; rfl, hil, fun j hj => ?_⟩
  have hmj : j < (T.mid[i]).length := by rw [hml]; exact hj
  have hjl : (T.mid[i]).getD j 0 < T.low.length := by
    rw [getD_at (d := 0) hmj]
    exact hk.midN _ (List.getElem_mem hil) _ (List.getElem_mem hmj)
  refine ⟨(T.mid[i]).getD j 0, ?_, hjl, ?_⟩
  · rw [h2.cell num16_cells i hil j hmj, getD_at (d := 0) hmj]
    rfl
  · have e : lowAt T (64 * c + j) = T.low[(T.mid[i]).getD j 0] := by
      unfold lowAt
      rw [show (64 * c + j) / 64 = c by omega, show (64 * c + j) % 64 = j by omega, ← hi, getD_at (d := []) hil, getD_at (d := []) hjl]
    rw [e]
    exact h3.get _ hjl

set_option maxRecDepth 100000 in
set_option maxHeartbeats 1600000 in
theorem Same_walk (w : World) (g1 g2 : Nat) (T1 T2 : TrieD El) (hk1 : TrieOk T1) (hk2 : TrieOk T2) (h01 : 0 < T1.low.length) (h02 : 0 < T2.low.length) (ht1 : TrieAt val8 138 64 w g1 T1) (ht2 : TrieAt val8 138 64 w g2 T2) :
    Calls Try.prog 25 #[.pointer (some ⟨g1, 0, none⟩), .pointer (some ⟨g2, 0, none⟩)] w fun e w' => ∃ b n, e = .returned (.bool b) ∧ w' = w.drewN n ∧ (b = true ↔ ∀ r, r ≤ 1114111 → lookT ByteArray.empty T1 r = lookT ByteArray.empty T2 r) := by
  have HTh1 := Lib.hid (there_walk w g1 T1 hk1 h01 ht1)
  have HTh2 := Lib.hid (there_walk w g2 T2 hk2 h02 ht2)
  have HC1 := Lib.hid (topC hk1 h01 ht1)
  have HC2 := Lib.hid (topC hk2 h02 ht2)
  have HS := Lib.hid (same_look hk1 hk2)
  have HL1 := Lib.hid (lowAt_length hk1)
  have HL2 := Lib.hid (lowAt_length hk2)
  have hm1 := hk1.midL
  have hm2 := hk2.midL
  have hl1 := hk1.lowL
  have hl2 := hk2.lowL
  clear ht1 ht2 hk1 hk2
  go_enter Try.func25, Try.ntmps25
  go_wp2_with fail
  refine HTh1.out.mono ?_
  rintro e w1 ⟨rfl, rfl⟩
  go_wp2_with fail
  refine HTh2.out.mono ?_
  rintro e w1 ⟨rfl, rfl⟩
  go_wp2
  go_loopw [17] (SaO w T1 T2) (fun i _ => 272 - (intOf i).toNat)
  case atStart => exact ⟨0, Nat.zero_le _, rfl, fun k hk => by omega, 0, rfl⟩
  case round =>
    obtain ⟨c, hc, rfl, hsame, q, rfl⟩ := hrel
    have HSm := Lib.hid hsame; clear hsame
    by_cases hcn : c < 272
    · have hci : (c : Int) < 272 := by omega
      obtain ⟨cm1, cl1, i1, bm1, om1, bl1, ol1, hc1⟩ := HC1.out c hcn
      obtain ⟨cm2, cl2, i2, bm2, om2, bl2, ol2, hc2⟩ := HC2.out c hcn
      have p1 : w.cell? ⟨g1, 272, none⟩ = _ := hc1.mid
      have p2 : w.cell? ⟨g1, c, none⟩ = _ := hc1.top
      have p3 : w.cell? ⟨g2, 272, none⟩ = _ := hc2.mid
      have p4 : w.cell? ⟨g2, c, none⟩ = _ := hc2.top
      have i1l := hc1.il
      have i2l := hc2.il
      have H1 := Lib.hid hc1; clear hc1
      have H2 := Lib.hid hc2; clear hc2
      generalize hnm1 : T1.mid.length = nm1 at *
      generalize hnm2 : T2.mid.length = nm2 at *
      have HN := Lib.hid (And.intro hnm1 hnm2)
      clear hnm1 hnm2
      have g1' : (0 : Int) ≤ (i1 : Int) := by omega
      have g2' : (i1 : Int) < (nm1 : Int) := by omega
      have g3' : (0 : Int) ≤ (i2 : Int) := by omega
      have g4' : (i2 : Int) < (nm2 : Int) := by omega
      have g5' : (0 : Int) ≤ (c : Int) := by omega
      go_wp2
      go_quiet (fail)
      clear p1 p2 p3 p4
      go_wp2
      go_loopw [42] (SaI w T1 T2 c) (fun i _ => 64 - (intOf i).toNat)
      case atStart => exact ⟨0, Nat.zero_le _, rfl, HSm.out, q + nq, by rw [World.drewN_drewN]⟩
      case round =>
        obtain ⟨j, hj, rfl, hsame, q, rfl⟩ := hrel
        have HSm2 := Lib.hid hsame; clear hsame
        by_cases hjn : j < 64
        · have hji : (j : Int) < 64 := by omega
          obtain ⟨k1, m1, l1, r1⟩ := H1.out.m j hjn
          obtain ⟨k2, m2, l2, r2⟩ := H2.out.m j hjn
          have p1 : (w.drewN q).cell? ⟨g1, 273, none⟩ = _ := H1.out.low
          have p3 : (w.drewN q).cell? ⟨g2, 273, none⟩ = _ := H2.out.low
          have m1 : (w.drewN q).cell? ⟨bm1, om1 + i1 * 64 + j, none⟩ = _ := m1
          have m2 : (w.drewN q).cell? ⟨bm2, om2 + i2 * 64 + j, none⟩ = _ := m2
          have r1 : (w.drewN q).rangeAt bl1 (ol1 + k1 * 64) (blkC val8 (lowAt T1 (64 * c + j))) := r1
          have r2 : (w.drewN q).rangeAt bl2 (ol2 + k2 * 64) (blkC val8 (lowAt T2 (64 * c + j))) := r2
          obtain ⟨wr, hwr⟩ : ∃ wr, wr = w.drewN q := ⟨_, rfl⟩
          rw [← hwr] at p1 p3 m1 m2 r1 r2 ⊢
          have HWr := Lib.hid hwr; clear hwr
          have e1 := HL1.out (64 * c + j) (by omega)
          have e2 := HL2.out (64 * c + j) (by omega)
          obtain ⟨b1, hb1⟩ : ∃ b1, b1 = lowAt T1 (64 * c + j) := ⟨_, rfl⟩
          obtain ⟨b2, hb2⟩ : ∃ b2, b2 = lowAt T2 (64 * c + j) := ⟨_, rfl⟩
          rw [← hb1] at e1 r1
          rw [← hb2] at e2 r2
          have hs1 : (blkC val8 b1).length = 64 := by rw [blkC_length (sz := 1) (fun _ => rfl), e1]
          have hs2 : (blkC val8 b2).length = 64 := by rw [blkC_length (sz := 1) (fun _ => rfl), e2]
          have R1 := Lib.hid r1; clear r1
          have R2 := Lib.hid r2; clear r2
          have HB := Lib.hid (And.intro hb1 hb2); clear hb1 hb2
          generalize hnl1 : T1.low.length = nl1 at *
          generalize hnl2 : T2.low.length = nl2 at *
          clear hnl1 hnl2
          have g1' : (0 : Int) ≤ (k1 : Int) := by omega
          have g2' : (k1 : Int) < (nl1 : Int) := by omega
          have g3' : (0 : Int) ≤ (k2 : Int) := by omega
          have g4' : (k2 : Int) < (nl2 : Int) := by omega
          have g5' : (0 : Int) ≤ (j : Int) := by omega
          go_upto_region 10 with (fail)
          refine wp_region_still_lit (by kernel_rfl) (by kernel_rfl) ?_
          iterate 10 still_step
          refine wpStill_load rfl 122 (.tmp 54) rfl bl1 (ol1 + k1 * 64) rfl (blkC val8 b1) _ (show (wr.drew).rangeAt bl1 (ol1 + k1 * 64) (blkC val8 b1) from R1.out) Try.underlying122 rfl (by rw [hs1]; kernel_rfl) ?_
          iterate 10 still_step
          refine wpStill_load rfl 122 (.tmp 65) rfl bl2 (ol2 + k2 * 64) rfl (blkC val8 b2) _ (show (wr.drew).rangeAt bl2 (ol2 + k2 * 64) (blkC val8 b2) from R2.out) Try.underlying122 rfl (by rw [hs2]; kernel_rfl) ?_
          refine wpStill_bin rfl .neq 122 (.tmp 55) (.tmp 66) _ rfl (.agg (blkC val8 b1).toArray) (.agg (blkC val8 b2).toArray) _ rfl rfl (eqg_low _ _ _ _ _) (neq_low b1 b2 e1 e2 _) ?_
          refine wpStill_nil ?_
          clear p1 p3 m1 m2
          by_cases hbb : b1 = b2
          · have hd : decide (b1 = b2) = true := decide_eq_true hbb
            rw [hd]
            have HSm3 : Hid (∀ k, k < 64 * c + (j + 1) → lowAt T1 k = lowAt T2 k) := Lib.hid (fun k hk => by
              by_cases e : k = 64 * c + j
              · rw [e, ← HB.out.1, ← HB.out.2, hbb]
              · exact HSm2.out k (by omega))
            clear hbb hd
            go_wp2
            go_roundw
            case rel => exact ⟨j + 1, by omega, by go_num, HSm3.out, q + 1, by rw [HWr.out]; rfl⟩
            case measure => simp [intOf]; omega
          · have hd : decide (b1 = b2) = false := decide_eq_false hbb
            rw [hd]
            have HNe : Hid (¬ ∀ r, r ≤ 1114111 → lookT ByteArray.empty T1 r = lookT ByteArray.empty T2 r) := Lib.hid (fun h => hbb (by rw [HB.out.1, HB.out.2]; exact HS.out.2 h _ (by omega)))
            clear hbb hd
            go_wp2
            go_ret
            exact ⟨false, q + 1, rfl, by rw [HWr.out]; rfl, fun h => absurd h (by simp), fun h => absurd h HNe.out⟩
        · obtain rfl : j = 64 := by omega
          have HSm3 : Hid (∀ k, k < 64 * (c + 1) → lowAt T1 k = lowAt T2 k) := Lib.hid HSm2.out
          go_wp2
          go_roundw
          case rel => exact ⟨c + 1, by omega, by go_num, HSm3.out, q, rfl⟩
          case measure => simp [intOf]; omega
    · obtain rfl : c = 272 := by omega
      have HSe := Lib.hid (HS.out.1 HSm.out)
      go_wp2
      go_ret
      exact ⟨true, q, rfl, rfl, fun _ => HSe.out, fun _ => rfl⟩
end Go.Proofs.Ytabbabkmojaoaaa.VS

/-
  Walks: is a trie there; its blocks; what it gives of a number (string).
-/
namespace Go.Proofs.Ytabbabkmojaoaaa.VS
open Go.RowKit

theorem there8_nil (w : World) : Calls Try.prog 68 #[.pointer none] w fun e w' => e = .returned (.bool false) ∧ w = w' := by
  go_enter Try.func68, Try.ntmps68
  go_wp2
  go_ret
  exact ⟨rfl, rfl⟩
theorem there8_walk (w : World) (g : Nat) (T : TrieD El) (hk : TrieOk T) (h0 : 0 < T.low.length) (h : TrieAt val8 138 64 w g T) :
    Calls Try.prog 68 #[.pointer (some ⟨g, 0, none⟩)] w fun e w' => e = .returned (.bool true) ∧ w = w' := by
  obtain ⟨am, cm, al, cl, h1, h2, h3⟩ := h
  have c2 := TrieAt.cell_low (val := val8) hk h1
  have h0i : (0 : Int) < (T.low.length : Int) := by omega
  have d0 : decide ((0 : Int) < (T.low.length : Int)) = true := decide_eq_true h0i
  have H1 := Lib.hid h1; clear h1
  have H2 := Lib.hid h2; clear h2
  have H3 := Lib.hid h3; clear h3
  clear hk
  generalize T.low.length = n at *
  go_enter Try.func68, Try.ntmps68
  go_wp2
  go_ret
  exact ⟨rfl, rfl⟩
theorem Blocks8_nil (w : World) : Calls Try.prog 84 #[.pointer none] w fun e w' => e = .returned (.tuple #[.int .i64 0, .int .i64 0]) ∧ w = w' := by
  go_enter Try.func84, Try.ntmps84
  go_wp2_with fail
  refine (there8_nil _).mono ?_
  rintro e w1 ⟨rfl, rfl⟩
  go_wp2
  go_ret2
  exact ⟨rfl, rfl⟩
theorem Blocks8_walk (w : World) (g : Nat) (T : TrieD El) (hk : TrieOk T) (h0 : 0 < T.low.length) (h : TrieAt val8 138 64 w g T) :
    Calls Try.prog 84 #[.pointer (some ⟨g, 0, none⟩)] w fun e w' => e = .returned (.tuple #[.int .i64 (T.mid.length : Nat), .int .i64 (T.low.length : Nat)]) ∧ ∃ n, w' = w.drewN n := by
  have HT := Lib.hid (there8_walk w g T hk h0 h)
  obtain ⟨am, cm, al, cl, h1, h2, h3⟩ := h
  have c2 := TrieAt.cell_low (val := val8) hk h1
  have c1 := TrieAt.cell_mid (val := val8) hk h1
  have H1 := Lib.hid h1; clear h1
  have H2 := Lib.hid h2; clear h2
  have H3 := Lib.hid h3; clear h3
  clear hk
  generalize T.low.length = n at *
  generalize T.mid.length = m at *
  go_enter Try.func84, Try.ntmps84
  go_wp2_with fail
  refine HT.out.mono ?_
  rintro e w1 ⟨rfl, rfl⟩
  clear HT
  go_wp2
  go_quiet (fail)
  go_wp2
  go_ret2
  exact ⟨rfl, _, rfl⟩

set_option maxRecDepth 100000 in
theorem At8_walk (w : World) (g : Nat) (T : TrieD El) (hk : TrieOk T) (h0 : 0 < T.low.length) (h : TrieAt val8 138 64 w g T) (r : Int) (hr1 : -2147483648 ≤ r) (hr2 : r ≤ 2147483647) :
    Calls Try.prog 82 #[.pointer (some ⟨g, 0, none⟩), .int .i32 r] w fun e w' => e = .returned (val8 (lookT (ByteArray.empty : El) T (runeR r))) ∧ ∃ n, w' = w.drewN n := by
  have HT := Lib.hid (there8_walk w g T hk h0 h)
  obtain ⟨q, hq⟩ : ∃ q : Nat, q = runeR r := ⟨_, rfl⟩
  have hql : q ≤ 1114111 := by rw [hq]; exact runeR_le r
  obtain ⟨am, cm, al, cl, i, j, c1, c2, c3, hi, hj, ⟨bm, om, rfl, c4⟩, ⟨bl, ol, rfl, c5⟩⟩ := lookC val8_cells hk h (ByteArray.empty : El) q hql
  have hml := hk.midL
  have hll := hk.lowL
  rw [← hq]
  generalize lookT (ByteArray.empty : El) T q = v at *
  clear h hk h0
  generalize T.mid.length = nm at *
  generalize T.low.length = nl at *
  have g1 : (0 : Int) ≤ (i : Int) := by omega
  have g2 : (i : Int) < (nm : Int) := by omega
  have g3 : (0 : Int) ≤ (j : Int) := by omega
  have g4 : (j : Int) < (nl : Int) := by omega
  have k1 : (0 : Int) ≤ (q : Int) / 64 := by omega
  have k2 : (0 : Int) ≤ (q : Int) / 64 / 64 := by omega
  have k3 : (q : Int) / 64 / 64 < 272 := by omega
  have k4 : (0 : Int) ≤ (q : Int) / 64 % 64 := by omega
  have k5 : (q : Int) / 64 % 64 < 64 := by omega
  have k6 : (0 : Int) ≤ (q : Int) % 64 := by omega
  have k7 : (q : Int) % 64 < 64 := by omega
  by_cases h1 : 0 ≤ r ∧ r ≤ 1114111
  · obtain ⟨h1, h2⟩ := h1
    obtain rfl : r = (q : Int) := by rw [hq]; unfold runeR; rw [if_neg (by omega)]; omega
    clear hq
    have n1 : ¬ (q : Int) < 0 := by omega
    have n2 : ¬ (1114111 : Int) < (q : Int) := by omega
    go_enter Try.func82, Try.ntmps82
    go_wp2_with fail
    refine HT.out.mono ?_
    rintro e w1 ⟨rfl, rfl⟩
    clear HT
    go_wp2
    go_quiet (fail)
    go_wp2
    go_ret
    exact ⟨rfl, _, rfl⟩
  · have hq' : q = 65533 := by rw [hq]; unfold runeR; rw [if_pos (by omega)]
    clear hq
    have HQ := Lib.hid hq'
    obtain ⟨q0, hq0⟩ : ∃ q0 : Int, q0 = 65533 := ⟨_, rfl⟩
    have hqq : (q : Int) = q0 := by rw [hq0, hq']; rfl
    by_cases h2 : r < 0
    · have n1 : decide (r < 0) = true := decide_eq_true h2
      subst hq'
      clear hq0 hqq
      go_enter Try.func82, Try.ntmps82
      go_wp2_with fail
      refine HT.out.mono ?_
      rintro e w1 ⟨rfl, rfl⟩
      clear HT
      go_wp2
      go_quiet (fail)
      go_wp2
      go_ret
      exact ⟨rfl, _, rfl⟩
    · have n1 : ¬ r < 0 := h2
      have n2 : (1114111 : Int) < r := by omega
      have d1 : decide (r < 0) = false := decide_eq_false h2
      have d2 : decide ((1114111 : Int) < r) = true := decide_eq_true n2
      subst hq'
      clear hq0 hqq
      go_enter Try.func82, Try.ntmps82
      go_wp2_with fail
      refine HT.out.mono ?_
      rintro e w1 ⟨rfl, rfl⟩
      clear HT
      go_wp2
      go_quiet (fail)
      go_wp2
      go_ret
      exact ⟨rfl, _, rfl⟩
end Go.Proofs.Ytabbabkmojaoaaa.VS
