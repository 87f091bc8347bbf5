/-
  Walks: tests of pieces; the library's search; a place in pieces; lists compared.
-/
import Derived.Test.YtkcdcgijbaepmaaW5
import Derived.Laws.StructEq
set_option linter.unusedVariables false
namespace Go.Proofs.Ytkcdcgijbaepmaa
open Go.RowKit

def wrongP (p : PD) : Prop := p.f < 0 ∨ p.t < p.f
instance (p : PD) : Decidable (wrongP p) := by unfold wrongP; infer_instance
def overP (m : Nat) (p : PD) : Prop := wrongP p ∨ (m : Int) < p.t
instance (m : Nat) (p : PD) : Decidable (overP m p) := by unfold overP; infer_instance
theorem wrong_walk (p : PD) (w : World) : Calls Try.prog 33 #[.agg #[.int .i64 p.f, .int .i64 p.t]] w fun e w' => e = .returned (.bool (decide (wrongP p))) ∧ Below w.heap.size w w' := by
  by_cases h1 : p.f < 0
  · have HR := Lib.hid (decide_eq_true (show wrongP p from .inl h1))
    rw [HR.out]
    go_enter Try.func33, Try.ntmps33
    go_wp2
    go_ret
    exact ⟨rfl, by go_grown⟩
  · by_cases h2 : p.t < p.f
    · have HR := Lib.hid (decide_eq_true (show wrongP p from .inr h2))
      rw [HR.out]
      go_enter Try.func33, Try.ntmps33
      go_wp2
      go_ret
      exact ⟨rfl, by go_grown⟩
    · have HR := Lib.hid (decide_eq_false (show ¬ wrongP p from fun h => h.elim h1 h2))
      rw [HR.out]
      go_enter Try.func33, Try.ntmps33
      go_wp2
      go_ret
      exact ⟨rfl, by go_grown⟩
theorem textOver_walk (m : Nat) (bn : Nat) (p : PD) (w : World) (hm : m ≤ 1048576) (hn : w.cell? ⟨bn, 0, none⟩ = some (.int .i64 m)) :
    Calls Try.prog 32 #[.agg #[.int .i64 p.f, .int .i64 p.t], .pointer (some ⟨bn, 0, none⟩)] w fun e w' => e = .returned (.bool (decide (overP m p))) ∧ Below w.heap.size w w' := by
  have hbn := World.block_lt_of_cell? w _ hn
  simp only at hbn
  have HAL := Lib.hid ((Below.refl w.heap.size w).alloc (Nat.le_refl _) (.cells #[.int .i64 p.f, .int .i64 p.t] 45))
  have HBX : Hid ((w.alloc (.cells #[.int .i64 p.f, .int .i64 p.t] 45)).heap[w.heap.size]? = some (.cells #[.int .i64 p.f, .int .i64 p.t] 45 (0, 0))) := Lib.hid (heap_alloc_new w _)
  by_cases h1 : wrongP p
  · have HR := Lib.hid (decide_eq_true (show overP m p from .inl h1))
    rw [HR.out]
    have HW := Lib.hid (decide_eq_true h1)
    clear h1
    go_enter Try.func32, Try.ntmps32
    go_wp2_with fail
    generalize (w.alloc (.cells #[.int .i64 p.f, .int .i64 p.t] 45)) = w1 at *
    refine (wrong_walk p w1).mono ?_
    rintro e w2 ⟨rfl, hb⟩
    have d1 : w2.cell? ⟨w.heap.size, 1, none⟩ = some (.int .i64 p.t) := by
      have hbl := hb.block _ (Array.getElem?_eq_some_iff.1 HBX.out).1
      simp [World.cell?, hbl, HBX.out]
    have dn : w2.cell? ⟨bn, 0, none⟩ = some (.int .i64 m) := by
      rw [hb.cell (p := ⟨bn, 0, none⟩) (Nat.lt_of_lt_of_le hbn HAL.out.size), HAL.out.cell (p := ⟨bn, 0, none⟩) hbn]
      exact hn
    have HB := Lib.hid (HAL.out.trans (hb.mono HAL.out.size))
    clear hb hn
    rw [HW.out]
    go_wp2
    go_ret
    exact ⟨rfl, HB.out⟩
  · have HW := Lib.hid (decide_eq_false h1)
    by_cases h2 : (m : Int) < p.t
    · have HR := Lib.hid (decide_eq_true (show overP m p from .inr h2))
      rw [HR.out]
      clear h1
      go_enter Try.func32, Try.ntmps32
      go_wp2_with fail
      generalize (w.alloc (.cells #[.int .i64 p.f, .int .i64 p.t] 45)) = w1 at *
      refine (wrong_walk p w1).mono ?_
      rintro e w2 ⟨rfl, hb⟩
      have d1 : w2.cell? ⟨w.heap.size, 1, none⟩ = some (.int .i64 p.t) := by
        have hbl := hb.block _ (Array.getElem?_eq_some_iff.1 HBX.out).1
        simp [World.cell?, hbl, HBX.out]
      have dn : w2.cell? ⟨bn, 0, none⟩ = some (.int .i64 m) := by
        rw [hb.cell (p := ⟨bn, 0, none⟩) (Nat.lt_of_lt_of_le hbn HAL.out.size), HAL.out.cell (p := ⟨bn, 0, none⟩) hbn]
        exact hn
      have HB := Lib.hid (HAL.out.trans (hb.mono HAL.out.size))
      clear hb hn
      rw [HW.out]
      go_wp2
      go_ret
      exact ⟨rfl, HB.out⟩
    · have HR := Lib.hid (decide_eq_false (show ¬ overP m p from fun h => h.elim h1 h2))
      rw [HR.out]
      have hd2 : decide ((m : Int) < p.t) = false := decide_eq_false h2
      clear h1
      go_enter Try.func32, Try.ntmps32
      go_wp2_with fail
      generalize (w.alloc (.cells #[.int .i64 p.f, .int .i64 p.t] 45)) = w1 at *
      refine (wrong_walk p w1).mono ?_
      rintro e w2 ⟨rfl, hb⟩
      have d1 : w2.cell? ⟨w.heap.size, 1, none⟩ = some (.int .i64 p.t) := by
        have hbl := hb.block _ (Array.getElem?_eq_some_iff.1 HBX.out).1
        simp [World.cell?, hbl, HBX.out]
      have dn : w2.cell? ⟨bn, 0, none⟩ = some (.int .i64 m) := by
        rw [hb.cell (p := ⟨bn, 0, none⟩) (Nat.lt_of_lt_of_le hbn HAL.out.size), HAL.out.cell (p := ⟨bn, 0, none⟩) hbn]
        exact hn
      have HB := Lib.hid (HAL.out.trans (hb.mono HAL.out.size))
      clear hb hn
      rw [HW.out]
      go_wp2
      go_ret
      exact ⟨rfl, HB.out⟩
theorem logOver_walk (m : Nat) (aO : Option Addr) (cO : Nat) (bn : Nat) (p : PD) (w : World) (hm : m ≤ 1048576) (hn : w.cell? ⟨bn, 0, none⟩ = some (.slice aO m cO)) :
    Calls Try.prog 41 #[.agg #[.int .i64 p.f, .int .i64 p.t], .pointer (some ⟨bn, 0, none⟩)] w fun e w' => e = .returned (.bool (decide (overP m p))) ∧ Below w.heap.size w w' := by
  have hbn := World.block_lt_of_cell? w _ hn
  simp only at hbn
  have HAL := Lib.hid ((Below.refl w.heap.size w).alloc (Nat.le_refl _) (.cells #[.int .i64 p.f, .int .i64 p.t] 45))
  have HBX : Hid ((w.alloc (.cells #[.int .i64 p.f, .int .i64 p.t] 45)).heap[w.heap.size]? = some (.cells #[.int .i64 p.f, .int .i64 p.t] 45 (0, 0))) := Lib.hid (heap_alloc_new w _)
  by_cases h1 : wrongP p
  · have HR := Lib.hid (decide_eq_true (show overP m p from .inl h1))
    rw [HR.out]
    have HW := Lib.hid (decide_eq_true h1)
    clear h1
    go_enter Try.func41, Try.ntmps41
    go_wp2_with fail
    generalize (w.alloc (.cells #[.int .i64 p.f, .int .i64 p.t] 45)) = w1 at *
    refine (wrong_walk p w1).mono ?_
    rintro e w2 ⟨rfl, hb⟩
    have d1 : w2.cell? ⟨w.heap.size, 1, none⟩ = some (.int .i64 p.t) := by
      have hbl := hb.block _ (Array.getElem?_eq_some_iff.1 HBX.out).1
      simp [World.cell?, hbl, HBX.out]
    have dn : w2.cell? ⟨bn, 0, none⟩ = some (.slice aO m cO) := by
      rw [hb.cell (p := ⟨bn, 0, none⟩) (Nat.lt_of_lt_of_le hbn HAL.out.size), HAL.out.cell (p := ⟨bn, 0, none⟩) hbn]
      exact hn
    have HB := Lib.hid (HAL.out.trans (hb.mono HAL.out.size))
    clear hb hn
    rw [HW.out]
    go_wp2
    go_ret
    exact ⟨rfl, HB.out⟩
  · have HW := Lib.hid (decide_eq_false h1)
    by_cases h2 : (m : Int) < p.t
    · have HR := Lib.hid (decide_eq_true (show overP m p from .inr h2))
      rw [HR.out]
      clear h1
      go_enter Try.func41, Try.ntmps41
      go_wp2_with fail
      generalize (w.alloc (.cells #[.int .i64 p.f, .int .i64 p.t] 45)) = w1 at *
      refine (wrong_walk p w1).mono ?_
      rintro e w2 ⟨rfl, hb⟩
      have d1 : w2.cell? ⟨w.heap.size, 1, none⟩ = some (.int .i64 p.t) := by
        have hbl := hb.block _ (Array.getElem?_eq_some_iff.1 HBX.out).1
        simp [World.cell?, hbl, HBX.out]
      have dn : w2.cell? ⟨bn, 0, none⟩ = some (.slice aO m cO) := by
        rw [hb.cell (p := ⟨bn, 0, none⟩) (Nat.lt_of_lt_of_le hbn HAL.out.size), HAL.out.cell (p := ⟨bn, 0, none⟩) hbn]
        exact hn
      have HB := Lib.hid (HAL.out.trans (hb.mono HAL.out.size))
      clear hb hn
      rw [HW.out]
      go_wp2
      go_ret
      exact ⟨rfl, HB.out⟩
    · have HR := Lib.hid (decide_eq_false (show ¬ overP m p from fun h => h.elim h1 h2))
      rw [HR.out]
      have hd2 : decide ((m : Int) < p.t) = false := decide_eq_false h2
      clear h1
      go_enter Try.func41, Try.ntmps41
      go_wp2_with fail
      generalize (w.alloc (.cells #[.int .i64 p.f, .int .i64 p.t] 45)) = w1 at *
      refine (wrong_walk p w1).mono ?_
      rintro e w2 ⟨rfl, hb⟩
      have d1 : w2.cell? ⟨w.heap.size, 1, none⟩ = some (.int .i64 p.t) := by
        have hbl := hb.block _ (Array.getElem?_eq_some_iff.1 HBX.out).1
        simp [World.cell?, hbl, HBX.out]
      have dn : w2.cell? ⟨bn, 0, none⟩ = some (.slice aO m cO) := by
        rw [hb.cell (p := ⟨bn, 0, none⟩) (Nat.lt_of_lt_of_le hbn HAL.out.size), HAL.out.cell (p := ⟨bn, 0, none⟩) hbn]
        exact hn
      have HB := Lib.hid (HAL.out.trans (hb.mono HAL.out.size))
      clear hb hn
      rw [HW.out]
      go_wp2
      go_ret
      exact ⟨rfl, HB.out⟩

def NoneTo_wrong (ps : List PD) (k : Nat) : Prop := ∀ j, (hj : j < k) → (hl : j < ps.length) → ¬ wrongP ps[j]
def IdxR_wrong (w : World) (n : Nat) (ps : List PD) (i : Value) (wr : World) : Prop := ∃ k : Nat, k ≤ n ∧ i = .int .i64 k ∧ NoneTo_wrong ps k ∧ Below w.heap.size w wr
def FirstAt_wrong (ps : List PD) (e : Ending) : Prop := (∃ i, ∃ h : i < ps.length, e = .returned (.int .i64 (i : Nat)) ∧ wrongP ps[i]) ∨ (e = .returned (.int .i64 (-1)) ∧ NoneTo_wrong ps ps.length)
theorem Index_wrong_walk (a : Option Addr) (n c : Nat) (ps : List PD) (w : World) (hn : ps.length = n) (hlt : n ≤ 1048576) (hc : PiecesAt w a ps) :
    Calls Try.prog 59 #[.slice a n c, .func (.func 33) #[] #[]] w fun e w' =>
      FirstAt_wrong ps e ∧ Below w.heap.size w w' := by
  have HN := Lib.hid hn; clear hn
  have HC := Lib.hid hc; clear hc
  go_enter Try.func59, Try.ntmps59
  go_wp2
  go_loopw [8] (IdxR_wrong w n ps) (fun i _ => n - (intOf i).toNat)
  case atStart => exact ⟨0, Nat.zero_le _, rfl, fun j hj => absurd hj (Nat.not_lt_zero _), Below.refl _ _⟩
  case round =>
    obtain ⟨k, hk, rfl, hall, hbel⟩ := hrel
    have HA := Lib.hid hall; clear hall
    have HB := Lib.hid hbel; clear hbel
    by_cases hkn : k < n
    · have hkl : k < ps.length := by rw [HN.out]; exact hkn
      obtain ⟨b, o, ha⟩ := HC.out.some (by omega)
      subst ha
      obtain ⟨c0, c1⟩ := (HC.out.below HB.out (Nat.le_refl _)).get k hkl
      obtain ⟨p, hp⟩ : ∃ p, p = ps[k] := ⟨_, rfl⟩
      rw [← hp] at c0 c1
      have HP := Lib.hid hp; clear hp
      have hki : (k : Int) < (n : Int) := by omega
      go_wp2_with fail
      refine (wrong_walk p wr).mono ?_
      rintro e w2 ⟨rfl, hb2⟩
      have HB2 := Lib.hid (HB.out.trans (hb2.mono HB.out.size)); clear hb2
      by_cases hd : wrongP p
      · have HD := Lib.hid hd
        rw [decide_eq_true hd]
        clear hd
        go_wp2
        go_ret
        exact ⟨.inl ⟨k, hkl, rfl, by rw [← HP.out]; exact HD.out⟩, HB2.out⟩
      · have HD := Lib.hid hd
        rw [decide_eq_false hd]
        clear hd
        go_wp2
        go_roundw
        case rel =>
          refine ⟨k + 1, by omega, by go_num, fun j hj hl => ?_, HB2.out⟩
          by_cases e : j = k
          · subst e; rw [← HP.out]; exact HD.out
          · exact HA.out j (by omega) hl
        case measure => simp [intOf]; omega
    · have HAll : Hid (NoneTo_wrong ps ps.length) := Lib.hid (fun j hj hl => HA.out j (by have := HN.out; omega) hj)
      go_wp2
      go_ret
      exact ⟨.inr ⟨rfl, HAll.out⟩, HB.out⟩
def Any_wrong (ps : List PD) : Bool := decide (∃ p ∈ ps, wrongP p)
theorem Contains_wrong_walk (a : Option Addr) (n c : Nat) (ps : List PD) (w : World) (hn : ps.length = n) (hlt : n ≤ 1048576) (hc : PiecesAt w a ps) :
    Calls Try.prog 31 #[.slice a n c, .func (.func 33) #[] #[]] w fun e w' => e = .returned (.bool (Any_wrong ps)) ∧ Below w.heap.size w w' := by
  go_enter Try.func31, Try.ntmps31
  go_wp2_with fail
  refine (Index_wrong_walk a n c ps w hn hlt hc).mono ?_
  rintro e w1 ⟨hf, hb⟩
  have HB := Lib.hid hb; clear hb
  rcases hf with ⟨i, hi, rfl, hp⟩ | ⟨rfl, hnone⟩
  · have HR : Hid (Any_wrong ps = true) := Lib.hid (decide_eq_true (show ∃ p ∈ ps, wrongP p from ⟨ps[i], List.getElem_mem hi, hp⟩))
    clear hp hi hn
    go_wp2
    go_ret
    exact ⟨by rw [HR.out]; rfl, HB.out⟩
  · have HR : Hid (Any_wrong ps = false) := Lib.hid (decide_eq_false (show ¬ ∃ p ∈ ps, wrongP p from fun ⟨p, hp, h⟩ => by
      obtain ⟨j, hj, rfl⟩ := List.mem_iff_getElem.1 hp
      exact hnone j hj hj h))
    clear hnone hn
    go_wp2
    go_ret
    exact ⟨by rw [HR.out]; rfl, HB.out⟩

def NoneTo_text (m : Nat) (ps : List PD) (k : Nat) : Prop := ∀ j, (hj : j < k) → (hl : j < ps.length) → ¬ overP m ps[j]
def IdxR_text (m : Nat) (w : World) (n : Nat) (ps : List PD) (i : Value) (wr : World) : Prop := ∃ k : Nat, k ≤ n ∧ i = .int .i64 k ∧ NoneTo_text m ps k ∧ Below w.heap.size w wr
def FirstAt_text (m : Nat) (ps : List PD) (e : Ending) : Prop := (∃ i, ∃ h : i < ps.length, e = .returned (.int .i64 (i : Nat)) ∧ overP m ps[i]) ∨ (e = .returned (.int .i64 (-1)) ∧ NoneTo_text m ps ps.length)
theorem Index_text_walk (m : Nat) (bn : Nat) (a : Option Addr) (n c : Nat) (ps : List PD) (w : World) (hn : ps.length = n) (hlt : n ≤ 1048576) (hmm : m ≤ 1048576) (hc : PiecesAt w a ps) (hcap : w.cell? ⟨bn, 0, none⟩ = some (.int .i64 m)) :
    Calls Try.prog 59 #[.slice a n c, .func (.func 32) #[] #[.pointer (some ⟨bn, 0, none⟩)]] w fun e w' =>
      FirstAt_text m ps e ∧ Below w.heap.size w w' := by
  have HN := Lib.hid hn; clear hn
  have HC := Lib.hid hc; clear hc
  have HCap := Lib.hid hcap; clear hcap
  go_enter Try.func59, Try.ntmps59
  go_wp2
  go_loopw [8] (IdxR_text m w n ps) (fun i _ => n - (intOf i).toNat)
  case atStart => exact ⟨0, Nat.zero_le _, rfl, fun j hj => absurd hj (Nat.not_lt_zero _), Below.refl _ _⟩
  case round =>
    obtain ⟨k, hk, rfl, hall, hbel⟩ := hrel
    have HA := Lib.hid hall; clear hall
    have HB := Lib.hid hbel; clear hbel
    by_cases hkn : k < n
    · have hkl : k < ps.length := by rw [HN.out]; exact hkn
      obtain ⟨b, o, ha⟩ := HC.out.some (by omega)
      subst ha
      obtain ⟨c0, c1⟩ := (HC.out.below HB.out (Nat.le_refl _)).get k hkl
      obtain ⟨p, hp⟩ : ∃ p, p = ps[k] := ⟨_, rfl⟩
      rw [← hp] at c0 c1
      have HP := Lib.hid hp; clear hp
      have hki : (k : Int) < (n : Int) := by omega
      have hcr : wr.cell? ⟨bn, 0, none⟩ = some (.int .i64 m) := by rw [HB.out.cell (p := ⟨bn, 0, none⟩) (World.block_lt_of_cell? w _ HCap.out)]; exact HCap.out
      have HCr := Lib.hid hcr; clear hcr
      go_wp2_with fail
      refine (textOver_walk m bn p wr hmm HCr.out).mono ?_
      rintro e w2 ⟨rfl, hb2⟩
      have HB2 := Lib.hid (HB.out.trans (hb2.mono HB.out.size)); clear hb2
      by_cases hd : overP m p
      · have HD := Lib.hid hd
        rw [decide_eq_true hd]
        clear hd
        go_wp2
        go_ret
        exact ⟨.inl ⟨k, hkl, rfl, by rw [← HP.out]; exact HD.out⟩, HB2.out⟩
      · have HD := Lib.hid hd
        rw [decide_eq_false hd]
        clear hd
        go_wp2
        go_roundw
        case rel =>
          refine ⟨k + 1, by omega, by go_num, fun j hj hl => ?_, HB2.out⟩
          by_cases e : j = k
          · subst e; rw [← HP.out]; exact HD.out
          · exact HA.out j (by omega) hl
        case measure => simp [intOf]; omega
    · have HAll : Hid (NoneTo_text m ps ps.length) := Lib.hid (fun j hj hl => HA.out j (by have := HN.out; omega) hj)
      go_wp2
      go_ret
      exact ⟨.inr ⟨rfl, HAll.out⟩, HB.out⟩
def Any_text (m : Nat) (ps : List PD) : Bool := decide (∃ p ∈ ps, overP m p)
theorem Contains_text_walk (m : Nat) (bn : Nat) (a : Option Addr) (n c : Nat) (ps : List PD) (w : World) (hn : ps.length = n) (hlt : n ≤ 1048576) (hmm : m ≤ 1048576) (hc : PiecesAt w a ps) (hcap : w.cell? ⟨bn, 0, none⟩ = some (.int .i64 m)) :
    Calls Try.prog 31 #[.slice a n c, .func (.func 32) #[] #[.pointer (some ⟨bn, 0, none⟩)]] w fun e w' => e = .returned (.bool (Any_text m ps)) ∧ Below w.heap.size w w' := by
  go_enter Try.func31, Try.ntmps31
  go_wp2_with fail
  refine (Index_text_walk m bn a n c ps w hn hlt hmm hc hcap).mono ?_
  rintro e w1 ⟨hf, hb⟩
  have HB := Lib.hid hb; clear hb
  rcases hf with ⟨i, hi, rfl, hp⟩ | ⟨rfl, hnone⟩
  · have HR : Hid (Any_text m ps = true) := Lib.hid (decide_eq_true (show ∃ p ∈ ps, overP m p from ⟨ps[i], List.getElem_mem hi, hp⟩))
    clear hp hi hn
    go_wp2
    go_ret
    exact ⟨by rw [HR.out]; rfl, HB.out⟩
  · have HR : Hid (Any_text m ps = false) := Lib.hid (decide_eq_false (show ¬ ∃ p ∈ ps, overP m p from fun ⟨p, hp, h⟩ => by
      obtain ⟨j, hj, rfl⟩ := List.mem_iff_getElem.1 hp
      exact hnone j hj hj h))
    clear hnone hn
    go_wp2
    go_ret
    exact ⟨by rw [HR.out]; rfl, HB.out⟩

def NoneTo_log (m : Nat) (ps : List PD) (k : Nat) : Prop := ∀ j, (hj : j < k) → (hl : j < ps.length) → ¬ overP m ps[j]
def IdxR_log (m : Nat) (w : World) (n : Nat) (ps : List PD) (i : Value) (wr : World) : Prop := ∃ k : Nat, k ≤ n ∧ i = .int .i64 k ∧ NoneTo_log m ps k ∧ Below w.heap.size w wr
def FirstAt_log (m : Nat) (ps : List PD) (e : Ending) : Prop := (∃ i, ∃ h : i < ps.length, e = .returned (.int .i64 (i : Nat)) ∧ overP m ps[i]) ∨ (e = .returned (.int .i64 (-1)) ∧ NoneTo_log m ps ps.length)
theorem Index_log_walk (m : Nat) (aO : Option Addr) (cO : Nat) (bn : Nat) (a : Option Addr) (n c : Nat) (ps : List PD) (w : World) (hn : ps.length = n) (hlt : n ≤ 1048576) (hmm : m ≤ 1048576) (hc : PiecesAt w a ps) (hcap : w.cell? ⟨bn, 0, none⟩ = some (.slice aO m cO)) :
    Calls Try.prog 59 #[.slice a n c, .func (.func 41) #[] #[.pointer (some ⟨bn, 0, none⟩)]] w fun e w' =>
      FirstAt_log m ps e ∧ Below w.heap.size w w' := by
  have HN := Lib.hid hn; clear hn
  have HC := Lib.hid hc; clear hc
  have HCap := Lib.hid hcap; clear hcap
  go_enter Try.func59, Try.ntmps59
  go_wp2
  go_loopw [8] (IdxR_log m w n ps) (fun i _ => n - (intOf i).toNat)
  case atStart => exact ⟨0, Nat.zero_le _, rfl, fun j hj => absurd hj (Nat.not_lt_zero _), Below.refl _ _⟩
  case round =>
    obtain ⟨k, hk, rfl, hall, hbel⟩ := hrel
    have HA := Lib.hid hall; clear hall
    have HB := Lib.hid hbel; clear hbel
    by_cases hkn : k < n
    · have hkl : k < ps.length := by rw [HN.out]; exact hkn
      obtain ⟨b, o, ha⟩ := HC.out.some (by omega)
      subst ha
      obtain ⟨c0, c1⟩ := (HC.out.below HB.out (Nat.le_refl _)).get k hkl
      obtain ⟨p, hp⟩ : ∃ p, p = ps[k] := ⟨_, rfl⟩
      rw [← hp] at c0 c1
      have HP := Lib.hid hp; clear hp
      have hki : (k : Int) < (n : Int) := by omega
      have hcr : wr.cell? ⟨bn, 0, none⟩ = some (.slice aO m cO) := by rw [HB.out.cell (p := ⟨bn, 0, none⟩) (World.block_lt_of_cell? w _ HCap.out)]; exact HCap.out
      have HCr := Lib.hid hcr; clear hcr
      go_wp2_with fail
      refine (logOver_walk m aO cO bn p wr hmm HCr.out).mono ?_
      rintro e w2 ⟨rfl, hb2⟩
      have HB2 := Lib.hid (HB.out.trans (hb2.mono HB.out.size)); clear hb2
      by_cases hd : overP m p
      · have HD := Lib.hid hd
        rw [decide_eq_true hd]
        clear hd
        go_wp2
        go_ret
        exact ⟨.inl ⟨k, hkl, rfl, by rw [← HP.out]; exact HD.out⟩, HB2.out⟩
      · have HD := Lib.hid hd
        rw [decide_eq_false hd]
        clear hd
        go_wp2
        go_roundw
        case rel =>
          refine ⟨k + 1, by omega, by go_num, fun j hj hl => ?_, HB2.out⟩
          by_cases e : j = k
          · subst e; rw [← HP.out]; exact HD.out
          · exact HA.out j (by omega) hl
        case measure => simp [intOf]; omega
    · have HAll : Hid (NoneTo_log m ps ps.length) := Lib.hid (fun j hj hl => HA.out j (by have := HN.out; omega) hj)
      go_wp2
      go_ret
      exact ⟨.inr ⟨rfl, HAll.out⟩, HB.out⟩
def Any_log (m : Nat) (ps : List PD) : Bool := decide (∃ p ∈ ps, overP m p)
theorem Contains_log_walk (m : Nat) (aO : Option Addr) (cO : Nat) (bn : Nat) (a : Option Addr) (n c : Nat) (ps : List PD) (w : World) (hn : ps.length = n) (hlt : n ≤ 1048576) (hmm : m ≤ 1048576) (hc : PiecesAt w a ps) (hcap : w.cell? ⟨bn, 0, none⟩ = some (.slice aO m cO)) :
    Calls Try.prog 31 #[.slice a n c, .func (.func 41) #[] #[.pointer (some ⟨bn, 0, none⟩)]] w fun e w' => e = .returned (.bool (Any_log m ps)) ∧ Below w.heap.size w w' := by
  go_enter Try.func31, Try.ntmps31
  go_wp2_with fail
  refine (Index_log_walk m aO cO bn a n c ps w hn hlt hmm hc hcap).mono ?_
  rintro e w1 ⟨hf, hb⟩
  have HB := Lib.hid hb; clear hb
  rcases hf with ⟨i, hi, rfl, hp⟩ | ⟨rfl, hnone⟩
  · have HR : Hid (Any_log m ps = true) := Lib.hid (decide_eq_true (show ∃ p ∈ ps, overP m p from ⟨ps[i], List.getElem_mem hi, hp⟩))
    clear hp hi hn
    go_wp2
    go_ret
    exact ⟨by rw [HR.out]; rfl, HB.out⟩
  · have HR : Hid (Any_log m ps = false) := Lib.hid (decide_eq_false (show ¬ ∃ p ∈ ps, overP m p from fun ⟨p, hp, h⟩ => by
      obtain ⟨j, hj, rfl⟩ := List.mem_iff_getElem.1 hp
      exact hnone j hj hj h))
    clear hnone hn
    go_wp2
    go_ret
    exact ⟨by rw [HR.out]; rfl, HB.out⟩
end Go.Proofs.Ytkcdcgijbaepmaa
