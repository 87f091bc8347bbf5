/-
  The walks of 'beyond', 'of', and of the closed statement.
-/
import Derived.Test.YtnnfhldfdiaddaaL7
set_option linter.unusedVariables false
namespace Go.Proofs.Ytnnfhldfdiaddaa
open Go.RowKit

/-- what a statement's argument is told: a base, levels, widths, questions -/
structure InOk (w : World) (base : Int) (a : Option Addr) (n cap : Nat) (a1 : Option Addr) (n1 cap1 : Nat) (lv ws : List Int) : Prop where
  hb : -128 ≤ base ∧ base ≤ 127
  hl : lv.length = n
  hl1 : ws.length = n1
  hn : n ≤ 9223372036854775807
  hn1 : n1 ≤ 9223372036854775807
  il : Ints .i8 w a lv
  iw : Ints .i64 w a1 ws

theorem InOk.below {w w' : World} {base : Int} {a : Option Addr} {n cap : Nat} {a1 : Option Addr} {n1 cap1 : Nat} {lv ws : List Int} (h : InOk w base a n cap a1 n1 cap1 lv ws) {B : Nat} (hb : Below B w w') (hB : w.heap.size ≤ B) : InOk w' base a n cap a1 n1 cap1 lv ws :=
  ⟨h.hb, h.hl, h.hl1, h.hn, h.hn1, h.il.below hb hB, h.iw.below hb hB⟩

def inV (base : Int) (a : Option Addr) (n cap : Nat) (a1 : Option Addr) (n1 cap1 : Nat) (a2 : Option Addr) (n2 cap2 : Nat) : Value :=
  .agg #[.int .i8 base, .slice a n cap, .slice a1 n1 cap1, .slice a2 n2 cap2]

theorem names_walk (w : World) : Calls Try.prog 6 #[] w fun e w' => e = .returned (.bool true) ∧ Below w.heap.size w w' := by
  go_enter Try.func6, Try.ntmps6
  go_wp2_with fail
  refine (lives_walk _).mono ?_
  rintro e w1 ⟨rfl, hb1⟩
  go_wp2
  go_ret
  exact ⟨rfl, hb1⟩

/-- 'beyond' -/
theorem beyond_walk (w : World) (base : Int) (a : Option Addr) (n cap : Nat) (a1 : Option Addr) (n1 cap1 : Nat) (a2 : Option Addr) (n2 cap2 : Nat) :
    Calls Try.prog 24 #[.agg #[.int .i8 base, .slice a n cap, .slice a1 n1 cap1, .slice a2 n2 cap2]] w fun e w' => e = .returned (.bool (decide (3000 < n) || decide (1000 < n2))) ∧ Below w.heap.size w w' := by
  by_cases h1 : 3000 < n
  · have h1' : (3000 : Int) < n := by omega
    go_enter Try.func24, Try.ntmps24
    go_wp2
    go_ret
    exact ⟨by simp [h1], by go_grown⟩
  · have h1' : ¬ (3000 : Int) < n := by omega
    by_cases h2 : 1000 < n2
    · have h2' : (1000 : Int) < n2 := by omega
      go_enter Try.func24, Try.ntmps24
      go_wp2
      go_ret
      exact ⟨by simp, by go_grown⟩
    · have h2' : ¬ (1000 : Int) < n2 := by omega
      go_enter Try.func24, Try.ntmps24
      go_wp2
      go_ret
      exact ⟨by simp, by go_grown⟩

def OfPost (base : Int) (lv ws : List Int) (w : World) (e : Ending) (w' : World) : Prop :=
  (e = .returned (.pointer none) ∧ Below w.heap.size w w') ∨
  ∃ g, LineOk base lv ws ∧ lv.length ≤ 3000 ∧ e = .returned (.pointer (some ⟨g, 0, none⟩)) ∧ IsLine w' g base lv ws ∧ w.heap.size ≤ g ∧ Below w.heap.size w w'

/-- 'of' -/
theorem of_walk (w : World) (base : Int) (a : Option Addr) (n cap : Nat) (a1 : Option Addr) (n1 cap1 : Nat) (a2 : Option Addr) (n2 cap2 : Nat) (lv ws : List Int) (h : InOk w base a n cap a1 n1 cap1 lv ws) :
    Calls Try.prog 11 #[.agg #[.int .i8 base, .slice a n cap, .slice a1 n1 cap1, .slice a2 n2 cap2]] w (OfPost base lv ws w) := by
  have HH := Lib.hid h; clear h
  have bb := HH.out.hb
  have HBx : Hid (∀ w' : World, Below (w.alloc (.cells #[.int .i8 base, .slice a n cap, .slice a1 n1 cap1, .slice a2 n2 cap2] 28)).heap.size (w.alloc (.cells #[.int .i8 base, .slice a n cap, .slice a1 n1 cap1, .slice a2 n2 cap2] 28)) w' → w'.heap[w.heap.size]? = some (.cells #[.int .i8 base, .slice a n cap, .slice a1 n1 cap1, .slice a2 n2 cap2] 28 (0, 0)) ∧ Below w.heap.size w w') := by
    refine Lib.hid (fun w' hb => ⟨?_, ((Below.refl _ w).alloc (Nat.le_refl _) _).trans (hb.mono (by simp))⟩)
    rw [hb.block w.heap.size (by simp)]
    exact heap_alloc_new w _
  go_enter Try.func11, Try.ntmps11
  go_wp2_with fail
  refine (beyond_walk _ base a n cap a1 n1 cap1 a2 n2 cap2).mono ?_
  rintro e w1 ⟨rfl, hb1⟩
  obtain ⟨hblk, hb⟩ := HBx.out w1 hb1
  have HB1 := Lib.hid hb; clear hb hb1
  by_cases hby : (decide (3000 < n) || decide (1000 < n2)) = true
  · rw [hby]
    clear hblk
    go_wp2
    go_ret
    exact .inl ⟨rfl, HB1.out⟩
  · have hbf : (decide (3000 < n) || decide (1000 < n2)) = false := by simpa using hby
    rw [hbf]
    have hn3 : n ≤ 3000 := by simp at hbf; omega
    clear hby hbf
    have r0 := cell_of_row w1 w.heap.size 0 _ _ (0, 0) hblk
    have r1 := cell_of_row w1 w.heap.size 1 _ _ (0, 0) hblk
    have r2 := cell_of_row w1 w.heap.size 2 _ _ (0, 0) hblk
    simp at r0 r1 r2
    clear hblk
    have HI1 := Lib.hid (HH.out.below HB1.out (Nat.le_refl _))
    go_wp2_with fail
    refine (New_walk base a a1 n cap n1 cap1 lv ws _ bb HI1.out.hl HI1.out.hl1 (by omega) HI1.out.hn1 HI1.out.il HI1.out.iw).mono ?_
    rintro e w2 (⟨hL, g, rfl, hline, hg, hb⟩ | ⟨hbad, rfl, hb⟩)
    · have HL := Lib.hid hline; clear hline
      have HLO := Lib.hid hL; clear hL
      have HB2 := Lib.hid (below_seq HB1.out hb); clear hb
      have hgg : w.heap.size ≤ g := by have := HB1.out.size; omega
      go_wp2
      go_ret
      exact .inr ⟨g, HLO.out, by rw [HH.out.hl]; exact hn3, rfl, HL.out, hgg, HB2.out⟩
    · have hne : (newErr base lv ws != 0) = true := by simp [hbad]
      have HB2 := Lib.hid (below_seq HB1.out hb); clear hb hbad
      generalize newErr base lv ws = er at *
      go_wp2
      go_ret
      exact .inl ⟨rfl, HB2.out⟩
end Go.Proofs.Ytnnfhldfdiaddaa
