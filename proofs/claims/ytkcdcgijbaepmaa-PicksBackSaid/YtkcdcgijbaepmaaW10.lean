/-
  Walks: pieces lent with marks behind them.
-/
import Derived.Test.YtkcdcgijbaepmaaW9
set_option linter.unusedVariables false
namespace Go.Proofs.Ytkcdcgijbaepmaa
open Go.RowKit

def marks : List PD := [⟨-7, 0⟩, ⟨-8, 0⟩]
set_option maxHeartbeats 1000000 in
theorem lent_walk (a : Option Addr) (n c : Nat) (ps : List PD) (w : World) (hn : ps.length = n) (hlt : n ≤ 65536) (hc : PiecesAt w a ps) (hnone : a = none → c = 0) :
    Calls Try.prog 11 #[.slice a n c] w fun e w' => ∃ g c', e = .returned (.slice (some ⟨g, 0, none⟩) n c') ∧ OwnP w.heap.size w' (some ⟨g, 0, none⟩) (n + 2) c' (ps ++ marks) ∧ Below w.heap.size w w' := by
  have HN := Lib.hid hn; clear hn
  have HC := Lib.hid hc; clear hc
  go_enter Try.func11, Try.ntmps11
  go_wp2_with (at_builtin; refine wpList_appSN Try.elemPiece rfl (.const (.slice none 0 0)) (.tmp 4) rfl (OwnP.nil w.heap.size w) (Nat.le_refl _) (by rw [flatP_length, HN.out]) HC.out.src hnone (flatP_one _) (by omega) (by unfold maxLen; omega) rfl rfl ?_)
  intro a2 c2 w2 ho2 hg2 _
  have HB2 := Lib.hid ((OwnP.nil w.heap.size w).app hg2 (Nat.le_refl _))
  have HO2 : Hid (OwnP w.heap.size w2 a2 n c2 ps) := Lib.hid (by unfold OwnP; simpa [flatP] using ho2)
  clear ho2 hg2 hnone
  have HCe : Hid (∀ j v, (flatP marks)[j]? = some v → ∃ ad, (some ⟨w2.heap.size, 0, none⟩ : Option Addr) = some ad ∧ (w2.alloc (.cells #[.int .i64 (-7), .int .i64 0, .int .i64 (-8), .int .i64 0] 45)).cell? (ad.add j) = some v) := Lib.hid (fun j v hv => ⟨_, rfl, by
    rw [Addr.add_lit, Nat.zero_add, cell_of_row _ w2.heap.size j _ _ (0, 0) (heap_alloc_new w2 _)]
    simpa [flatP, marks, cellsP] using hv⟩)
  have HO3 : Hid (OwnP w.heap.size (w2.alloc (.cells #[.int .i64 (-7), .int .i64 0, .int .i64 (-8), .int .i64 0] 45)) a2 n c2 ps) := Lib.hid (World.ownsRow.alloc HO2.out _)
  have HB3 := Lib.hid (HB2.out.alloc HB2.out.size (.cells #[.int .i64 (-7), .int .i64 0, .int .i64 (-8), .int .i64 0] 45))
  go_wp2_with (at_builtin; refine wpList_appSN (m := 2) Try.elemPiece rfl (.tmp 6) (.tmp 9) rfl HO3.out HB3.out.size (ys := flatP marks) rfl HCe.out (by simp) (flatP_one _) (by omega) (by unfold maxLen; omega) rfl rfl ?_)
  intro a4 c4 w4 ho4 hg4 _
  have HB4 := Lib.hid (HB3.out.trans (HO3.out.app hg4 HB3.out.size))
  have HO4 : Hid (OwnP w.heap.size w4 a4 (n + 2) c4 (ps ++ marks)) := Lib.hid (by unfold OwnP; rw [flatP_append]; exact ho4)
  clear ho4 hg4
  obtain ⟨g, ha, hg1, hg2, hg3, hg4⟩ := HO4.out.at (by omega)
  subst ha
  have hnc : n ≤ c4 := by omega
  go_wp2
  go_ret
  exact ⟨_, _, rfl, HO4.out, HB4.out⟩
set_option maxHeartbeats 1000000 in
theorem kept_walk (g c' : Nat) (a : Option Addr) (n c : Nat) (ps : List PD) (w : World) (hn : ps.length = n) (hlt : n ≤ 65536) (hcap : n + 2 ≤ c') (hf : PiecesAt w (some ⟨g, 0, none⟩) (ps ++ marks)) (hc : PiecesAt w a ps) :
    Calls Try.prog 14 #[.slice (some ⟨g, 0, none⟩) n c', .slice a n c] w fun e w' => e = .returned (.bool true) ∧ Below w.heap.size w w' := by
  have HN := Lib.hid hn; clear hn
  have HC := Lib.hid hc; clear hc
  have HF := Lib.hid hf; clear hf
  have HL : Hid (PiecesAt w (some ⟨g, 0, none⟩) ps) := Lib.hid (fun i hi => by
    have h := HF.out i (by rw [List.length_append]; omega)
    rwa [List.getElem_append_left hi] at h)
  have hci : (n : Int) + 2 ≤ (c' : Int) := by omega
  have hni : (n : Int) ≤ 65536 := by omega
  go_enter Try.func14, Try.ntmps14
  go_wp2_with fail
  refine (Same_walk (some ⟨g, 0, none⟩) n c' ps a n c ps w HN.out HN.out (by omega) HL.out HC.out).mono ?_
  rintro e w1 ⟨rfl, hb⟩
  rw [show decide (ps = ps) = true from decide_eq_true rfl]
  have hF1 := HF.out.below hb (Nat.le_refl _)
  have HB := Lib.hid hb; clear hb
  obtain ⟨u0, -⟩ := hF1.get n (by rw [List.length_append, HN.out]; simp [marks])
  obtain ⟨v0, -⟩ := hF1.get (n + 1) (by rw [List.length_append, HN.out]; simp [marks])
  rw [List.getElem_append_right (by rw [HN.out]; exact Nat.le_refl _)] at u0
  rw [List.getElem_append_right (by rw [HN.out]; omega)] at v0
  have e0 : n - ps.length = 0 := by rw [HN.out]; omega
  have e1 : n + 1 - ps.length = 1 := by rw [HN.out]; omega
  simp only [e0, e1, marks, Nat.zero_add, List.getElem_cons_zero, List.getElem_cons_succ] at u0 v0
  clear e0 e1 hF1
  go_wp2
  go_ret
  exact ⟨rfl, HB.out⟩
end Go.Proofs.Ytkcdcgijbaepmaa
