/-
  The walks of ParasFirsts, ParasLevels, ParasMatches.
-/
import Derived.Test.YtmcjlkpogcnniaaS1
set_option linter.unusedVariables false
namespace Go.Proofs.Ytmcjlkpogcnniaa
open Go.RowKit

/-- what a statement is told of a list of numbers -/
structure ArgL (k : IntKind) (w : World) (a : Option Addr) (n cap : Nat) (xs : List Int) : Prop where
  ints : Ints k w a xs
  len : xs.length = n
  le : n ≤ 1048576
  none_ : a = none → cap = 0
theorem ArgL.below {k : IntKind} {w w' : World} {a : Option Addr} {n cap : Nat} {xs : List Int} {B : Nat} (h : ArgL k w a n cap xs) (hb : Below B w w') (hB : w.heap.size ≤ B) : ArgL k w' a n cap xs :=
  ⟨h.ints.below hb hB, h.len, h.le, h.none_⟩

theorem firstV_form (cl : List Int) (f t : Int) : ∃ (x : Int) (b : Bool) (e : Int), firstV cl f t = .tuple #[.int .i64 x, .bool b, .int .i64 e] := by
  unfold firstV
  split
  · exact ⟨_, _, _, rfl⟩
  · unfold optV
    split <;> exact ⟨_, _, _, rfl⟩

set_option maxHeartbeats 2000000 in
theorem firsts_walk (a : Option Addr) (n cap : Nat) (cl : List Int) (f t : Int) (w : World) (h : ArgL .u8 w a n cap cl) (hf : -9223372036854775808 ≤ f ∧ f ≤ 9223372036854775807) (ht : -9223372036854775808 ≤ t ∧ t ≤ 9223372036854775807) :
    Calls Try.prog 6 #[.slice a n cap, .agg #[.int .i64 f, .int .i64 t]] w fun e w' => e = .returned (.bool true) ∧ Below w.heap.size w w' := by
  have HA := Lib.hid h; clear h
  have hle := HA.out.le
  have HW0 := Lib.hid ((Below.refl _ w).alloc (Nat.le_refl _) (.cells #[.int .i64 f, .int .i64 t] 46))
  have HBx : Hid (∀ w' : World, Below (w.alloc (.cells #[.int .i64 f, .int .i64 t] 46)).heap.size (w.alloc (.cells #[.int .i64 f, .int .i64 t] 46)) w' → w'.heap[w.heap.size]? = some (.cells #[.int .i64 f, .int .i64 t] 46 (0, 0)) ∧ Below w.heap.size w w') := by
    refine Lib.hid (fun w' hb => ⟨?_, HW0.out.trans (hb.mono (by simp))⟩)
    rw [hb.block w.heap.size (by simp)]
    exact heap_alloc_new w _
  have HA0 := Lib.hid (HA.out.below HW0.out (Nat.le_refl _))
  obtain ⟨x, b, ec, hv⟩ := firstV_form cl f t
  have HV := Lib.hid hv; clear hv
  go_enter Try.func6, Try.ntmps6
  go_wp2_with fail
  refine (lent_walk a n cap cl _ HA0.out.len (by omega) HA0.out.none_ HA0.out.ints).mono ?_
  rintro e w1 ⟨a1, c1, rfl, hc1, ho, hb⟩
  obtain ⟨g, ha, hg1, hg2, _, hcm⟩ := ho.at (by omega)
  subst ha
  obtain ⟨hblk, hb1⟩ := HBx.out w1 hb
  have HF1 := Lib.hid ho.ints; clear ho hb
  have HB1 := Lib.hid hb1; clear hb1
  have r0 := cell_of_row w1 w.heap.size 0 _ _ (0, 0) hblk
  have r1 := cell_of_row w1 w.heap.size 1 _ _ (0, 0) hblk
  simp at r0 r1
  have HBl1 := Lib.hid hblk; clear hblk
  go_wp2_with fail
  refine (First_walk (some ⟨g, 0, none⟩) n c1 cl f t w1 HA.out.len (by omega) HF1.out.front hf ht).mono ?_
  rintro e w2 ⟨rfl, hb⟩
  rw [HV.out]
  have HF2 := Lib.hid (HF1.out.below hb (Nat.le_refl _))
  have hblk : w2.heap[w.heap.size]? = some (.cells #[.int .i64 f, .int .i64 t] 46 (0, 0)) := by rw [hb.block w.heap.size (Array.getElem?_eq_some_iff.1 HBl1.out).1]; exact HBl1.out
  have HB2 := Lib.hid (below_seq HB1.out hb); clear hb r0 r1
  have r0 := cell_of_row w2 w.heap.size 0 _ _ (0, 0) hblk
  have r1 := cell_of_row w2 w.heap.size 1 _ _ (0, 0) hblk
  simp at r0 r1
  clear hblk
  go_wp2_with fail
  refine (rFirst_walk a n cap cl f t w2 HA.out.len (by omega) (HA.out.below HB2.out (Nat.le_refl _)).ints hf ht).mono ?_
  rintro e w3 ⟨rfl, hb⟩
  rw [HV.out]
  have HF3 := Lib.hid (HF2.out.below hb (Nat.le_refl _))
  have HB3 := Lib.hid (below_seq HB2.out hb); clear hb r0 r1
  have bx : (x == x) = true := by simp
  have bb : (b == b) = true := by simp
  have be : (ec == ec) = true := by simp
  go_wp2_with fail
  refine (kept_walk g n c1 a cap cl w3 HA.out.len (by omega) hc1 hcm HF3.out (HA.out.below HB3.out (Nat.le_refl _)).ints).mono ?_
  rintro e w4 ⟨rfl, hb⟩
  have HB4 := Lib.hid (below_seq HB3.out hb); clear hb
  go_wp2_with fail
  refine (awake_walk w4).mono ?_
  rintro e w5 ⟨rfl, hb⟩
  have HB5 := Lib.hid (below_seq HB4.out hb); clear hb
  go_wp2
  go_ret
  exact ⟨rfl, HB5.out⟩

theorem levelV_form (cl : List Int) (b : Int) : ∃ (x : Int) (e : Int), levelV cl b = .tuple #[.int .i8 x, .int .i64 e] := ⟨_, _, rfl⟩

set_option maxHeartbeats 2000000 in
theorem levels_walk (a : Option Addr) (n cap : Nat) (cl : List Int) (b : Int) (w : World) (h : ArgL .u8 w a n cap cl) :
    Calls Try.prog 7 #[.slice a n cap, .int .i8 b] w fun e w' => e = .returned (.bool true) ∧ Below w.heap.size w w' := by
  have HA := Lib.hid h; clear h
  have hle := HA.out.le
  obtain ⟨x, ec, hv⟩ := levelV_form cl b
  have HV := Lib.hid hv; clear hv
  go_enter Try.func7, Try.ntmps7
  go_wp2_with fail
  refine (lent_walk a n cap cl _ HA.out.len (by omega) HA.out.none_ HA.out.ints).mono ?_
  rintro e w1 ⟨a1, c1, rfl, hc1, ho, hb⟩
  obtain ⟨g, ha, hg1, hg2, _, hcm⟩ := ho.at (by omega)
  subst ha
  have HF1 := Lib.hid ho.ints; clear ho
  have HB1 := Lib.hid hb; clear hb
  go_wp2_with fail
  refine (Level_walk (some ⟨g, 0, none⟩) n c1 cl b w1 HA.out.len (by omega) HF1.out.front).mono ?_
  rintro e w2 ⟨rfl, hb⟩
  rw [HV.out]
  have HF2 := Lib.hid (HF1.out.below hb (Nat.le_refl _))
  have HB2 := Lib.hid (below_seq HB1.out hb); clear hb
  go_wp2_with fail
  refine (rLevel_walk a n cap cl b w2 HA.out.len (by omega) (HA.out.below HB2.out (Nat.le_refl _)).ints).mono ?_
  rintro e w3 ⟨rfl, hb⟩
  rw [HV.out]
  have HF3 := Lib.hid (HF2.out.below hb (Nat.le_refl _))
  have HB3 := Lib.hid (below_seq HB2.out hb); clear hb
  have bx : (x == x) = true := by simp
  have be : (ec == ec) = true := by simp
  go_wp2_with fail
  refine (kept_walk g n c1 a cap cl w3 HA.out.len (by omega) hc1 hcm HF3.out (HA.out.below HB3.out (Nat.le_refl _)).ints).mono ?_
  rintro e w4 ⟨rfl, hb⟩
  have HB4 := Lib.hid (below_seq HB3.out hb); clear hb
  go_wp2_with fail
  refine (awake_walk w4).mono ?_
  rintro e w5 ⟨rfl, hb⟩
  have HB5 := Lib.hid (below_seq HB4.out hb); clear hb
  go_wp2
  go_ret
  exact ⟨rfl, HB5.out⟩
end Go.Proofs.Ytmcjlkpogcnniaa
