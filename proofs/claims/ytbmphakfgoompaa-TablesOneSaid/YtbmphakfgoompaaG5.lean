/- several texts in one: UA -/
import Derived.Test.YtbmphakfgoompaaG3
import Derived.Test.YtbmphakfgoompaaG4
set_option linter.unusedVariables false
set_option linter.unusedSimpArgs false
/-
  The walk of 'awake' (tables).
-/
namespace Go.Proofs.Ytbmphakfgoompaa
open Go.RowKit

theorem spans_nil (w : World) : SpansAt w none [] := fun i h => absurd h (by simp)
theorem tws_nil (w : World) : TwAt w none [] := fun i h => absurd h (by simp)
theorem spans_one {w : World} {b : Nat} {ty : TypeId} {x y z : Int} (h : w.heap[b]? = some (.cells #[.int .i32 x, .int .i32 y, .int .u8 z] ty (0, 0))) : SpansAt w (some ⟨b, 0, none⟩) [⟨x, y, z⟩] := fun i hi => by
  obtain rfl : i = 0 := by simp at hi; exact hi
  exact ⟨b, 0, rfl, cell_of_row w b 0 _ _ (0, 0) h, cell_of_row w b 1 _ _ (0, 0) h, cell_of_row w b 2 _ _ (0, 0) h⟩
theorem spans_two {w : World} {b : Nat} {ty : TypeId} {x y z x' y' z' : Int} (h : w.heap[b]? = some (.cells #[.int .i32 x, .int .i32 y, .int .u8 z, .int .i32 x', .int .i32 y', .int .u8 z'] ty (0, 0))) : SpansAt w (some ⟨b, 0, none⟩) [⟨x, y, z⟩, ⟨x', y', z'⟩] := fun i hi => by
  have hi2 : i < 2 := hi
  have hc : i = 0 ∨ i = 1 := by omega
  rcases hc with rfl | rfl
  · exact ⟨b, 0, rfl, cell_of_row w b 0 _ _ (0, 0) h, cell_of_row w b 1 _ _ (0, 0) h, cell_of_row w b 2 _ _ (0, 0) h⟩
  · exact ⟨b, 0, rfl, cell_of_row w b 3 _ _ (0, 0) h, cell_of_row w b 4 _ _ (0, 0) h, cell_of_row w b 5 _ _ (0, 0) h⟩
theorem tws_one {w : World} {b : Nat} {ty : TypeId} {x y : Int} (h : w.heap[b]? = some (.cells #[.int .i32 x, .int .i32 y] ty (0, 0))) : TwAt w (some ⟨b, 0, none⟩) [⟨x, y⟩] := fun i hi => by
  obtain rfl : i = 0 := by simp at hi; exact hi
  exact ⟨b, 0, rfl, cell_of_row w b 0 _ _ (0, 0) h, cell_of_row w b 1 _ _ (0, 0) h⟩

/-- the rows of 'awake' -/
def awC : List SpanD := [⟨40, 41, 14⟩]
def awB : List SpanD := [⟨40, 41, 1⟩, ⟨41, 40, 2⟩]
def awM : List TwD := [⟨40, 41⟩]
theorem aw_bad : handBad 1 awC awB [] awM = none := by decide
theorem aw_c (x : Int) : clsF 1 awC x = if 40 ≤ x ∧ x ≤ 41 then 14 else 1 := rfl
theorem aw_b (x : Int) : brkF awB x = if 41 = x then -41 else if 40 = x then 42 else 0 := rfl
theorem aw_t (x : Int) : twnF [] x = 0 := rfl
theorem aw_m (x : Int) : twnF awM x = if 40 = x then 42 else 0 := rfl
theorem aw_least : Least (wrongF (fun r => clsF 1 awC (r : Nat)) (fun r => brkF awB (r : Nat)) (fun r => twnF [] (r : Nat)) (fun r => twnF awM (r : Nat))) 1114112 1114112 := by
  refine .none (fun r _ => ?_)
  by_cases h1 : r = 40
  · subst h1; decide
  · by_cases h2 : r = 41
    · subst h2; decide
    · simp only [wrongF, aw_b, aw_t, aw_m]
      rw [if_neg (by omega), if_neg (by omega)]
      rfl
theorem hand_gives {w : World} {rest : Int} {l1 l2 : List SpanD} {l3 l4 : List TwD} {e : Ending} {w' : World} (h : HandQ w rest l1 l2 l3 l4 e w') (hb : handBad rest l1 l2 l3 l4 = none)
    (hl : Least (wrongF (fun r => clsF rest l1 (r : Nat)) (fun r => brkF l2 (r : Nat)) (fun r => twnF l3 (r : Nat)) (fun r => twnF l4 (r : Nat))) 1114112 1114112) :
    ∃ p, e = .returned (.tuple #[.pointer (some ⟨p, 0, none⟩), .int .i32 0, .int .i64 0]) ∧ HTab w' p (fun r => clsF rest l1 (r : Nat)) (fun r => brkF l2 (r : Nat)) (fun r => twnF l3 (r : Nat)) (fun r => twnF l4 (r : Nat)) w.heap.size ∧ Below w.heap.size w w' := by
  obtain ⟨hbel, ⟨r, h1, -⟩ | ⟨-, p, k, h1, h2, h3⟩⟩ := h
  · rw [hb] at h1; cases h1
  · obtain rfl := h1.unique hl
    exact ⟨p, by rw [h2]; rfl, h3, hbel⟩
theorem hand_amiss {w : World} {rest : Int} {l1 l2 : List SpanD} {l3 l4 : List TwD} {e : Ending} {w' : World} (h : HandQ w rest l1 l2 l3 l4 e w') (hb : handBad rest l1 l2 l3 l4 = none) {k : Nat} (hk : k < 1114112)
    (hl : Least (wrongF (fun r => clsF rest l1 (r : Nat)) (fun r => brkF l2 (r : Nat)) (fun r => twnF l3 (r : Nat)) (fun r => twnF l4 (r : Nat))) 1114112 k) :
    e = .returned (.tuple #[.pointer none, .int .i32 (k : Nat), .int .i64 141]) ∧ Below w.heap.size w w' := by
  obtain ⟨hbel, ⟨r, h1, -⟩ | ⟨-, p, q, h1, h2, h3⟩⟩ := h
  · rw [hb] at h1; cases h1
  · obtain rfl := h1.unique hl
    exact ⟨by rw [h2, wholeE, if_pos hk], hbel⟩
theorem hand_bad {w : World} {rest : Int} {l1 l2 : List SpanD} {l3 l4 : List TwD} {e : Ending} {w' : World} (h : HandQ w rest l1 l2 l3 l4 e w') {r : Int} (hb : handBad rest l1 l2 l3 l4 = some r) :
    e = .returned (.tuple #[.pointer none, .int .i32 r, .int .i64 2]) ∧ Below w.heap.size w w' := by
  obtain ⟨hbel, ⟨r', h1, h2⟩ | ⟨h1, -⟩⟩ := h
  · rw [hb] at h1; cases h1
    exact ⟨h2, hbel⟩
  · rw [hb] at h1; cases h1
theorem p8_nil (w : World) : P8 w (.slice none 0 0) (.slice none 0 0) (.slice none 0 0) [] [] [] :=
  ⟨⟨none, 0, 0, none, 0, 0, none, 0, 0, rfl, rfl, rfl, rfl, rfl, rfl, ⟨Nat.le_refl _, Nat.zero_le _⟩, ⟨Nat.le_refl _, Nat.zero_le _⟩, ⟨Nat.le_refl _, Nat.zero_le _⟩, fun i h => absurd h (by simp), fun i h => absurd h (by simp), fun i h => absurd h (by simp)⟩, fun z h => absurd h (by simp), fun z h => absurd h (by simp)⟩
theorem pJ_nil (w : World) : PJ w (.slice none 0 0) (.slice none 0 0) (.slice none 0 0) [] [] [] :=
  ⟨⟨none, 0, 0, none, 0, 0, none, 0, 0, rfl, rfl, rfl, rfl, rfl, rfl, ⟨Nat.le_refl _, Nat.zero_le _⟩, ⟨Nat.le_refl _, Nat.zero_le _⟩, ⟨Nat.le_refl _, Nat.zero_le _⟩, fun i h => absurd h (by simp), fun i h => absurd h (by simp), fun i h => absurd h (by simp)⟩, fun z h => absurd h (by simp), fun z h => absurd h (by simp)⟩
theorem over_nil (w : World) : Calls Try.prog 22 #[.agg #[.slice none 0 0, .slice none 0 0, .slice none 0 0, .slice none 0 0, .slice none 0 0, .slice none 0 0, .slice none 0 0, .slice none 0 0, .slice none 0 0, .slice none 0 0, .slice none 0 0, .slice none 0 0]] w fun e w' =>
    e = .returned (.tuple #[.pointer none, .int .i32 0, .int .i64 140]) ∧ Below w.heap.size w w' := by
  refine (over_walk w (fun _ => .slice none 0 0) ⟨[], [], []⟩ ⟨[], [], []⟩ ⟨[], [], []⟩ ⟨[], [], []⟩ (p8_nil w) (pJ_nil w) (pJ_nil w) (pJ_nil w)).mono ?_
  rintro e w' ⟨hb, ⟨h, -⟩ | ⟨h, -⟩⟩
  · exact ⟨h, hb⟩
  · exact absurd h.1.t (by decide)

set_option maxRecDepth 100000 in
set_option maxHeartbeats 1600000 in
theorem awake_walk (w : World) : Calls Try.prog 10 #[] w fun e w' => e = .returned (.bool true) ∧ Below w.heap.size w w' := by
  obtain ⟨b0, hb0⟩ : ∃ b0, b0 = w.heap.size := ⟨_, rfl⟩
  have HW : Hid (Below w.heap.size w (((w.alloc (.cells #[.int .i32 40, .int .i32 41, .int .u8 14] 28)).alloc (.cells #[.int .i32 40, .int .i32 41, .int .u8 1, .int .i32 41, .int .i32 40, .int .u8 2] 32)).alloc (.cells #[.int .i32 40, .int .i32 41] 80)) ∧
      SpansAt (((w.alloc (.cells #[.int .i32 40, .int .i32 41, .int .u8 14] 28)).alloc (.cells #[.int .i32 40, .int .i32 41, .int .u8 1, .int .i32 41, .int .i32 40, .int .u8 2] 32)).alloc (.cells #[.int .i32 40, .int .i32 41] 80)) (some ⟨b0, 0, none⟩) awC ∧
      SpansAt (((w.alloc (.cells #[.int .i32 40, .int .i32 41, .int .u8 14] 28)).alloc (.cells #[.int .i32 40, .int .i32 41, .int .u8 1, .int .i32 41, .int .i32 40, .int .u8 2] 32)).alloc (.cells #[.int .i32 40, .int .i32 41] 80)) (some ⟨b0 + 1, 0, none⟩) awB ∧
      TwAt (((w.alloc (.cells #[.int .i32 40, .int .i32 41, .int .u8 14] 28)).alloc (.cells #[.int .i32 40, .int .i32 41, .int .u8 1, .int .i32 41, .int .i32 40, .int .u8 2] 32)).alloc (.cells #[.int .i32 40, .int .i32 41] 80)) (some ⟨b0 + 2, 0, none⟩) awM) := by
    rw [hb0]
    refine Lib.hid ⟨(((Below.refl _ w).alloc (Nat.le_refl _) _).alloc (by simp) _).alloc (by simp; omega) _, spans_one (ty := 28) ?_, spans_two (ty := 32) ?_, tws_one (ty := 80) ?_⟩
    · rw [Below.heap_alloc _ _ _ (by simp; omega), Below.heap_alloc _ _ _ (by simp)]
      exact heap_alloc_new w _
    · rw [Below.heap_alloc _ _ _ (by simp)]
      have := heap_alloc_new (w.alloc (.cells #[.int .i32 40, .int .i32 41, .int .u8 14] 28)) (.cells #[.int .i32 40, .int .i32 41, .int .u8 1, .int .i32 41, .int .i32 40, .int .u8 2] 32)
      simpa using this
    · have := heap_alloc_new ((w.alloc (.cells #[.int .i32 40, .int .i32 41, .int .u8 14] 28)).alloc (.cells #[.int .i32 40, .int .i32 41, .int .u8 1, .int .i32 41, .int .i32 40, .int .u8 2] 32)) (.cells #[.int .i32 40, .int .i32 41] 80)
      simpa using this
  go_enter Try.func10, Try.ntmps10
  go_wp2_with fail
  rw [← hb0]
  generalize (((w.alloc (.cells #[.int .i32 40, .int .i32 41, .int .u8 14] 28)).alloc (.cells #[.int .i32 40, .int .i32 41, .int .u8 1, .int .i32 41, .int .i32 40, .int .u8 2] 32)).alloc (.cells #[.int .i32 40, .int .i32 41] 80)) = w1 at *
  clear hb0
  refine (hand_walk 1 (some ⟨b0, 0, none⟩) 1 1 awC (some ⟨b0 + 1, 0, none⟩) 2 2 awB none 0 0 [] (some ⟨b0 + 2, 0, none⟩) 1 1 awM w1 rfl (by omega) HW.out.2.1 rfl (by omega) HW.out.2.2.1 rfl (by omega) (tws_nil _) rfl (by omega) HW.out.2.2.2).mono ?_
  intro e w2 hq
  obtain ⟨p, rfl, hT, hb⟩ := hand_gives hq aw_bad aw_least
  have HB := Lib.hid (HW.out.1.trans (hb.mono HW.out.1.size))
  have HT := Lib.hid hT
  clear hq hT hb HW
  go_wp2_with fail
  refine (over_nil w2).mono ?_
  rintro e w3 ⟨rfl, hb⟩
  have HB3 := Lib.hid (HB.out.trans (hb.mono HB.out.size))
  have HT3 := Lib.hid (HT.out.below hb)
  clear hb HT HB
  obtain ⟨gc, gb, gt, gm, SC, SB, ST, SM, hTab, -⟩ := HT3.out
  have HTb := Lib.hid hTab
  have HF := Lib.hid (show Fit (fun r => brkF awB (r : Nat)) (fun r => twnF [] (r : Nat)) (fun r => twnF awM (r : Nat)) from hand_fit (by decide) (by decide) (by decide))
  clear hTab HT3
  have hB := Lib.hid (bracket_says HTb.out HF.out 41 (by omega) (by omega))
  have hM := Lib.hid (fun q => mirror_says (HTb.out.drew q) HF.out 40 (by omega) (by omega))
  have hC := Lib.hid (fun q => class_says (HTb.out.drew q) 40 (by omega) (by omega))
  have hC2 := Lib.hid (fun q => class_says (HTb.out.drew q) (-1) (by omega) (by omega))
  have hT := Lib.hid (fun q => twin_says (HTb.out.drew q) HF.out 97 (by omega) (by omega))
  rw [show runeR 41 = 41 from rfl, show brO (brkF awB ((41 : Nat) : Int)) = 40 from rfl, show brS (brkF awB ((41 : Nat) : Int)) = 2 from rfl] at hB
  rw [show runeR 40 = 40 from rfl] at hM hC
  rw [show runeR 97 = 97 from rfl, show twF (fun r => twnF [] (r : Nat)) 97 = 97 from rfl] at hT
  rw [show (clsF 1 awC ((40 : Nat) : Int)) = 14 from rfl] at hC
  rw [show runeR (-1) = 65533 from rfl, show (clsF 1 awC ((65533 : Nat) : Int)) = 1 from rfl] at hC2
  rw [show twnF awM ((40 : Nat) : Int) = 42 from rfl] at hM
  clear HTb HF
  go_wp2_with fail
  refine hB.out.mono ?_
  rintro e w4 ⟨rfl, q1, rfl⟩
  go_wp2_with fail
  refine (hM.out _).mono ?_
  rintro e w4 ⟨rfl, q2, rfl⟩
  rw [drewN_add]
  generalize q1 + q2 = q at *
  go_wp2_with fail
  refine (hC.out _).mono ?_
  rintro e w4 ⟨rfl, q3, rfl⟩
  rw [drewN_add]
  generalize q + q3 = q at *
  go_wp2_with fail
  refine (hC2.out _).mono ?_
  rintro e w4 ⟨rfl, q4, rfl⟩
  rw [drewN_add]
  generalize q + q4 = q at *
  go_wp2_with fail
  refine (hT.out _).mono ?_
  rintro e w4 ⟨rfl, q5, rfl⟩
  go_wp2
  go_ret
  exact ⟨rfl, below_drewN HB3.out _⟩
end Go.Proofs.Ytbmphakfgoompaa
