/- several texts in one: UA UK -/
import Derived.Test.YtbmphakfgoompaaG3
import Derived.Test.YtbmphakfgoompaaG4
set_option linter.unusedVariables false
set_option linter.unusedSimpArgs false
/-
  The walk of 'awake' (tables).
-/
namespace Go.Proofs.Ytbmphakfgoompaa
open Go.RowKit

theorem spans_nil (w : World) : SpansAt w none [] := fun i h => absurd h (by simp)
theorem tws_nil (w : World) : TwAt w none [] := fun i h => absurd h (by simp)
theorem spans_one {w : World} {b : Nat} {ty : TypeId} {x y z : Int} (h : w.heap[b]? = some (.cells #[.int .i32 x, .int .i32 y, .int .u8 z] ty (0, 0))) : SpansAt w (some ⟨b, 0, none⟩) [⟨x, y, z⟩] := fun i hi => by
  obtain rfl : i = 0 := by simp at hi; exact hi
  exact ⟨b, 0, rfl, cell_of_row w b 0 _ _ (0, 0) h, cell_of_row w b 1 _ _ (0, 0) h, cell_of_row w b 2 _ _ (0, 0) h⟩
theorem spans_two {w : World} {b : Nat} {ty : TypeId} {x y z x' y' z' : Int} (h : w.heap[b]? = some (.cells #[.int .i32 x, .int .i32 y, .int .u8 z, .int .i32 x', .int .i32 y', .int .u8 z'] ty (0, 0))) : SpansAt w (some ⟨b, 0, none⟩) [⟨x, y, z⟩, ⟨x', y', z'⟩] := fun i hi => by
  have hi2 : i < 2 := hi
  have hc : i = 0 ∨ i = 1 := by omega
  rcases hc with rfl | rfl
  · exact ⟨b, 0, rfl, cell_of_row w b 0 _ _ (0, 0) h, cell_of_row w b 1 _ _ (0, 0) h, cell_of_row w b 2 _ _ (0, 0) h⟩
  · exact ⟨b, 0, rfl, cell_of_row w b 3 _ _ (0, 0) h, cell_of_row w b 4 _ _ (0, 0) h, cell_of_row w b 5 _ _ (0, 0) h⟩
theorem tws_one {w : World} {b : Nat} {ty : TypeId} {x y : Int} (h : w.heap[b]? = some (.cells #[.int .i32 x, .int .i32 y] ty (0, 0))) : TwAt w (some ⟨b, 0, none⟩) [⟨x, y⟩] := fun i hi => by
  obtain rfl : i = 0 := by simp at hi; exact hi
  exact ⟨b, 0, rfl, cell_of_row w b 0 _ _ (0, 0) h, cell_of_row w b 1 _ _ (0, 0) h⟩

/-- the rows of 'awake' -/
def awC : List SpanD := [⟨40, 41, 14⟩]
def awB : List SpanD := [⟨40, 41, 1⟩, ⟨41, 40, 2⟩]
def awM : List TwD := [⟨40, 41⟩]
theorem aw_bad : handBad 1 awC awB [] awM = none := by decide
theorem aw_c (x : Int) : clsF 1 awC x = if 40 ≤ x ∧ x ≤ 41 then 14 else 1 := rfl
theorem aw_b (x : Int) : brkF awB x = if 41 = x then -41 else if 40 = x then 42 else 0 := rfl
theorem aw_t (x : Int) : twnF [] x = 0 := rfl
theorem aw_m (x : Int) : twnF awM x = if 40 = x then 42 else 0 := rfl
theorem aw_least : Least (wrongF (fun r => clsF 1 awC (r : Nat)) (fun r => brkF awB (r : Nat)) (fun r => twnF [] (r : Nat)) (fun r => twnF awM (r : Nat))) 1114112 1114112 := by
  refine .none (fun r _ => ?_)
  by_cases h1 : r = 40
  · subst h1; decide
  · by_cases h2 : r = 41
    · subst h2; decide
    · simp only [wrongF, aw_b, aw_t, aw_m]
      rw [if_neg (by omega), if_neg (by omega)]
      rfl
theorem hand_gives {w : World} {rest : Int} {l1 l2 : List SpanD} {l3 l4 : List TwD} {e : Ending} {w' : World} (h : HandQ w rest l1 l2 l3 l4 e w') (hb : handBad rest l1 l2 l3 l4 = none)
    (hl : Least (wrongF (fun r => clsF rest l1 (r : Nat)) (fun r => brkF l2 (r : Nat)) (fun r => twnF l3 (r : Nat)) (fun r => twnF l4 (r : Nat))) 1114112 1114112) :
    ∃ p, e = .returned (.tuple #[.pointer (some ⟨p, 0, none⟩), .int .i32 0, .int .i64 0]) ∧ HTab w' p (fun r => clsF rest l1 (r : Nat)) (fun r => brkF l2 (r : Nat)) (fun r => twnF l3 (r : Nat)) (fun r => twnF l4 (r : Nat)) w.heap.size ∧ Below w.heap.size w w' := by
  obtain ⟨hbel, ⟨r, h1, -⟩ | ⟨-, p, k, h1, h2, h3⟩⟩ := h
  · rw [hb] at h1; cases h1
  · obtain rfl := h1.unique hl
    exact ⟨p, by rw [h2]; rfl, h3, hbel⟩
theorem hand_amiss {w : World} {rest : Int} {l1 l2 : List SpanD} {l3 l4 : List TwD} {e : Ending} {w' : World} (h : HandQ w rest l1 l2 l3 l4 e w') (hb : handBad rest l1 l2 l3 l4 = none) {k : Nat} (hk : k < 1114112)
    (hl : Least (wrongF (fun r => clsF rest l1 (r : Nat)) (fun r => brkF l2 (r : Nat)) (fun r => twnF l3 (r : Nat)) (fun r => twnF l4 (r : Nat))) 1114112 k) :
    e = .returned (.tuple #[.pointer none, .int .i32 (k : Nat), .int .i64 141]) ∧ Below w.heap.size w w' := by
  obtain ⟨hbel, ⟨r, h1, -⟩ | ⟨-, p, q, h1, h2, h3⟩⟩ := h
  · rw [hb] at h1; cases h1
  · obtain rfl := h1.unique hl
    exact ⟨by rw [h2, wholeE, if_pos hk], hbel⟩
theorem hand_bad {w : World} {rest : Int} {l1 l2 : List SpanD} {l3 l4 : List TwD} {e : Ending} {w' : World} (h : HandQ w rest l1 l2 l3 l4 e w') {r : Int} (hb : handBad rest l1 l2 l3 l4 = some r) :
    e = .returned (.tuple #[.pointer none, .int .i32 r, .int .i64 2]) ∧ Below w.heap.size w w' := by
  obtain ⟨hbel, ⟨r', h1, h2⟩ | ⟨h1, -⟩⟩ := h
  · rw [hb] at h1; cases h1
    exact ⟨h2, hbel⟩
  · rw [hb] at h1; cases h1
theorem p8_nil (w : World) : P8 w (.slice none 0 0) (.slice none 0 0) (.slice none 0 0) [] [] [] :=
  ⟨⟨none, 0, 0, none, 0, 0, none, 0, 0, rfl, rfl, rfl, rfl, rfl, rfl, ⟨Nat.le_refl _, Nat.zero_le _⟩, ⟨Nat.le_refl _, Nat.zero_le _⟩, ⟨Nat.le_refl _, Nat.zero_le _⟩, fun i h => absurd h (by simp), fun i h => absurd h (by simp), fun i h => absurd h (by simp)⟩, fun z h => absurd h (by simp), fun z h => absurd h (by simp)⟩
theorem pJ_nil (w : World) : PJ w (.slice none 0 0) (.slice none 0 0) (.slice none 0 0) [] [] [] :=
  ⟨⟨none, 0, 0, none, 0, 0, none, 0, 0, rfl, rfl, rfl, rfl, rfl, rfl, ⟨Nat.le_refl _, Nat.zero_le _⟩, ⟨Nat.le_refl _, Nat.zero_le _⟩, ⟨Nat.le_refl _, Nat.zero_le _⟩, fun i h => absurd h (by simp), fun i h => absurd h (by simp), fun i h => absurd h (by simp)⟩, fun z h => absurd h (by simp), fun z h => absurd h (by simp)⟩
theorem over_nil (w : World) : Calls Try.prog 22 #[.agg #[.slice none 0 0, .slice none 0 0, .slice none 0 0, .slice none 0 0, .slice none 0 0, .slice none 0 0, .slice none 0 0, .slice none 0 0, .slice none 0 0, .slice none 0 0, .slice none 0 0, .slice none 0 0]] w fun e w' =>
    e = .returned (.tuple #[.pointer none, .int .i32 0, .int .i64 140]) ∧ Below w.heap.size w w' := by
  refine (over_walk w (fun _ => .slice none 0 0) ⟨[], [], []⟩ ⟨[], [], []⟩ ⟨[], [], []⟩ ⟨[], [], []⟩ (p8_nil w) (pJ_nil w) (pJ_nil w) (pJ_nil w)).mono ?_
  rintro e w' ⟨hb, ⟨h, -⟩ | ⟨h, -⟩⟩
  · exact ⟨h, hb⟩
  · exact absurd h.1.t (by decide)

set_option maxRecDepth 100000 in
set_option maxHeartbeats 1600000 in
theorem awake_walk (w : World) : Calls Try.prog 10 #[] w fun e w' => e = .returned (.bool true) ∧ Below w.heap.size w w' := by
  obtain ⟨b0, hb0⟩ : ∃ b0, b0 = w.heap.size := ⟨_, rfl⟩
  have HW : Hid (Below w.heap.size w (((w.alloc (.cells #[.int .i32 40, .int .i32 41, .int .u8 14] 28)).alloc (.cells #[.int .i32 40, .int .i32 41, .int .u8 1, .int .i32 41, .int .i32 40, .int .u8 2] 32)).alloc (.cells #[.int .i32 40, .int .i32 41] 80)) ∧
      SpansAt (((w.alloc (.cells #[.int .i32 40, .int .i32 41, .int .u8 14] 28)).alloc (.cells #[.int .i32 40, .int .i32 41, .int .u8 1, .int .i32 41, .int .i32 40, .int .u8 2] 32)).alloc (.cells #[.int .i32 40, .int .i32 41] 80)) (some ⟨b0, 0, none⟩) awC ∧
      SpansAt (((w.alloc (.cells #[.int .i32 40, .int .i32 41, .int .u8 14] 28)).alloc (.cells #[.int .i32 40, .int .i32 41, .int .u8 1, .int .i32 41, .int .i32 40, .int .u8 2] 32)).alloc (.cells #[.int .i32 40, .int .i32 41] 80)) (some ⟨b0 + 1, 0, none⟩) awB ∧
      TwAt (((w.alloc (.cells #[.int .i32 40, .int .i32 41, .int .u8 14] 28)).alloc (.cells #[.int .i32 40, .int .i32 41, .int .u8 1, .int .i32 41, .int .i32 40, .int .u8 2] 32)).alloc (.cells #[.int .i32 40, .int .i32 41] 80)) (some ⟨b0 + 2, 0, none⟩) awM) := by
    rw [hb0]
    refine Lib.hid ⟨(((Below.refl _ w).alloc (Nat.le_refl _) _).alloc (by simp) _).alloc (by simp; omega) _, spans_one (ty := 28) ?_, spans_two (ty := 32) ?_, tws_one (ty := 80) ?_⟩
    · rw [Below.heap_alloc _ _ _ (by simp; omega), Below.heap_alloc _ _ _ (by simp)]
      exact heap_alloc_new w _
    · rw [Below.heap_alloc _ _ _ (by simp)]
      have := heap_alloc_new (w.alloc (.cells #[.int .i32 40, .int .i32 41, .int .u8 14] 28)) (.cells #[.int .i32 40, .int .i32 41, .int .u8 1, .int .i32 41, .int .i32 40, .int .u8 2] 32)
      simpa using this
    · have := heap_alloc_new ((w.alloc (.cells #[.int .i32 40, .int .i32 41, .int .u8 14] 28)).alloc (.cells #[.int .i32 40, .int .i32 41, .int .u8 1, .int .i32 41, .int .i32 40, .int .u8 2] 32)) (.cells #[.int .i32 40, .int .i32 41] 80)
      simpa using this
  go_enter Try.func10, Try.ntmps10
  go_wp2_with fail
  rw [← hb0]
  generalize (((w.alloc (.cells #[.int .i32 40, .int .i32 41, .int .u8 14] 28)).alloc (.cells #[.int .i32 40, .int .i32 41, .int .u8 1, .int .i32 41, .int .i32 40, .int .u8 2] 32)).alloc (.cells #[.int .i32 40, .int .i32 41] 80)) = w1 at *
  clear hb0
  refine (hand_walk 1 (some ⟨b0, 0, none⟩) 1 1 awC (some ⟨b0 + 1, 0, none⟩) 2 2 awB none 0 0 [] (some ⟨b0 + 2, 0, none⟩) 1 1 awM w1 rfl (by omega) HW.out.2.1 rfl (by omega) HW.out.2.2.1 rfl (by omega) (tws_nil _) rfl (by omega) HW.out.2.2.2).mono ?_
  intro e w2 hq
  obtain ⟨p, rfl, hT, hb⟩ := hand_gives hq aw_bad aw_least
  have HB := Lib.hid (HW.out.1.trans (hb.mono HW.out.1.size))
  have HT := Lib.hid hT
  clear hq hT hb HW
  go_wp2_with fail
  refine (over_nil w2).mono ?_
  rintro e w3 ⟨rfl, hb⟩
  have HB3 := Lib.hid (HB.out.trans (hb.mono HB.out.size))
  have HT3 := Lib.hid (HT.out.below hb)
  clear hb HT HB
  obtain ⟨gc, gb, gt, gm, SC, SB, ST, SM, hTab, -⟩ := HT3.out
  have HTb := Lib.hid hTab
  have HF := Lib.hid (show Fit (fun r => brkF awB (r : Nat)) (fun r => twnF [] (r : Nat)) (fun r => twnF awM (r : Nat)) from hand_fit (by decide) (by decide) (by decide))
  clear hTab HT3
  have hB := Lib.hid (bracket_says HTb.out HF.out 41 (by omega) (by omega))
  have hM := Lib.hid (fun q => mirror_says (HTb.out.drew q) HF.out 40 (by omega) (by omega))
  have hC := Lib.hid (fun q => class_says (HTb.out.drew q) 40 (by omega) (by omega))
  have hC2 := Lib.hid (fun q => class_says (HTb.out.drew q) (-1) (by omega) (by omega))
  have hT := Lib.hid (fun q => twin_says (HTb.out.drew q) HF.out 97 (by omega) (by omega))
  rw [show runeR 41 = 41 from rfl, show brO (brkF awB ((41 : Nat) : Int)) = 40 from rfl, show brS (brkF awB ((41 : Nat) : Int)) = 2 from rfl] at hB
  rw [show runeR 40 = 40 from rfl] at hM hC
  rw [show runeR 97 = 97 from rfl, show twF (fun r => twnF [] (r : Nat)) 97 = 97 from rfl] at hT
  rw [show (clsF 1 awC ((40 : Nat) : Int)) = 14 from rfl] at hC
  rw [show runeR (-1) = 65533 from rfl, show (clsF 1 awC ((65533 : Nat) : Int)) = 1 from rfl] at hC2
  rw [show twnF awM ((40 : Nat) : Int) = 42 from rfl] at hM
  clear HTb HF
  go_wp2_with fail
  refine hB.out.mono ?_
  rintro e w4 ⟨rfl, q1, rfl⟩
  go_wp2_with fail
  refine (hM.out _).mono ?_
  rintro e w4 ⟨rfl, q2, rfl⟩
  rw [drewN_add]
  generalize q1 + q2 = q at *
  go_wp2_with fail
  refine (hC.out _).mono ?_
  rintro e w4 ⟨rfl, q3, rfl⟩
  rw [drewN_add]
  generalize q + q3 = q at *
  go_wp2_with fail
  refine (hC2.out _).mono ?_
  rintro e w4 ⟨rfl, q4, rfl⟩
  rw [drewN_add]
  generalize q + q4 = q at *
  go_wp2_with fail
  refine (hT.out _).mono ?_
  rintro e w4 ⟨rfl, q5, rfl⟩
  go_wp2
  go_ret
  exact ⟨rfl, below_drewN HB3.out _⟩
end Go.Proofs.Ytbmphakfgoompaa

/-
  The walk of TablesKnown.
-/
namespace Go.Proofs.Ytbmphakfgoompaa
open Go.RowKit

theorem kn_least : Least (wrongF (fun r => clsF 1 [⟨48, 57, 4⟩, ⟨53, 53, 7⟩] (r : Nat)) (fun r => brkF [] (r : Nat)) (fun r => twnF [] (r : Nat)) (fun r => twnF [] (r : Nat))) 1114112 1114112 := .none (fun r _ => rfl)
theorem kn_least1 : Least (wrongF (fun r => clsF 14 [] (r : Nat)) (fun r => brkF [⟨40, 41, 1⟩] (r : Nat)) (fun r => twnF [] (r : Nat)) (fun r => twnF [] (r : Nat))) 1114112 40 := by
  refine .hit (by omega) (by decide) (fun r hr => ?_)
  have e : brkF [⟨40, 41, 1⟩] (r : Nat) = 0 := if_neg (show ¬ (40 : Int) = (r : Nat) by omega)
  simp only [wrongF, e]
  rfl
theorem kn_least2 : Least (wrongF (fun r => clsF 1 [] (r : Nat)) (fun r => brkF [⟨40, 41, 1⟩, ⟨41, 40, 2⟩] (r : Nat)) (fun r => twnF [] (r : Nat)) (fun r => twnF [] (r : Nat))) 1114112 40 := by
  refine .hit (by omega) (by decide) (fun r hr => ?_)
  have e : brkF [⟨40, 41, 1⟩, ⟨41, 40, 2⟩] (r : Nat) = 0 := (if_neg (show ¬ (41 : Int) = (r : Nat) by omega)).trans (if_neg (show ¬ (40 : Int) = (r : Nat) by omega))
  simp only [wrongF, e]
  rfl

set_option maxRecDepth 100000 in
set_option maxHeartbeats 1600000 in
theorem tablesKnown_walk (w0 : World) : Calls Try.prog 3 #[] w0 fun e w' => e = .returned (.bool true) ∧ Below w0.heap.size w0 w' := by
  have HB := Lib.hid (Below.refl w0.heap.size w0)
  go_enter Try.func3, Try.ntmps3
  have a0 := heap_alloc_new w0 (.cells #[.int .i32 48, .int .i32 57, .int .u8 4, .int .i32 53, .int .i32 53, .int .u8 7] 28)
  have b0 := (Below.refl _ w0).alloc (Nat.le_refl _) (.cells #[.int .i32 48, .int .i32 57, .int .u8 4, .int .i32 53, .int .i32 53, .int .u8 7] 28)
  have HX := Lib.hid (spans_two a0)
  have HV := Lib.hid (HB.out.trans (b0.mono HB.out.size))
  skip
  clear a0 b0
  go_wp2_with fail
  obtain ⟨g0, hg0⟩ : ∃ g, g = w0.heap.size := ⟨_, rfl⟩
  rw [← hg0] at HX ⊢
  generalize w0.alloc (.cells #[.int .i32 48, .int .i32 57, .int .u8 4, .int .i32 53, .int .i32 53, .int .u8 7] 28) = v0 at *
  clear hg0
  refine (hand_walk 1 (some ⟨g0, 0, none⟩) 2 2 [⟨48, 57, 4⟩, ⟨53, 53, 7⟩] none 0 0 [] none 0 0 [] none 0 0 [] v0 rfl (by omega) HX.out rfl (by omega) (spans_nil _) rfl (by omega) (tws_nil _) rfl (by omega) (tws_nil _)).mono ?_
  intro e w1 hq
  obtain ⟨p, rfl, hT, hb⟩ := hand_gives hq (by decide) kn_least
  have HT := Lib.hid hT
  have HB' := Lib.hid (HV.out.trans (hb.mono HV.out.size))
  clear HB hT hq hb HX HV
  have HB := HB'
  clear HB'
  have a1 := heap_alloc_new w1 (.cells #[.int .i32 40, .int .i32 41, .int .u8 1] 32)
  have b1 := (Below.refl _ w1).alloc (Nat.le_refl _) (.cells #[.int .i32 40, .int .i32 41, .int .u8 1] 32)
  have HX := Lib.hid (spans_one a1)
  have HV := Lib.hid (HB.out.trans (b1.mono HB.out.size))
  have HU := Lib.hid (HT.out.below b1)
  clear HT
  clear a1 b1
  go_wp2_with fail
  obtain ⟨g1, hg1⟩ : ∃ g, g = w1.heap.size := ⟨_, rfl⟩
  rw [← hg1] at HX ⊢
  generalize w1.alloc (.cells #[.int .i32 40, .int .i32 41, .int .u8 1] 32) = v1 at *
  clear hg1
  refine (hand_walk 14 none 0 0 [] (some ⟨g1, 0, none⟩) 1 1 [⟨40, 41, 1⟩] none 0 0 [] none 0 0 [] v1 rfl (by omega) (spans_nil _) rfl (by omega) HX.out rfl (by omega) (tws_nil _) rfl (by omega) (tws_nil _)).mono ?_
  intro e w2 hq
  obtain ⟨rfl, hb⟩ := hand_amiss hq (by decide) (k := 40) (by omega) kn_least1
  have HT := Lib.hid (HU.out.below hb)
  have HB' := Lib.hid (HV.out.trans (hb.mono HV.out.size))
  clear HB HU hq hb HV HX
  have HB := HB'
  clear HB'
  have a2 := heap_alloc_new w2 (.cells #[.int .i32 40, .int .i32 41, .int .u8 1, .int .i32 41, .int .i32 40, .int .u8 2] 32)
  have b2 := (Below.refl _ w2).alloc (Nat.le_refl _) (.cells #[.int .i32 40, .int .i32 41, .int .u8 1, .int .i32 41, .int .i32 40, .int .u8 2] 32)
  have HX := Lib.hid (spans_two a2)
  have HV := Lib.hid (HB.out.trans (b2.mono HB.out.size))
  have HU := Lib.hid (HT.out.below b2)
  clear HT
  clear a2 b2
  go_wp2_with fail
  obtain ⟨g2, hg2⟩ : ∃ g, g = w2.heap.size := ⟨_, rfl⟩
  rw [← hg2] at HX ⊢
  generalize w2.alloc (.cells #[.int .i32 40, .int .i32 41, .int .u8 1, .int .i32 41, .int .i32 40, .int .u8 2] 32) = v2 at *
  clear hg2
  refine (hand_walk 1 none 0 0 [] (some ⟨g2, 0, none⟩) 2 2 [⟨40, 41, 1⟩, ⟨41, 40, 2⟩] none 0 0 [] none 0 0 [] v2 rfl (by omega) (spans_nil _) rfl (by omega) HX.out rfl (by omega) (tws_nil _) rfl (by omega) (tws_nil _)).mono ?_
  intro e w3 hq
  obtain ⟨rfl, hb⟩ := hand_amiss hq (by decide) (k := 40) (by omega) kn_least2
  have HT := Lib.hid (HU.out.below hb)
  have HB' := Lib.hid (HV.out.trans (hb.mono HV.out.size))
  clear HB HU hq hb HV HX
  have HB := HB'
  clear HB'
  go_wp2_with fail
  have HV := Lib.hid HB.out
  have HU := Lib.hid HT.out
  clear HT
  refine (hand_walk 0 none 0 0 [] none 0 0 [] none 0 0 [] none 0 0 [] w3 rfl (by omega) (spans_nil _) rfl (by omega) (spans_nil _) rfl (by omega) (tws_nil _) rfl (by omega) (tws_nil _)).mono ?_
  intro e w4 hq
  obtain ⟨rfl, hb⟩ := hand_bad hq (r := 0) (by decide)
  have HT := Lib.hid (HU.out.below hb)
  have HB' := Lib.hid (HV.out.trans (hb.mono HV.out.size))
  clear HB HU hq hb HV
  have HB := HB'
  clear HB'
  have a4 := heap_alloc_new w4 (.cells #[.int .i32 5, .int .i32 4, .int .u8 1] 28)
  have b4 := (Below.refl _ w4).alloc (Nat.le_refl _) (.cells #[.int .i32 5, .int .i32 4, .int .u8 1] 28)
  have HX := Lib.hid (spans_one a4)
  have HV := Lib.hid (HB.out.trans (b4.mono HB.out.size))
  have HU := Lib.hid (HT.out.below b4)
  clear HT
  clear a4 b4
  go_wp2_with fail
  obtain ⟨g4, hg4⟩ : ∃ g, g = w4.heap.size := ⟨_, rfl⟩
  rw [← hg4] at HX ⊢
  generalize w4.alloc (.cells #[.int .i32 5, .int .i32 4, .int .u8 1] 28) = v4 at *
  clear hg4
  refine (hand_walk 1 (some ⟨g4, 0, none⟩) 1 1 [⟨5, 4, 1⟩] none 0 0 [] none 0 0 [] none 0 0 [] v4 rfl (by omega) HX.out rfl (by omega) (spans_nil _) rfl (by omega) (tws_nil _) rfl (by omega) (tws_nil _)).mono ?_
  intro e w5 hq
  obtain ⟨rfl, hb⟩ := hand_bad hq (r := 5) (by decide)
  have HT := Lib.hid (HU.out.below hb)
  have HB' := Lib.hid (HV.out.trans (hb.mono HV.out.size))
  clear HB HU hq hb HV HX
  have HB := HB'
  clear HB'
  have a5 := heap_alloc_new w5 (.cells #[.int .i32 40, .int .i32 40, .int .u8 1] 32)
  have b5 := (Below.refl _ w5).alloc (Nat.le_refl _) (.cells #[.int .i32 40, .int .i32 40, .int .u8 1] 32)
  have HX := Lib.hid (spans_one a5)
  have HV := Lib.hid (HB.out.trans (b5.mono HB.out.size))
  have HU := Lib.hid (HT.out.below b5)
  clear HT
  clear a5 b5
  go_wp2_with fail
  obtain ⟨g5, hg5⟩ : ∃ g, g = w5.heap.size := ⟨_, rfl⟩
  rw [← hg5] at HX ⊢
  generalize w5.alloc (.cells #[.int .i32 40, .int .i32 40, .int .u8 1] 32) = v5 at *
  clear hg5
  refine (hand_walk 14 none 0 0 [] (some ⟨g5, 0, none⟩) 1 1 [⟨40, 40, 1⟩] none 0 0 [] none 0 0 [] v5 rfl (by omega) (spans_nil _) rfl (by omega) HX.out rfl (by omega) (tws_nil _) rfl (by omega) (tws_nil _)).mono ?_
  intro e w6 hq
  obtain ⟨rfl, hb⟩ := hand_bad hq (r := 40) (by decide)
  have HT := Lib.hid (HU.out.below hb)
  have HB' := Lib.hid (HV.out.trans (hb.mono HV.out.size))
  clear HB HU hq hb HV HX
  have HB := HB'
  clear HB'
  obtain ⟨gc, gb, gt, gm, SC, SB, ST, SM, hTab, -⟩ := HT.out
  have HTb := Lib.hid hTab
  clear hTab HT
  have hC1 := Lib.hid (class_says HTb.out 52 (by omega) (by omega))
  have hC2 := Lib.hid (fun q => class_says (HTb.out.drew q) 53 (by omega) (by omega))
  have hC3 := Lib.hid (fun q => class_says (HTb.out.drew q) 65 (by omega) (by omega))
  rw [show runeR 52 = 52 from rfl, show (clsF 1 [⟨48, 57, 4⟩, ⟨53, 53, 7⟩] ((52 : Nat) : Int)) = 4 from by decide] at hC1
  rw [show runeR 53 = 53 from rfl, show (clsF 1 [⟨48, 57, 4⟩, ⟨53, 53, 7⟩] ((53 : Nat) : Int)) = 7 from by decide] at hC2
  rw [show runeR 65 = 65 from rfl, show (clsF 1 [⟨48, 57, 4⟩, ⟨53, 53, 7⟩] ((65 : Nat) : Int)) = 1 from by decide] at hC3
  clear HTb
  go_wp2_with fail
  refine hC1.out.mono ?_
  rintro e w7 ⟨rfl, q1, rfl⟩
  go_wp2_with fail
  refine (hC2.out _).mono ?_
  rintro e w7 ⟨rfl, q2, rfl⟩
  rw [drewN_add]
  generalize q1 + q2 = q at *
  go_wp2_with fail
  refine (hC3.out _).mono ?_
  rintro e w7 ⟨rfl, q3, hw7⟩
  have HB7 := Lib.hid (below_drewN (below_drewN HB.out q) q3)
  rw [← hw7] at HB7
  clear hw7
  go_wp2_with fail
  refine (awake_walk w7).mono ?_
  rintro e w8 ⟨rfl, hb⟩
  have HB8 := Lib.hid (HB7.out.trans (hb.mono HB7.out.size))
  clear hb
  go_wp2
  go_ret
  exact ⟨rfl, HB8.out⟩
end Go.Proofs.Ytbmphakfgoompaa
