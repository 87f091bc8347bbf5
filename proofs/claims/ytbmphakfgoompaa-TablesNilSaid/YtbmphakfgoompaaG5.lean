/- several texts in one: UA UN -/
import Derived.Test.YtbmphakfgoompaaG3
import Derived.Test.YtbmphakfgoompaaG4
set_option linter.unusedVariables false
set_option linter.unusedSimpArgs false
/-
  The walk of 'awake' (tables).
-/
namespace Go.Proofs.Ytbmphakfgoompaa
open Go.RowKit

theorem spans_nil (w : World) : SpansAt w none [] := fun i h => absurd h (by simp)
theorem tws_nil (w : World) : TwAt w none [] := fun i h => absurd h (by simp)
theorem spans_one {w : World} {b : Nat} {ty : TypeId} {x y z : Int} (h : w.heap[b]? = some (.cells #[.int .i32 x, .int .i32 y, .int .u8 z] ty (0, 0))) : SpansAt w (some ⟨b, 0, none⟩) [⟨x, y, z⟩] := fun i hi => by
  obtain rfl : i = 0 := by simp at hi; exact hi
  exact ⟨b, 0, rfl, cell_of_row w b 0 _ _ (0, 0) h, cell_of_row w b 1 _ _ (0, 0) h, cell_of_row w b 2 _ _ (0, 0) h⟩
theorem spans_two {w : World} {b : Nat} {ty : TypeId} {x y z x' y' z' : Int} (h : w.heap[b]? = some (.cells #[.int .i32 x, .int .i32 y, .int .u8 z, .int .i32 x', .int .i32 y', .int .u8 z'] ty (0, 0))) : SpansAt w (some ⟨b, 0, none⟩) [⟨x, y, z⟩, ⟨x', y', z'⟩] := fun i hi => by
  have hi2 : i < 2 := hi
  have hc : i = 0 ∨ i = 1 := by omega
  rcases hc with rfl | rfl
  · exact ⟨b, 0, rfl, cell_of_row w b 0 _ _ (0, 0) h, cell_of_row w b 1 _ _ (0, 0) h, cell_of_row w b 2 _ _ (0, 0) h⟩
  · exact ⟨b, 0, rfl, cell_of_row w b 3 _ _ (0, 0) h, cell_of_row w b 4 _ _ (0, 0) h, cell_of_row w b 5 _ _ (0, 0) h⟩
theorem tws_one {w : World} {b : Nat} {ty : TypeId} {x y : Int} (h : w.heap[b]? = some (.cells #[.int .i32 x, .int .i32 y] ty (0, 0))) : TwAt w (some ⟨b, 0, none⟩) [⟨x, y⟩] := fun i hi => by
  obtain rfl : i = 0 := by simp at hi; exact hi
  exact ⟨b, 0, rfl, cell_of_row w b 0 _ _ (0, 0) h, cell_of_row w b 1 _ _ (0, 0) h⟩

/-- the rows of 'awake' -/
def awC : List SpanD := [⟨40, 41, 14⟩]
def awB : List SpanD := [⟨40, 41, 1⟩, ⟨41, 40, 2⟩]
def awM : List TwD := [⟨40, 41⟩]
theorem aw_bad : handBad 1 awC awB [] awM = none := by decide
theorem aw_c (x : Int) : clsF 1 awC x = if 40 ≤ x ∧ x ≤ 41 then 14 else 1 := rfl
theorem aw_b (x : Int) : brkF awB x = if 41 = x then -41 else if 40 = x then 42 else 0 := rfl
theorem aw_t (x : Int) : twnF [] x = 0 := rfl
theorem aw_m (x : Int) : twnF awM x = if 40 = x then 42 else 0 := rfl
theorem aw_least : Least (wrongF (fun r => clsF 1 awC (r : Nat)) (fun r => brkF awB (r : Nat)) (fun r => twnF [] (r : Nat)) (fun r => twnF awM (r : Nat))) 1114112 1114112 := by
  refine .none (fun r _ => ?_)
  by_cases h1 : r = 40
  · subst h1; decide
  · by_cases h2 : r = 41
    · subst h2; decide
    · simp only [wrongF, aw_b, aw_t, aw_m]
      rw [if_neg (by omega), if_neg (by omega)]
      rfl
theorem hand_gives {w : World} {rest : Int} {l1 l2 : List SpanD} {l3 l4 : List TwD} {e : Ending} {w' : World} (h : HandQ w rest l1 l2 l3 l4 e w') (hb : handBad rest l1 l2 l3 l4 = none)
    (hl : Least (wrongF (fun r => clsF rest l1 (r : Nat)) (fun r => brkF l2 (r : Nat)) (fun r => twnF l3 (r : Nat)) (fun r => twnF l4 (r : Nat))) 1114112 1114112) :
    ∃ p, e = .returned (.tuple #[.pointer (some ⟨p, 0, none⟩), .int .i32 0, .int .i64 0]) ∧ HTab w' p (fun r => clsF rest l1 (r : Nat)) (fun r => brkF l2 (r : Nat)) (fun r => twnF l3 (r : Nat)) (fun r => twnF l4 (r : Nat)) w.heap.size ∧ Below w.heap.size w w' := by
  obtain ⟨hbel, ⟨r, h1, -⟩ | ⟨-, p, k, h1, h2, h3⟩⟩ := h
  · rw [hb] at h1; cases h1
  · obtain rfl := h1.unique hl
    exact ⟨p, by rw [h2]; rfl, h3, hbel⟩
theorem hand_amiss {w : World} {rest : Int} {l1 l2 : List SpanD} {l3 l4 : List TwD} {e : Ending} {w' : World} (h : HandQ w rest l1 l2 l3 l4 e w') (hb : handBad rest l1 l2 l3 l4 = none) {k : Nat} (hk : k < 1114112)
    (hl : Least (wrongF (fun r => clsF rest l1 (r : Nat)) (fun r => brkF l2 (r : Nat)) (fun r => twnF l3 (r : Nat)) (fun r => twnF l4 (r : Nat))) 1114112 k) :
    e = .returned (.tuple #[.pointer none, .int .i32 (k : Nat), .int .i64 141]) ∧ Below w.heap.size w w' := by
  obtain ⟨hbel, ⟨r, h1, -⟩ | ⟨-, p, q, h1, h2, h3⟩⟩ := h
  · rw [hb] at h1; cases h1
  · obtain rfl := h1.unique hl
    exact ⟨by rw [h2, wholeE, if_pos hk], hbel⟩
theorem hand_bad {w : World} {rest : Int} {l1 l2 : List SpanD} {l3 l4 : List TwD} {e : Ending} {w' : World} (h : HandQ w rest l1 l2 l3 l4 e w') {r : Int} (hb : handBad rest l1 l2 l3 l4 = some r) :
    e = .returned (.tuple #[.pointer none, .int .i32 r, .int .i64 2]) ∧ Below w.heap.size w w' := by
  obtain ⟨hbel, ⟨r', h1, h2⟩ | ⟨h1, -⟩⟩ := h
  · rw [hb] at h1; cases h1
    exact ⟨h2, hbel⟩
  · rw [hb] at h1; cases h1
theorem p8_nil (w : World) : P8 w (.slice none 0 0) (.slice none 0 0) (.slice none 0 0) [] [] [] :=
  ⟨⟨none, 0, 0, none, 0, 0, none, 0, 0, rfl, rfl, rfl, rfl, rfl, rfl, ⟨Nat.le_refl _, Nat.zero_le _⟩, ⟨Nat.le_refl _, Nat.zero_le _⟩, ⟨Nat.le_refl _, Nat.zero_le _⟩, fun i h => absurd h (by simp), fun i h => absurd h (by simp), fun i h => absurd h (by simp)⟩, fun z h => absurd h (by simp), fun z h => absurd h (by simp)⟩
theorem pJ_nil (w : World) : PJ w (.slice none 0 0) (.slice none 0 0) (.slice none 0 0) [] [] [] :=
  ⟨⟨none, 0, 0, none, 0, 0, none, 0, 0, rfl, rfl, rfl, rfl, rfl, rfl, ⟨Nat.le_refl _, Nat.zero_le _⟩, ⟨Nat.le_refl _, Nat.zero_le _⟩, ⟨Nat.le_refl _, Nat.zero_le _⟩, fun i h => absurd h (by simp), fun i h => absurd h (by simp), fun i h => absurd h (by simp)⟩, fun z h => absurd h (by simp), fun z h => absurd h (by simp)⟩
theorem over_nil (w : World) : Calls Try.prog 22 #[.agg #[.slice none 0 0, .slice none 0 0, .slice none 0 0, .slice none 0 0, .slice none 0 0, .slice none 0 0, .slice none 0 0, .slice none 0 0, .slice none 0 0, .slice none 0 0, .slice none 0 0, .slice none 0 0]] w fun e w' =>
    e = .returned (.tuple #[.pointer none, .int .i32 0, .int .i64 140]) ∧ Below w.heap.size w w' := by
  refine (over_walk w (fun _ => .slice none 0 0) ⟨[], [], []⟩ ⟨[], [], []⟩ ⟨[], [], []⟩ ⟨[], [], []⟩ (p8_nil w) (pJ_nil w) (pJ_nil w) (pJ_nil w)).mono ?_
  rintro e w' ⟨hb, ⟨h, -⟩ | ⟨h, -⟩⟩
  · exact ⟨h, hb⟩
  · exact absurd h.1.t (by decide)

set_option maxRecDepth 100000 in
set_option maxHeartbeats 1600000 in
theorem awake_walk (w : World) : Calls Try.prog 10 #[] w fun e w' => e = .returned (.bool true) ∧ Below w.heap.size w w' := by
  obtain ⟨b0, hb0⟩ : ∃ b0, b0 = w.heap.size := ⟨_, rfl⟩
  have HW : Hid (Below w.heap.size w (((w.alloc (.cells #[.int .i32 40, .int .i32 41, .int .u8 14] 28)).alloc (.cells #[.int .i32 40, .int .i32 41, .int .u8 1, .int .i32 41, .int .i32 40, .int .u8 2] 32)).alloc (.cells #[.int .i32 40, .int .i32 41] 80)) ∧
      SpansAt (((w.alloc (.cells #[.int .i32 40, .int .i32 41, .int .u8 14] 28)).alloc (.cells #[.int .i32 40, .int .i32 41, .int .u8 1, .int .i32 41, .int .i32 40, .int .u8 2] 32)).alloc (.cells #[.int .i32 40, .int .i32 41] 80)) (some ⟨b0, 0, none⟩) awC ∧
      SpansAt (((w.alloc (.cells #[.int .i32 40, .int .i32 41, .int .u8 14] 28)).alloc (.cells #[.int .i32 40, .int .i32 41, .int .u8 1, .int .i32 41, .int .i32 40, .int .u8 2] 32)).alloc (.cells #[.int .i32 40, .int .i32 41] 80)) (some ⟨b0 + 1, 0, none⟩) awB ∧
      TwAt (((w.alloc (.cells #[.int .i32 40, .int .i32 41, .int .u8 14] 28)).alloc (.cells #[.int .i32 40, .int .i32 41, .int .u8 1, .int .i32 41, .int .i32 40, .int .u8 2] 32)).alloc (.cells #[.int .i32 40, .int .i32 41] 80)) (some ⟨b0 + 2, 0, none⟩) awM) := by
    rw [hb0]
    refine Lib.hid ⟨(((Below.refl _ w).alloc (Nat.le_refl _) _).alloc (by simp) _).alloc (by simp; omega) _, spans_one (ty := 28) ?_, spans_two (ty := 32) ?_, tws_one (ty := 80) ?_⟩
    · rw [Below.heap_alloc _ _ _ (by simp; omega), Below.heap_alloc _ _ _ (by simp)]
      exact heap_alloc_new w _
    · rw [Below.heap_alloc _ _ _ (by simp)]
      have := heap_alloc_new (w.alloc (.cells #[.int .i32 40, .int .i32 41, .int .u8 14] 28)) (.cells #[.int .i32 40, .int .i32 41, .int .u8 1, .int .i32 41, .int .i32 40, .int .u8 2] 32)
      simpa using this
    · have := heap_alloc_new ((w.alloc (.cells #[.int .i32 40, .int .i32 41, .int .u8 14] 28)).alloc (.cells #[.int .i32 40, .int .i32 41, .int .u8 1, .int .i32 41, .int .i32 40, .int .u8 2] 32)) (.cells #[.int .i32 40, .int .i32 41] 80)
      simpa using this
  go_enter Try.func10, Try.ntmps10
  go_wp2_with fail
  rw [← hb0]
  generalize (((w.alloc (.cells #[.int .i32 40, .int .i32 41, .int .u8 14] 28)).alloc (.cells #[.int .i32 40, .int .i32 41, .int .u8 1, .int .i32 41, .int .i32 40, .int .u8 2] 32)).alloc (.cells #[.int .i32 40, .int .i32 41] 80)) = w1 at *
  clear hb0
  refine (hand_walk 1 (some ⟨b0, 0, none⟩) 1 1 awC (some ⟨b0 + 1, 0, none⟩) 2 2 awB none 0 0 [] (some ⟨b0 + 2, 0, none⟩) 1 1 awM w1 rfl (by omega) HW.out.2.1 rfl (by omega) HW.out.2.2.1 rfl (by omega) (tws_nil _) rfl (by omega) HW.out.2.2.2).mono ?_
  intro e w2 hq
  obtain ⟨p, rfl, hT, hb⟩ := hand_gives hq aw_bad aw_least
  have HB := Lib.hid (HW.out.1.trans (hb.mono HW.out.1.size))
  have HT := Lib.hid hT
  clear hq hT hb HW
  go_wp2_with fail
  refine (over_nil w2).mono ?_
  rintro e w3 ⟨rfl, hb⟩
  have HB3 := Lib.hid (HB.out.trans (hb.mono HB.out.size))
  have HT3 := Lib.hid (HT.out.below hb)
  clear hb HT HB
  obtain ⟨gc, gb, gt, gm, SC, SB, ST, SM, hTab, -⟩ := HT3.out
  have HTb := Lib.hid hTab
  have HF := Lib.hid (show Fit (fun r => brkF awB (r : Nat)) (fun r => twnF [] (r : Nat)) (fun r => twnF awM (r : Nat)) from hand_fit (by decide) (by decide) (by decide))
  clear hTab HT3
  have hB := Lib.hid (bracket_says HTb.out HF.out 41 (by omega) (by omega))
  have hM := Lib.hid (fun q => mirror_says (HTb.out.drew q) HF.out 40 (by omega) (by omega))
  have hC := Lib.hid (fun q => class_says (HTb.out.drew q) 40 (by omega) (by omega))
  have hC2 := Lib.hid (fun q => class_says (HTb.out.drew q) (-1) (by omega) (by omega))
  have hT := Lib.hid (fun q => twin_says (HTb.out.drew q) HF.out 97 (by omega) (by omega))
  rw [show runeR 41 = 41 from rfl, show brO (brkF awB ((41 : Nat) : Int)) = 40 from rfl, show brS (brkF awB ((41 : Nat) : Int)) = 2 from rfl] at hB
  rw [show runeR 40 = 40 from rfl] at hM hC
  rw [show runeR 97 = 97 from rfl, show twF (fun r => twnF [] (r : Nat)) 97 = 97 from rfl] at hT
  rw [show (clsF 1 awC ((40 : Nat) : Int)) = 14 from rfl] at hC
  rw [show runeR (-1) = 65533 from rfl, show (clsF 1 awC ((65533 : Nat) : Int)) = 1 from rfl] at hC2
  rw [show twnF awM ((40 : Nat) : Int) = 42 from rfl] at hM
  clear HTb HF
  go_wp2_with fail
  refine hB.out.mono ?_
  rintro e w4 ⟨rfl, q1, rfl⟩
  go_wp2_with fail
  refine (hM.out _).mono ?_
  rintro e w4 ⟨rfl, q2, rfl⟩
  rw [drewN_add]
  generalize q1 + q2 = q at *
  go_wp2_with fail
  refine (hC.out _).mono ?_
  rintro e w4 ⟨rfl, q3, rfl⟩
  rw [drewN_add]
  generalize q + q3 = q at *
  go_wp2_with fail
  refine (hC2.out _).mono ?_
  rintro e w4 ⟨rfl, q4, rfl⟩
  rw [drewN_add]
  generalize q + q4 = q at *
  go_wp2_with fail
  refine (hT.out _).mono ?_
  rintro e w4 ⟨rfl, q5, rfl⟩
  go_wp2
  go_ret
  exact ⟨rfl, below_drewN HB3.out _⟩
end Go.Proofs.Ytbmphakfgoompaa

/-
  The walk of TablesNil: no tables, no props.
-/
namespace Go.Proofs.Ytbmphakfgoompaa
open Go.RowKit

theorem thereT_nil (w : World) : Calls Try.prog 36 #[.pointer none] w fun e w' => e = .returned (.bool false) ∧ w' = w := by
  go_enter Try.func36, Try.ntmps36
  go_wp2
  go_ret
  exact ⟨rfl, rfl⟩
theorem class_nil (w : World) (r : Int) : Calls Try.prog 9 #[.pointer none, .int .i32 r] w fun e w' => e = .returned (.int .u8 0) ∧ w' = w := by
  go_enter Try.func9, Try.ntmps9
  go_wp2_with fail
  refine (thereT_nil w).mono ?_
  rintro e w1 ⟨rfl, h1⟩
  subst h1
  go_wp2
  go_ret
  exact ⟨rfl, rfl⟩
theorem twin_nil (w : World) (r : Int) : Calls Try.prog 20 #[.pointer none, .int .i32 r] w fun e w' => e = .returned (.int .i32 r) ∧ w' = w := by
  go_enter Try.func20, Try.ntmps20
  go_wp2_with fail
  refine (thereT_nil w).mono ?_
  rintro e w1 ⟨rfl, h1⟩
  subst h1
  go_wp2
  go_ret
  exact ⟨rfl, rfl⟩
theorem bracket_nil (w : World) (r : Int) : Calls Try.prog 19 #[.pointer none, .int .i32 r] w fun e w' => e = .returned (.tuple #[.int .i32 0, .int .u8 0]) ∧ w' = w := by
  go_enter Try.func19, Try.ntmps19
  go_wp2_with fail
  refine (thereT_nil w).mono ?_
  rintro e w1 ⟨rfl, h1⟩
  subst h1
  go_wp2
  refine bodyPost_ret (v := .tuple #[.int .i32 0, .int .u8 0]) (by simp [results, Try.results19, go_sem]) rfl ?_
  exact ⟨rfl, rfl⟩
theorem mirror_nil (w : World) (r : Int) : Calls Try.prog 21 #[.pointer none, .int .i32 r] w fun e w' => e = .returned (.tuple #[.int .i32 0, .bool false]) ∧ w' = w := by
  go_enter Try.func21, Try.ntmps21
  go_wp2_with fail
  refine (thereT_nil w).mono ?_
  rintro e w1 ⟨rfl, h1⟩
  subst h1
  go_wp2
  refine bodyPost_ret (v := .tuple #[.int .i32 0, .bool false]) (by simp [results, Try.results21, go_sem]) rfl ?_
  exact ⟨rfl, rfl⟩
theorem pack_nil (w : World) : Calls Try.prog 18 #[.nilIface] w fun e w' => e = .returned (.tuple #[.pointer none, .int .i32 0, .int .i64 1]) ∧ Below w.heap.size w w' := by
  go_enter Try.func18, Try.ntmps18
  have HB := Lib.hid ((Below.refl _ w).alloc (Nat.le_refl _) (.cells #[.nilIface] 93))
  have hA := heap_alloc_new w (.cells #[.nilIface] 93)
  have q0 := cell_of_row _ w.heap.size 0 _ _ (0, 0) hA
  simp only [List.getElem?_toArray, List.getElem?_cons_zero] at q0
  clear hA
  go_wp2
  refine bodyPost_ret (v := .tuple #[.pointer none, .int .i32 0, .int .i64 1]) (by simp [results, Try.results18, go_sem]) rfl ?_
  exact ⟨rfl, HB.out⟩
theorem classes_nil (w : World) (a : Option Addr) (n c : Nat) : Calls Try.prog 12 #[.nilIface, .slice a n c] w fun e w' => e = .returned (.slice none 0 0) ∧ w' = w := by
  go_enter Try.func12, Try.ntmps12
  go_wp2
  go_ret
  exact ⟨rfl, rfl⟩
theorem alike_nil (w : World) : Calls Try.prog 15 #[.nilIface, .nilIface] w fun e w' => e = .returned (.tuple #[.int .i32 0, .bool false]) ∧ ∃ n, w' = w.drewN n := by
  go_enter Try.func15, Try.ntmps15
  go_wp2
  go_quiet (fail)
  go_wp2
  refine bodyPost_ret (v := .tuple #[.int .i32 0, .bool false]) (by simp [results, Try.results15, go_sem]) rfl ?_
  exact ⟨rfl, _, rfl⟩
theorem alike_nil1 (w : World) (x : Value) (t : TypeId) : Calls Try.prog 15 #[.nilIface, .iface t x] w fun e w' => e = .returned (.tuple #[.int .i32 0, .bool true]) ∧ ∃ n, w' = w.drewN n := by
  go_enter Try.func15, Try.ntmps15
  go_wp2
  go_quiet (fail)
  go_wp2
  refine bodyPost_ret (v := .tuple #[.int .i32 0, .bool true]) (by simp [results, Try.results15, go_sem]) rfl ?_
  exact ⟨rfl, _, rfl⟩
theorem alike_nil2 (w : World) (x : Value) (t : TypeId) : Calls Try.prog 15 #[.iface t x, .nilIface] w fun e w' => e = .returned (.tuple #[.int .i32 0, .bool true]) ∧ ∃ n, w' = w.drewN n := by
  go_enter Try.func15, Try.ntmps15
  go_wp2
  go_quiet (fail)
  go_wp2
  refine bodyPost_ret (v := .tuple #[.int .i32 0, .bool true]) (by simp [results, Try.results15, go_sem]) rfl ?_
  exact ⟨rfl, _, rfl⟩
theorem packed_nil (w : World) : Calls Try.prog 23 #[.pointer none] w fun e w' => e = .returned (.agg #[.slice none 0 0, .slice none 0 0, .slice none 0 0, .slice none 0 0, .slice none 0 0, .slice none 0 0, .slice none 0 0, .slice none 0 0, .slice none 0 0, .slice none 0 0, .slice none 0 0, .slice none 0 0]) ∧ Below w.heap.size w w' := by
  go_enter Try.func23, Try.ntmps23
  go_wp2_with fail
  have hA := heap_alloc_new w (.cells #[.slice none 0 0, .slice none 0 0, .slice none 0 0, .slice none 0 0, .slice none 0 0, .slice none 0 0, .slice none 0 0, .slice none 0 0, .slice none 0 0, .slice none 0 0, .slice none 0 0, .slice none 0 0] 70)
  have hB := (Below.refl _ w).alloc (Nat.le_refl _) (.cells #[.slice none 0 0, .slice none 0 0, .slice none 0 0, .slice none 0 0, .slice none 0 0, .slice none 0 0, .slice none 0 0, .slice none 0 0, .slice none 0 0, .slice none 0 0, .slice none 0 0, .slice none 0 0] 70)
  obtain ⟨b0, hb0⟩ : ∃ b0, b0 = w.heap.size := ⟨_, rfl⟩
  rw [← hb0] at hA ⊢
  generalize w.alloc (.cells #[.slice none 0 0, .slice none 0 0, .slice none 0 0, .slice none 0 0, .slice none 0 0, .slice none 0 0, .slice none 0 0, .slice none 0 0, .slice none 0 0, .slice none 0 0, .slice none 0 0, .slice none 0 0] 70) = w1 at *
  refine (thereT_nil w1).mono ?_
  rintro e w2 ⟨rfl, h1⟩
  subst h1
  have HB := Lib.hid hB
  have HA := Lib.hid hA
  have hb1 : w.heap.size ≤ b0 := Nat.le_of_eq hb0.symm
  clear hb0 hA hB
  go_upto_region 2 with (fail)
  refine wp_region_list ?_
  refine wpList_val (v := .agg #[.slice none 0 0, .slice none 0 0, .slice none 0 0, .slice none 0 0, .slice none 0 0, .slice none 0 0, .slice none 0 0, .slice none 0 0, .slice none 0 0, .slice none 0 0, .slice none 0 0, .slice none 0 0]) (w' := w2) rfl (by kernel_rfl) ?_
  refine wpList_store_row rfl 70 (.tmp 2) (.tmp 6) rfl b0 #[.slice none 0 0, .slice none 0 0, .slice none 0 0, .slice none 0 0, .slice none 0 0, .slice none 0 0, .slice none 0 0, .slice none 0 0, .slice none 0 0, .slice none 0 0, .slice none 0 0, .slice none 0 0] rfl rfl 70 _ HA.out (by kernel_rfl) rfl (all_oneCell_toArray (fun u hu => by simp at hu; rw [hu]; rfl)) ?_
  have y2 := setRow_heap w2 b0 _ #[.slice none 0 0, .slice none 0 0, .slice none 0 0, .slice none 0 0, .slice none 0 0, .slice none 0 0, .slice none 0 0, .slice none 0 0, .slice none 0 0, .slice none 0 0, .slice none 0 0, .slice none 0 0] _ _ HA.out
  have hb2 : Below w.heap.size w (w2.setRow b0 #[.slice none 0 0, .slice none 0 0, .slice none 0 0, .slice none 0 0, .slice none 0 0, .slice none 0 0, .slice none 0 0, .slice none 0 0, .slice none 0 0, .slice none 0 0, .slice none 0 0, .slice none 0 0]) := HB.out.trans ⟨rfl, rfl, rfl, by rw [setRow_size]; exact Nat.le_refl _, fun k hk => setRow_other w2 b0 k _ (by omega)⟩
  generalize w2.setRow b0 #[.slice none 0 0, .slice none 0 0, .slice none 0 0, .slice none 0 0, .slice none 0 0, .slice none 0 0, .slice none 0 0, .slice none 0 0, .slice none 0 0, .slice none 0 0, .slice none 0 0, .slice none 0 0] = w9 at *
  go_wp2
  refine bodyPost_ret (results_cell_row Try.results23 _ _ b0 _ _ _ _ rfl y2 Try.underlying70 rfl (by kernel_rfl)) rfl ?_
  exact ⟨rfl, hb2⟩

theorem nil_least : Least (wrongF (fun r => clsF 14 [] (r : Nat)) (fun r => brkF [] (r : Nat)) (fun r => twnF [] (r : Nat)) (fun r => twnF [] (r : Nat))) 1114112 1114112 := .none (fun r _ => rfl)
set_option maxRecDepth 100000 in
set_option maxHeartbeats 1600000 in
theorem tablesNil_walk (w : World) (r : Int) (a : Option Addr) (n c : Nat) : Calls Try.prog 7 #[.int .i32 r, .slice a n c] w fun e w' => e = .returned (.bool true) ∧ Below w.heap.size w w' := by
  go_enter Try.func7, Try.ntmps7
  go_wp2_with fail
  refine (bracket_nil w r).mono ?_
  rintro e w1 ⟨rfl, h⟩
  subst h
  go_wp2_with fail
  refine (mirror_nil w1 r).mono ?_
  rintro e w2 ⟨rfl, h⟩
  subst h
  go_wp2_with fail
  refine (packed_nil w2).mono ?_
  rintro e w3 ⟨rfl, hb3⟩
  have hA := heap_alloc_new w3 (.cells #[.slice none 0 0, .slice none 0 0, .slice none 0 0, .slice none 0 0, .slice none 0 0, .slice none 0 0, .slice none 0 0, .slice none 0 0, .slice none 0 0, .slice none 0 0, .slice none 0 0, .slice none 0 0] 70)
  have hB := (Below.refl _ w3).alloc (Nat.le_refl _) (.cells #[.slice none 0 0, .slice none 0 0, .slice none 0 0, .slice none 0 0, .slice none 0 0, .slice none 0 0, .slice none 0 0, .slice none 0 0, .slice none 0 0, .slice none 0 0, .slice none 0 0, .slice none 0 0] 70)
  obtain ⟨b0, hb0⟩ : ∃ b0, b0 = w3.heap.size := ⟨_, rfl⟩
  rw [← hb0] at hA
  have HB := Lib.hid (hb3.trans (hB.mono hb3.size))
  have HA := Lib.hid hA
  clear hA hB hb3
  go_upto_region 5 with (fail)
  rw [← hb0]
  generalize w3.alloc (.cells #[.slice none 0 0, .slice none 0 0, .slice none 0 0, .slice none 0 0, .slice none 0 0, .slice none 0 0, .slice none 0 0, .slice none 0 0, .slice none 0 0, .slice none 0 0, .slice none 0 0, .slice none 0 0] 70) = w4 at *
  clear hb0
  go_wp2_with fail
  refine (pack_nil w4).mono ?_
  rintro e w5 ⟨rfl, hb⟩
  replace HB := Lib.hid (HB.out.trans (hb.mono HB.out.size))
  replace HA := Lib.hid ((hb.block _ (Array.getElem?_eq_some_iff.1 HA.out).1).trans HA.out)
  clear hb
  go_wp2_with fail
  refine (hand_walk 14 none 0 0 [] none 0 0 [] none 0 0 [] none 0 0 [] w5 rfl (by omega) (spans_nil _) rfl (by omega) (spans_nil _) rfl (by omega) (tws_nil _) rfl (by omega) (tws_nil _)).mono ?_
  intro e w6 hq
  obtain ⟨p, rfl, hT, hb⟩ := hand_gives hq (by decide) nil_least
  replace HB := Lib.hid (HB.out.trans (hb.mono HB.out.size))
  replace HA := Lib.hid ((hb.block _ (Array.getElem?_eq_some_iff.1 HA.out).1).trans HA.out)
  clear hb hq hT
  go_wp2_with fail
  refine (classes_nil w6 a n c).mono ?_
  rintro e w7 ⟨rfl, h⟩
  subst h
  go_wp2_with fail
  refine (alike_nil w7).mono ?_
  rintro e w8 ⟨rfl, q1, rfl⟩
  go_wp2_with fail
  refine (alike_nil1 _ _ _).mono ?_
  rintro e w8 ⟨rfl, q2, rfl⟩
  go_wp2_with fail
  refine (alike_nil2 _ _ _).mono ?_
  rintro e w8 ⟨rfl, q3, hw8⟩
  replace HB := Lib.hid (below_drewN (below_drewN HB.out (q1 + q2)) q3)
  rw [← hw8] at HB
  replace HA := Lib.hid (show w8.heap[b0]? = some (.cells #[.slice none 0 0, .slice none 0 0, .slice none 0 0, .slice none 0 0, .slice none 0 0, .slice none 0 0, .slice none 0 0, .slice none 0 0, .slice none 0 0, .slice none 0 0, .slice none 0 0, .slice none 0 0] 70 (0, 0)) from by rw [hw8]; exact HA.out)
  clear hw8
  have qa := cell_of_row w8 b0 0 _ _ (0, 0) HA.out
  have qb := cell_of_row w8 b0 11 _ _ (0, 0) HA.out
  simp only [List.getElem?_toArray, List.getElem?_cons_zero, List.getElem?_cons_succ] at qa qb
  go_wp2_with fail
  refine (class_nil w8 r).mono ?_
  rintro e w9 ⟨rfl, h⟩
  subst h
  go_wp2_with fail
  refine (twin_nil w9 r).mono ?_
  rintro e w10 ⟨rfl, h⟩
  subst h
  go_wp2_with fail
  refine (awake_walk w10).mono ?_
  rintro e w11 ⟨rfl, hb⟩
  replace HB := Lib.hid (HB.out.trans (hb.mono HB.out.size))
  clear hb
  go_wp2
  go_ret
  exact ⟨rfl, HB.out⟩
end Go.Proofs.Ytbmphakfgoompaa
