/-
  The walk of 'awake': a small text is cut, and its levels are told.
-/
import Derived.Test.YtmcjlkpogcnniaaW11
set_option linter.unusedVariables false
namespace Go.Proofs.Ytmcjlkpogcnniaa
open Go.RowKit

def knownCs : List CharD := [⟨13, 11, 0, 0, 0, 0, false⟩, ⟨10, 11, 0, 0, 0, 0, false⟩, ⟨97, 1, 0, 0, 0, 0, false⟩, ⟨1488, 2, 0, 0, 0, 0, false⟩]
def knownCells : Array Value := #[.int .i32 13, .int .u8 11, .int .i32 0, .int .u8 0, .int .i32 0, .int .i32 0, .bool false,
  .int .i32 10, .int .u8 11, .int .i32 0, .int .u8 0, .int .i32 0, .int .i32 0, .bool false,
  .int .i32 97, .int .u8 1, .int .i32 0, .int .u8 0, .int .i32 0, .int .i32 0, .bool false,
  .int .i32 1488, .int .u8 2, .int .i32 0, .int .u8 0, .int .i32 0, .int .i32 0, .bool false]
theorem known_chars {w : World} {g : Nat} {E : TypeId} (h : w.heap[g]? = some (.cells knownCells E (0, 0))) : Chars w (some ⟨g, 0, none⟩) knownCs := by
  intro i hi
  refine ⟨g, 0, rfl, ?_⟩
  have c := fun k => cell_of_row w g k _ _ (0, 0) h
  have hi4 : i < 4 := hi
  have : i = 0 ∨ i = 1 ∨ i = 2 ∨ i = 3 := by omega
  rcases this with rfl | rfl | rfl | rfl
  all_goals exact ⟨(c _).trans rfl, (c _).trans rfl, (c _).trans rfl, (c _).trans rfl, (c _).trans rfl, (c _).trans rfl, (c _).trans rfl⟩

theorem knownP_walk (w : World) :
    Calls Try.prog 41 #[] w fun e w' => ∃ g, e = .returned (.agg #[.int .u8 14, .slice (some ⟨g, 0, none⟩) 4 4]) ∧ Chars w' (some ⟨g, 0, none⟩) knownCs ∧ Below w.heap.size w w' := by
  go_enter Try.func41, Try.ntmps41
  go_wp2
  have hA : ((w.alloc (.cells #[.int .u8 14, .slice (some ⟨w.heap.size + 1, 0, none⟩) 4 4] 25)).alloc (.cells knownCells 76)).heap[w.heap.size]? = some (.cells #[.int .u8 14, .slice (some ⟨w.heap.size + 1, 0, none⟩) 4 4] 25 (0, 0)) := by
    rw [Below.heap_alloc _ _ w.heap.size (by simp)]
    exact heap_alloc_new w _
  have hB : ((w.alloc (.cells #[.int .u8 14, .slice (some ⟨w.heap.size + 1, 0, none⟩) 4 4] 25)).alloc (.cells knownCells 76)).heap[w.heap.size + 1]? = some (.cells knownCells 76 (0, 0)) := by
    have := heap_alloc_new (w.alloc (.cells #[.int .u8 14, .slice (some ⟨w.heap.size + 1, 0, none⟩) 4 4] 25)) (.cells knownCells 76)
    simpa using this
  have hb : Below w.heap.size w ((w.alloc (.cells #[.int .u8 14, .slice (some ⟨w.heap.size + 1, 0, none⟩) 4 4] 25)).alloc (.cells knownCells 76)) := ((Below.refl _ w).alloc (Nat.le_refl _) _).alloc (by simp) _
  change bodyPost _ _ _ _ _ ((w.alloc (.cells #[.int .u8 14, .slice (some ⟨w.heap.size + 1, 0, none⟩) 4 4] 25)).alloc (.cells knownCells 76))
  generalize ((w.alloc (.cells #[.int .u8 14, .slice (some ⟨w.heap.size + 1, 0, none⟩) 4 4] 25)).alloc (.cells knownCells 76)) = W at *
  have r0 := cell_of_row W w.heap.size 0 _ _ (0, 0) hA
  have r1 := cell_of_row W w.heap.size 1 _ _ (0, 0) hA
  simp at r0 r1
  refine bodyPost_ret (v := .agg #[.int .u8 14, .slice (some ⟨w.heap.size + 1, 0, none⟩) 4 4]) (by simp [results, Try.results41, go_sem, r0, r1]) rfl ?_
  exact ⟨_, rfl, known_chars hB, hb⟩

def awakeT : List Int := [97, 13, 10, 65533, 1488]
def awakeC : List Int := [1, 11, 11, 14, 2]
theorem awake_runes : runesL { data := #[97, 13, 10, 255, 215, 144] } = awakeT := by decide +kernel
theorem awake_cls : awakeT.map (clsOf 14 knownCs) = awakeC := by decide +kernel
theorem awake_split : splitL awakeT awakeC = [(0, 3), (3, 5)] := by decide +kernel
theorem awake_auto : autoL [14, 2] = 1 := by
  have h : firstAt [14, 2] (matchL [14, 2]) 2 0 = some 1 := by
    rw [firstAt_skip _ _ _ _ (by decide) (by decide), firstAt_str _ _ _ _ (by decide) (by decide)]
  unfold autoL
  rw [show ([14, 2] : List Int).length = 2 from rfl, h]
  rfl

set_option maxHeartbeats 4000000 in
theorem awake_walk (w : World) : Calls Try.prog 15 #[] w fun e w' => e = .returned (.bool true) ∧ Below w.heap.size w w' := by
  have HCl := Lib.hid awake_cls
  have HSp := Lib.hid awake_split
  have HAu := Lib.hid awake_auto
  have HRu := Lib.hid awake_runes
  have HRw := Lib.hid (fun w => Runes_walk { data := #[97, 13, 10, 255, 215, 144] } w (by decide))
  rw [awake_runes] at HRw
  go_enter Try.func15, Try.ntmps15
  go_wp2_with fail
  refine (HRw.out _).mono ?_
  rintro e w1 ⟨a1, c1, rfl, ho, hb⟩
  rw [show awakeT.length = 5 from rfl] at ho ⊢
  have HR1 := Lib.hid ho.ints; clear ho
  have HB1 := Lib.hid hb; clear hb
  go_wp2_with fail
  refine (knownP_walk _).mono ?_
  rintro e w2 ⟨g, rfl, hch, hb⟩
  have HB2 := Lib.hid (below_seq HB1.out hb)
  have HR2 := Lib.hid (HR1.out.below hb (Nat.le_refl _))
  have HCh := Lib.hid hch; clear hch hb
  go_wp2_with fail
  refine (Classes_walk 14 (some ⟨g, 0, none⟩) 4 4 knownCs a1 5 c1 awakeT w2 rfl (by decide) HCh.out rfl (by decide) HR2.out).mono ?_
  rintro e w3 ⟨a3, m3, c3, rfl, ho, hb⟩
  rw [HCl.out] at ho
  have hm3 := ho.lenI
  obtain rfl : m3 = 5 := by rw [← hm3]; rfl
  clear hm3
  obtain ⟨g3, rfl, hg3, hg3b, hc3, hc3b⟩ := ho.at (by decide)
  have HB3 := Lib.hid (below_seq HB2.out hb)
  have HR3 := Lib.hid (HR2.out.below hb (Nat.le_refl _))
  have HI3 := Lib.hid ho.ints; clear ho hb
  have k0 := HI3.out.get 0 (by decide)
  have k1 := HI3.out.get 1 (by decide)
  have k3 := HI3.out.get 3 (by decide)
  have k4 := HI3.out.get 4 (by decide)
  simp [awakeC] at k0 k1 k3 k4
  go_wp2_with fail
  refine (Split_walk a1 5 c1 (some ⟨g3, 0, none⟩) 5 c3 awakeT awakeC w3 rfl rfl (by decide) HR3.out HI3.out (.inr rfl)).mono ?_
  rintro e w4 ⟨a4, m4, c4, rfl, ho, hb⟩
  rw [HSp.out] at ho
  have hm4 := ho.len
  obtain rfl : m4 = 2 := by rw [← hm4]; rfl
  clear hm4
  have hpr := ho.pairs
  obtain ⟨g4, o4, rfl⟩ := hpr.some (by decide)
  have q0 := (hpr.get 0 (by decide)).2
  have q1 := (hpr.get 1 (by decide)).2
  simp at q0 q1
  have HB4 := Lib.hid (below_seq HB3.out hb)
  have HI4 := Lib.hid (HI3.out.below hb (Nat.le_refl _))
  clear ho hpr hb k0 k1 k3 k4
  have HI5 : Hid (Ints .u8 w4 (some ⟨g3, 3, none⟩) [14, 2]) := Lib.hid (by
    intro i hi
    have hi2 : i < 2 := hi
    refine ⟨g3, 3, rfl, ?_⟩
    have := HI4.out.get (3 + i) (by show 3 + i < 5; omega)
    rw [Nat.zero_add] at this
    rw [this]
    have : i = 0 ∨ i = 1 := by omega
    rcases this with rfl | rfl <;> rfl)
  have HLv := Lib.hid (Level_walk (some ⟨g3, 3, none⟩) 2 (c3 - 3) [14, 2] (-1) w4 rfl (by decide) HI5.out)
  rw [show levelV [14, 2] (-1) = .tuple #[.int .i8 1, .int .i64 0] by unfold levelV; rw [HAu.out]; rfl] at HLv
  go_wp2_with fail
  refine HLv.out.mono ?_
  rintro e w5 ⟨rfl, hb5⟩
  have HB5 := Lib.hid (below_seq HB4.out hb5)
  have q0' : w5.cell? ⟨g4, o4 + 1, none⟩ = some (.int .i64 3) := by rw [hb5.cell (p := ⟨g4, o4 + 1, none⟩) (World.block_lt_of_cell? w4 _ q0)]; exact q0
  have q1' : w5.cell? ⟨g4, o4 + 2 + 1, none⟩ = some (.int .i64 5) := by rw [hb5.cell (p := ⟨g4, o4 + 2 + 1, none⟩) (World.block_lt_of_cell? w4 _ q1)]; exact q1
  clear q0 q1 hb5
  go_wp2
  go_ret
  exact ⟨rfl, HB5.out⟩
end Go.Proofs.Ytmcjlkpogcnniaa
