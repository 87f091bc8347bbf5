/-
  The document's line, in memory; its small functions.
-/
import Derived.Test.YtnnfhldfdiaddaaV2
import Derived.Test.YtnnfhldfdiaddaaL1
set_option linter.unusedVariables false
namespace Go.Proofs.Ytnnfhldfdiaddaa
open Go.RowKit

structure IsRef (w : World) (g : Nat) (base : Int) (lv ws : List Int) : Prop where
  ok : LineOk base lv ws
  mem : ∃ aL cL aW cW aO cO aA cA, w.heap[g]? = some (.cells #[.int .i8 base, .slice aL lv.length cL, .slice aW ws.length cW, .slice aO (ord lv).length cO, .slice aA lv.length cA] 73 (0, 0)) ∧
    Ints .i8 w aL lv ∧ Ints .i64 w aW ws ∧ Ints .i64 w aO (ord lv) ∧ Ints .i64 w aA (placesL lv)
theorem IsRef.lt {w : World} {g : Nat} {base : Int} {lv ws : List Int} (h : IsRef w g base lv ws) : g < w.heap.size := by
  obtain ⟨aL, cL, aW, cW, aO, cO, aA, cA, hb, _⟩ := h.mem
  exact (Array.getElem?_eq_some_iff.1 hb).1
theorem IsRef.below {w w' : World} {B g : Nat} {base : Int} {lv ws : List Int} (h : IsRef w g base lv ws) (hb : Below B w w') (hB : w.heap.size ≤ B) : IsRef w' g base lv ws := by
  obtain ⟨aL, cL, aW, cW, aO, cO, aA, cA, h1, i1, i2, i3, i4⟩ := h.mem
  exact ⟨h.ok, aL, cL, aW, cW, aO, cO, aA, cA, (hb.block g (Nat.lt_of_lt_of_le h.lt hB)).trans h1, i1.below hb hB, i2.below hb hB, i3.below hb hB, i4.below hb hB⟩

def edgeP (base : Int) (lv : List Int) (last : Bool) : Int := if (decide (base = 1) != last) = true then ((ord lv).length : Nat) else 0
theorem edge_walk (g : Nat) (base : Int) (lv ws : List Int) (last : Bool) (w : World) (h : IsRef w g base lv ws) :
    Calls Try.prog 51 #[.pointer (some ⟨g, 0, none⟩), .bool last] w fun e w' => e = .returned (.int .i64 (edgeP base lv last)) ∧ w = w' := by
  obtain ⟨aL, cL, aW, cW, aO, cO, aA, cA, hb, i1, i2, i3, i4⟩ := h.mem
  have k0 := cell_of_row w g 0 _ _ (0, 0) hb
  have k3 := cell_of_row w g 3 _ _ (0, 0) hb
  simp at k0 k3
  clear hb i1 i2 i3 i4 h
  by_cases h1 : base = 1
  · have hb1 : (base == 1) = true := by simpa using h1
    have HD := Lib.hid (decide_eq_true h1); clear h1
    cases last
    · have HE := Lib.hid (show edgeP base lv false = ((ord lv).length : Nat) by unfold edgeP; rw [HD.out]; rfl)
      go_enter Try.func51, Try.ntmps51
      go_wp2
      go_ret
      exact ⟨by rw [HE.out]; rfl, rfl⟩
    · have HE := Lib.hid (show edgeP base lv true = 0 by unfold edgeP; rw [HD.out]; rfl)
      go_enter Try.func51, Try.ntmps51
      go_wp2
      go_ret
      exact ⟨by rw [HE.out]; rfl, rfl⟩
  · have hb1 : (base == 1) = false := by simpa using h1
    have HD := Lib.hid (decide_eq_false h1); clear h1
    cases last
    · have HE := Lib.hid (show edgeP base lv false = 0 by unfold edgeP; rw [HD.out]; rfl)
      go_enter Try.func51, Try.ntmps51
      go_wp2
      go_ret
      exact ⟨by rw [HE.out]; rfl, rfl⟩
    · have HE := Lib.hid (show edgeP base lv true = ((ord lv).length : Nat) by unfold edgeP; rw [HD.out]; rfl)
      go_enter Try.func51, Try.ntmps51
      go_wp2
      go_ret
      exact ⟨by rw [HE.out]; rfl, rfl⟩
end Go.Proofs.Ytnnfhldfdiaddaa
