/-
  Walks: the small line that every statement of this chapter asks first.
-/
import Derived.Test.YtcgdhgdblieaiaaW3
namespace Go.Proofs.Ytcgdhgdblieaiaa
open Go.RowKit

theorem ints_lit {k : IntKind} {w : World} {cs : Array Value} (zs : List Int) {E : TypeId} {n : Nat} (h : cs.toList = ivs k zs) (hn : n = w.heap.size) : Ints k (w.alloc (.cells cs E)) (some ⟨n, 0, none⟩) zs := by
  subst hn
  intro i hi
  refine ⟨w.heap.size, 0, rfl, ?_⟩
  rw [Nat.zero_add, cell_of_row (w.alloc (.cells cs E)) w.heap.size i cs E (0, 0) (heap_alloc_new w _), ← Array.getElem?_toList, h]
  simp [ivs, hi]

theorem below_alloc {B : Nat} {w w' : World} (h : Below B w w') (hB : B ≤ w'.heap.size) (o : Obj) : Below B w (w'.alloc o) := h.alloc hB o

set_option maxHeartbeats 400000 in
theorem lives_walk (w : World) :
    Calls Try.prog 13 #[] w fun e w' => e = .returned (.bool true) ∧ Below w.heap.size w w' := by
  have ho1 : ord [1, 1, 2, 2, 1] = [4, 2, 3, 1, 0] := by decide
  have hk1 : okL [1, 1, 2, 2, 1] = true := by decide
  have hk2 : okL [1, 1, 0] = true := by decide
  have ht : pickL [97, 98, 99] (ord [1, 1, 0]) = [98, 97, 99] := by decide
  have HO1 := Lib.hid ho1; clear ho1
  have HT := Lib.hid ht; clear ht
  have HK1 := Lib.hid hk1; clear hk1
  have HK2 := Lib.hid hk2; clear hk2
  go_enter Try.func13, Try.ntmps13
  go_wp2_with fail
  refine (Order_walk _ 5 5 [1, 1, 2, 2, 1] _ rfl (by omega) HK1.out (ints_lit [1, 1, 2, 2, 1] rfl rfl)).mono ?_
  rintro e w1 ⟨a1, n1, cap1, rfl, hown, hb⟩
  rw [HO1.out] at hown
  have hb1 : Below w.heap.size w w1 := ((Below.refl w.heap.size w).alloc (Nat.le_refl _) _).trans (hb.mono (by simp))
  obtain rfl : 5 = n1 := hown.lenI
  have HO := Lib.hid hown; clear hown
  have HB := Lib.hid hb1; clear hb1 hb
  go_wp2_with fail
  refine (TurnRune_walk _ _ 3 3 3 [97, 98, 99] [1, 1, 0] _ rfl rfl (by omega) HK2.out ((ints_lit [97, 98, 99] rfl rfl).below ((Below.refl _ _).alloc (Nat.le_refl _) _) (Nat.le_refl _)) (ints_lit [1, 1, 0] rfl (by simp))).mono ?_
  rintro e w2 ⟨a2, n2, cap2, rfl, hown2, hb⟩
  rw [HT.out] at hown2
  have hb12 : Below w1.heap.size w1 w2 := (((Below.refl w1.heap.size w1).alloc (Nat.le_refl _) _).alloc (by simp) _).trans (hb.mono (by simp; omega))
  obtain rfl : 3 = n2 := hown2.lenI
  have HO2 := Lib.hid hown2; clear hown2
  have HB2 := Lib.hid hb12; clear hb12 hb
  go_wp2_with fail
  refine (sameInts_walk _ _ 5 _ 5 _ [4, 2, 3, 1, 0] [4, 2, 3, 1, 0] _ rfl rfl (by omega) ((HO.out.ints.below HB2.out (Nat.le_refl _)).below ((Below.refl _ _).alloc (Nat.le_refl _) _) (Nat.le_refl _)) (ints_lit [4, 2, 3, 1, 0] rfl rfl)).mono ?_
  rintro e w3 ⟨rfl, hb⟩
  have hb23 : Below w2.heap.size w2 w3 := ((Below.refl w2.heap.size w2).alloc (Nat.le_refl _) _).trans (hb.mono (by simp))
  have HB3 := Lib.hid hb23; clear hb23 hb
  rw [show decide ([4, 2, 3, 1, 0] = [4, 2, 3, 1, (0 : Int)]) = true from rfl]
  go_wp2_with fail
  refine (sameRunes_walk _ _ 3 _ 3 _ [98, 97, 99] [98, 97, 99] _ rfl rfl (by omega) ((HO2.out.ints.below HB3.out (Nat.le_refl _)).below ((Below.refl _ _).alloc (Nat.le_refl _) _) (Nat.le_refl _)) (ints_lit [98, 97, 99] rfl rfl)).mono ?_
  rintro e w4 ⟨rfl, hb⟩
  have hb34 : Below w3.heap.size w3 w4 := ((Below.refl w3.heap.size w3).alloc (Nat.le_refl _) _).trans (hb.mono (by simp))
  have HB4 := Lib.hid hb34; clear hb34 hb
  rw [show decide ([98, 97, 99] = [98, 97, (99 : Int)]) = true from rfl]
  go_wp2
  go_ret
  refine ⟨rfl, ?_⟩
  have h1 := HB.out.size
  have h2 := HB2.out.size
  have h3 := HB3.out.size
  exact HB.out.trans ((HB2.out.mono h1).trans ((HB3.out.mono (by omega)).trans (HB4.out.mono (by omega))))
end Go.Proofs.Ytcgdhgdblieaiaa
