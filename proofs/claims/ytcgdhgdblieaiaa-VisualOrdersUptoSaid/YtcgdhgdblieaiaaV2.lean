/-
  Walks: the document's places.
-/
import Derived.Test.YtcgdhgdblieaiaaV1
import Derived.Test.YtcgdhgdblieaiaaP5
set_option linter.unusedVariables false
namespace Go.Proofs.Ytcgdhgdblieaiaa
open Go.RowKit

def RpA (w : World) (n : Nat) (v i : Value) (wr : World) : Prop := ∃ k : Nat, k ≤ n ∧ i = .int .i64 k ∧ ∃ a' c', v = .slice a' k c' ∧ Own w.heap.size 3 wr a' k c' (ivs .i64 (List.replicate k (-1))) ∧ Below w.heap.size w wr
def RpB (w : World) (a' : Option Addr) (n c' m : Nat) (o : List Int) (base : List Int) (i : Value) (wr : World) : Prop :=
  ∃ k : Nat, k ≤ m ∧ i = .int .i64 k ∧ Own w.heap.size 3 wr a' n c' (ivs .i64 (fillL o (fun k => (k : Int)) base k)) ∧ Below w.heap.size w wr

set_option maxRecDepth 100000 in
set_option maxHeartbeats 4000000 in
/-- 'furrowref22.Places' -/
theorem rPlaces_walk (a : Option Addr) (n cap : Nat) (zs : List Int) (w : World) (hn : zs.length = n) (hlt : n ≤ 1048576) (hok : okL zs = true) (hc : Ints .i8 w a zs) :
    Calls Try.prog 38 #[.slice a n cap] w fun e w' => ∃ a' n' cap', e = .returned (.slice a' n' cap') ∧ Own w.heap.size 3 w' a' n' cap' (ivs .i64 (placesL zs)) ∧ Below w.heap.size w w' := by
  have HN := Lib.hid hn; clear hn
  have HK := Lib.hid hok; clear hok
  go_enter Try.func38, Try.ntmps38
  go_wp2_with fail
  refine (rOrder_walk a n cap zs _ HN.out hlt HK.out hc).mono ?_
  rintro e w1 ⟨a2, m, cap2, rfl, hown, hb⟩
  have hml := hown.lenI
  have HO := Lib.hid hown; clear hown
  have HB := Lib.hid hb; clear hb
  have HM := Lib.hid hml
  have hl2 : m ≤ n := by have := ord_le zs; have := HN.out; omega
  clear hml
  go_wp2
  go_loopw [4, 5] (RpA w1 n) (fun _ i _ => n - (intOf i).toNat)
  case atStart => exact ⟨0, Nat.zero_le _, rfl, none, 0, rfl, Own.nil _ _ _, Below.refl _ _⟩
  case round =>
    obtain ⟨k, hk, rfl, a', c', rfl, hown, hbel⟩ := hrel
    have HO1 := Lib.hid hown; clear hown
    have HB1 := Lib.hid hbel; clear hbel
    by_cases hlt3 : k < n
    · have hki : (k : Int) < (n : Int) := by omega
      go_wp2_with (at_builtin; refine wpList_app1 Try.elemInt rfl (.tmp 15) (.tmp 16) rfl HO1.out HB1.out.size (by omega) (by omega) _ rfl _ rfl rfl ?_)
      intro a3 cap3 w3 hown3 hg
      have HO3 : Hid (Own w1.heap.size 3 w3 a3 (k + 1) cap3 (ivs .i64 (List.replicate (k + 1) (-1)))) := Lib.hid (by
        rw [List.replicate_succ', ivs_append]; exact hown3)
      have HG := Lib.hid (HO1.out.app hg HB1.out.size); clear hg hown3
      go_wp2
      go_roundw
      case rel => exact ⟨k + 1, hlt3, by go_num, _, _, rfl, HO3.out, HB1.out.trans HG.out⟩
      case measure => simp [intOf]; omega
    · obtain rfl : k = n := by omega
      have hki : ¬ (k : Int) < (k : Int) := by omega
      generalize wr = w2 at *
      go_wp2
      clear hki hlt3 hk
      go_loopw [6] (RpB w1 a' k c' m (ord zs) (List.replicate k (-1))) (fun i _ => m - (intOf i).toNat)
      case atStart => exact ⟨0, Nat.zero_le _, rfl, HO1.out, HB1.out⟩
      case round =>
        obtain ⟨j, hj, rfl, hown, hbel⟩ := hrel
        have HO7 := Lib.hid hown; clear hown
        have HB7 := Lib.hid hbel; clear hbel
        by_cases hkm : j < m
        · have hko : j < (ord zs).length := by rw [HM.out]; exact hkm
          obtain ⟨x, hxe, hxl⟩ := ord_nonneg zs j hko
          obtain ⟨g2, ha, hg2, hg3, _⟩ := HO.out.at (by omega)
          subst ha
          have e1 := (HO.out.ints.below HB7.out (Nat.le_refl _)).get j hko
          rw [hxe] at e1
          simp only [Nat.zero_add] at e1
          have hxn : x < k := by have := HN.out; omega
          have hxi : (x : Int) < (k : Int) := by omega
          have hki : (j : Int) < (m : Int) := by omega
          obtain ⟨g, ha, hgg1, hgg2, hgg3, hgg4⟩ := HO7.out.at (by omega)
          subst ha
          have fr := HO7.out.unfrozen x
          obtain ⟨u, cl⟩ : ∃ u, wr.cell? ⟨g, x, none⟩ = some u := ⟨_, HO7.out.cell x (by rw [HO7.out.len]; exact hxn)⟩
          have HE := Lib.hid (show (fillL (ord zs) (fun k => (k : Int)) (List.replicate k (-1)) (j + 1)) = (fillL (ord zs) (fun k => (k : Int)) (List.replicate k (-1)) j).set x (j : Int) by
            rw [fillL, ord_getD zs j hko, hxe]; simp)
          clear hxe hko
          go_wp2
          go_roundw
          case rel =>
            refine ⟨j + 1, by omega, by go_num, ?_, HB7.out.setCell (p := ⟨g, x, none⟩) hgg1 _⟩
            rw [HE.out, ← ivs_set]
            exact HO7.out.store x _
          case measure => simp [intOf]; omega
        · obtain rfl : m = j := by omega
          go_wp2
          go_ret
          refine ⟨_, _, _, rfl, ?_, HB.out.trans (HB7.out.mono HB.out.size)⟩
          have := HO7.out.mono HB.out.size
          unfold placesL
          rw [HM.out, HN.out]
          exact this
end Go.Proofs.Ytcgdhgdblieaiaa
