/-
  Walks: Order, Turn, and the small line that every statement of this chapter asks first.
-/
import Derived.Test.YtnnfhldfdiaddaaW2
import Derived.Test.YtnnfhldfdiaddaaP5
set_option linter.unusedVariables false
namespace Go.Proofs.Ytnnfhldfdiaddaa
open Go.RowKit

def pickL (xs o : List Int) : List Int := o.map (fun i => xs.getD i.toNat 0)
theorem pickL_length (xs o : List Int) : (pickL xs o).length = o.length := by simp [pickL]
theorem pickL_snoc (xs o : List Int) (k : Nat) (h : k < o.length) : pickL xs (o.take (k + 1)) = pickL xs (o.take k) ++ [xs.getD o[k].toNat 0] := by
  unfold pickL; rw [List.take_succ_eq_append_getElem h, List.map_append]; rfl
theorem ord_nonneg (lv : List Int) (i : Nat) (hi : i < (ord lv).length) : ∃ x : Nat, (ord lv)[i] = (x : Int) ∧ x < lv.length := shownIdx_nonneg lv (ord lv) (ord_perm lv) i hi

theorem Below.ge {B : Nat} {w w' : World} (h : Below B w w') : w.heap.size ≤ w'.heap.size := h.size

theorem okL_of (zs : List Int) (h : ∀ x ∈ zs, 0 ≤ x ∧ x ≤ 126) : okL zs = true := by
  unfold okL
  rw [List.all_eq_true]
  intro x hx
  have := h x hx
  simp; omega

theorem below_seq {w w1 w2 : World} (h1 : Below w.heap.size w w1) (h2 : Below w1.heap.size w1 w2) : Below w.heap.size w w2 := h1.trans (h2.mono h1.size)

theorem okL_mem (zs : List Int) (h : okL zs = true) : ∀ x ∈ zs, -1 ≤ x ∧ x ≤ 126 := by
  intro x hx
  obtain ⟨i, hi, rfl⟩ := List.getElem_of_mem hx
  exact okL_get zs h i hi
theorem okL_mem2 (zs : List Int) (h : ∀ x ∈ zs, -1 ≤ x ∧ x ≤ 126) : okL zs = true := by
  unfold okL
  rw [List.all_eq_true]
  intro x hx
  simpa using h x hx

/-- 'visual.Order' of levels that may be -/
theorem Order_walk (a : Option Addr) (n cap : Nat) (zs : List Int) (w : World) (hn : zs.length = n) (hlt : n ≤ 1048576) (hok : okL zs = true) (hc : Ints .i8 w a zs) :
    Calls Try.prog 18 #[.slice a n cap] w fun e w' => ∃ a' n' cap', e = .returned (.tuple #[.slice a' n' cap', .int .i64 0]) ∧ Own w.heap.size 3 w' a' n' cap' (ivs .i64 (ord zs)) ∧ Below w.heap.size w w' := by
  have HN := Lib.hid hn; clear hn
  have HK := Lib.hid hok; clear hok
  have hm : mayN zs = 0 := by unfold mayN; rw [if_pos HK.out]
  have HM := Lib.hid hm; clear hm
  go_enter Try.func18, Try.ntmps18
  go_wp2_with fail
  refine (vmay_walk a n cap zs _ HN.out hlt hc).mono ?_
  rintro e w' ⟨rfl, rfl⟩
  rw [HM.out]
  go_wp2_with fail
  refine (order_walk a n cap zs _ HN.out hlt HK.out hc).mono ?_
  rintro e w' ⟨a', n', cap', rfl, hown, hb⟩
  have HO := Lib.hid hown; clear hown
  have HB := Lib.hid hb; clear hb
  go_wp2
  go_ret2
  exact ⟨_, _, _, rfl, HO.out, HB.out⟩

theorem replicate_set_step (n k : Nat) (x y : Int) (hk : k < n) : (List.replicate k y ++ List.replicate (n - k) x).set k y = List.replicate (k + 1) y ++ List.replicate (n - (k + 1)) x := by
  rw [List.set_append_right _ _ (by simp), List.length_replicate, Nat.sub_self, show n - k = (n - (k + 1)) + 1 by omega, List.replicate_succ, List.set_cons_zero, List.replicate_succ' (n := k), List.append_assoc]
  rfl

def FillA (w : World) (g n : Nat) (i : Value) (wr : World) : Prop :=
  ∃ k : Nat, k ≤ n ∧ i = .int .i64 k ∧ Own w.heap.size 3 wr (some ⟨g, 0, none⟩) n n (ivs .i64 (List.replicate k (-1) ++ List.replicate (n - k) 0)) ∧ Below w.heap.size w wr

/-- what is laid at the places of an order: the list that is filled, the order beside it -/
def FillB (w w5 : World) (g n m : Nat) (a2 : Option Addr) (cap2 : Nat) (o : List Int) (f : Nat → Int) (base : List Int) (i : Value) (wr : World) : Prop :=
  ∃ k : Nat, k ≤ m ∧ i = .int .i64 k ∧ Own w.heap.size 3 wr (some ⟨g, 0, none⟩) n n (ivs .i64 (fillL o f base k)) ∧ Own w5.heap.size 3 wr a2 m cap2 (ivs .i64 o) ∧ Below w.heap.size w wr

set_option maxHeartbeats 1000000 in
/-- 'visual.Places' of levels that may be -/
theorem Places_walk (a : Option Addr) (n cap : Nat) (zs : List Int) (w : World) (hn : zs.length = n) (hlt : n ≤ 1048576) (hok : okL zs = true) (hc : Ints .i8 w a zs) :
    Calls Try.prog 34 #[.slice a n cap] w fun e w' => ∃ a' n' cap', e = .returned (.tuple #[.slice a' n' cap', .int .i64 0]) ∧ Own w.heap.size 3 w' a' n' cap' (ivs .i64 (placesL zs)) ∧ Below w.heap.size w w' := by
  have HN := Lib.hid hn; clear hn
  have HK := Lib.hid hok; clear hok
  have hm : mayN zs = 0 := by unfold mayN; rw [if_pos HK.out]
  have HM := Lib.hid hm; clear hm
  go_enter Try.func34, Try.ntmps34
  go_wp2_with fail
  refine (vmay_walk a n cap zs _ HN.out hlt hc).mono ?_
  rintro e w' ⟨rfl, rfl⟩
  rw [HM.out]
  go_wp2_with (at_make; refine wpList_mk Try.elemInt rfl rfl (.tmp 15) (.tmp 15) rfl n (by omega) (by unfold maxLen; omega) rfl rfl ?_)
  intro w3 hown3 hb3 _
  have HO3 := Lib.hid hown3; clear hown3
  have HB3 := Lib.hid hb3; clear hb3
  go_wp2
  go_loopw [19] (FillA w w.heap.size n) (fun i _ => n - (intOf i).toNat)
  case atStart => exact ⟨0, Nat.zero_le _, rfl, by simpa [← ivs_replicate] using HO3.out, HB3.out⟩
  case round =>
    obtain ⟨k, hk, rfl, hown, hbel⟩ := hrel
    have HO := Lib.hid hown; clear hown
    have HB := Lib.hid hbel; clear hbel
    by_cases hkn : k < n
    · have fr := HO.out.unfrozen k
      have cl : ∃ u, wr.cell? ⟨w.heap.size, k, none⟩ = some u := ⟨_, HO.out.cell k (by rw [HO.out.len]; exact hkn)⟩
      obtain ⟨u, cl⟩ := cl
      go_wp2
      go_roundw
      case rel =>
        refine ⟨k + 1, by omega, by go_num, ?_, HB.out.trans ((Below.refl _ _).setCell (p := ⟨w.heap.size, k, none⟩) (Nat.le_refl _) _)⟩
        rw [← replicate_set_step n k 0 (-1) hkn, ← ivs_set]
        exact HO.out.store k _
      case measure => simp [intOf]; omega
    · obtain rfl : n = k := by omega
      obtain ⟨w4, rfl⟩ : ∃ w4 : World, w4 = wr := ⟨_, rfl⟩
      go_wp2_with fail
      refine (order_walk a n cap zs _ HN.out hlt HK.out (hc.below HB.out (Nat.le_refl _))).mono ?_
      rintro e w5 ⟨a2, n2, cap2, rfl, hown5, hb5⟩
      have hl2 := Lib.hid hown5.lenI
      have hn2 : n2 ≤ n := by have := hown5.lenI; have := ord_le zs; have := HN.out; omega
      have HO5 := Lib.hid hown5; clear hown5
      have HB5 := Lib.hid hb5; clear hb5
      have HO4 := Lib.hid (HO.out.below HB5.out (Nat.le_refl _))
      have hlt4 := HO.out.lt
      go_wp2
      go_loopw [29] (FillB w w4 w.heap.size n n2 a2 cap2 (ord zs) (fun k => (k : Int)) (List.replicate n (-1))) (fun i _ => n2 - (intOf i).toNat)
      case atStart => exact ⟨0, Nat.zero_le _, rfl, by simpa [fillL] using HO4.out, HO5.out, HB.out.trans (HB5.out.mono HB.out.size)⟩
      case round =>
        obtain ⟨k, hk, rfl, hown, hown2, hbel⟩ := hrel
        have HO7 := Lib.hid hown; clear hown
        have HO8 := Lib.hid hown2; clear hown2
        have HB7 := Lib.hid hbel; clear hbel
        by_cases hlt : k < n2
        · have hko : k < (ord zs).length := by rw [hl2.out]; exact hlt
          obtain ⟨x, hxe, hxl⟩ := ord_nonneg zs k hko
          obtain ⟨g2, ha, hg2, _⟩ := HO8.out.at (by omega)
          subst ha
          have c1 := HO8.out.ints.get k hko
          rw [hxe] at c1
          simp only [Nat.zero_add] at c1
          have hxn : x < n := by have := HN.out; omega
          have fr := HO7.out.unfrozen x
          have cl : ∃ u, wr.cell? ⟨w.heap.size, x, none⟩ = some u := ⟨_, HO7.out.cell x (by rw [HO7.out.len]; exact hxn)⟩
          obtain ⟨u, cl⟩ := cl
          have HE := Lib.hid hxe; clear hxe
          have hgne : w.heap.size < w4.heap.size := hlt4 _ rfl
          go_wp2
          go_roundw
          case rel =>
            refine ⟨k + 1, by omega, by go_num, ?_, HO8.out.grown (grown_store wr w.heap.size x _) (.inr ?_), HB7.out.trans ((Below.refl _ _).setCell (p := ⟨w.heap.size, x, none⟩) (Nat.le_refl _) _)⟩
            · have e : (fillL (ord zs) (fun k => (k : Int)) (List.replicate n (-1)) (k + 1)) = (fillL (ord zs) (fun k => (k : Int)) (List.replicate n (-1)) k).set x (k : Int) := by
                rw [fillL, ord_getD zs k hko, HE.out]; simp
              rw [e, ← ivs_set]
              exact HO7.out.store x _
            · simp [Value.ownBlock]; omega
          case measure => simp [intOf]; omega
        · obtain rfl : n2 = k := by omega
          go_wp2
          go_ret2
          refine ⟨_, _, _, rfl, ?_, HB7.out⟩
          have := HO7.out
          unfold placesL
          rw [hl2.out, HN.out]
          exact this

end Go.Proofs.Ytnnfhldfdiaddaa
