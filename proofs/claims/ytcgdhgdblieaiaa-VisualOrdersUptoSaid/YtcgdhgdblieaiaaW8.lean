/-
  Walks: Places, Back.
-/
import Derived.Test.YtcgdhgdblieaiaaW7
import Derived.Test.YtcgdhgdblieaiaaP5
set_option linter.unusedVariables false
namespace Go.Proofs.Ytcgdhgdblieaiaa
open Go.RowKit

theorem replicate_set_step (n k : Nat) (x y : Int) (hk : k < n) : (List.replicate k y ++ List.replicate (n - k) x).set k y = List.replicate (k + 1) y ++ List.replicate (n - (k + 1)) x := by
  rw [List.set_append_right _ _ (by simp), List.length_replicate, Nat.sub_self, show n - k = (n - (k + 1)) + 1 by omega, List.replicate_succ, List.set_cons_zero, List.replicate_succ' (n := k), List.append_assoc]
  rfl

def FillA (w : World) (g n : Nat) (i : Value) (wr : World) : Prop :=
  ∃ k : Nat, k ≤ n ∧ i = .int .i64 k ∧ Own w.heap.size 3 wr (some ⟨g, 0, none⟩) n n (ivs .i64 (List.replicate k (-1) ++ List.replicate (n - k) 0)) ∧ Below w.heap.size w wr

/-- what is laid at the places of an order: the list that is filled, the order beside it -/
def FillB (w w5 : World) (g n m : Nat) (a2 : Option Addr) (cap2 : Nat) (o : List Int) (f : Nat → Int) (base : List Int) (i : Value) (wr : World) : Prop :=
  ∃ k : Nat, k ≤ m ∧ i = .int .i64 k ∧ Own w.heap.size 3 wr (some ⟨g, 0, none⟩) n n (ivs .i64 (fillL o f base k)) ∧ Own w5.heap.size 3 wr a2 m cap2 (ivs .i64 o) ∧ Below w.heap.size w wr

set_option maxHeartbeats 1000000 in
/-- 'visual.Places' of levels that may be -/
theorem Places_walk (a : Option Addr) (n cap : Nat) (zs : List Int) (w : World) (hn : zs.length = n) (hlt : n ≤ 1048576) (hok : okL zs = true) (hc : Ints .i8 w a zs) :
    Calls Try.prog 18 #[.slice a n cap] w fun e w' => ∃ a' n' cap', e = .returned (.tuple #[.slice a' n' cap', .int .i64 0]) ∧ Own w.heap.size 3 w' a' n' cap' (ivs .i64 (placesL zs)) ∧ Below w.heap.size w w' := by
  have HN := Lib.hid hn; clear hn
  have HK := Lib.hid hok; clear hok
  have hm : mayN zs = 0 := by unfold mayN; rw [if_pos HK.out]
  have HM := Lib.hid hm; clear hm
  go_enter Try.func18, Try.ntmps18
  go_wp2_with fail
  refine (vmay_walk a n cap zs _ HN.out hlt hc).mono ?_
  rintro e w' ⟨rfl, rfl⟩
  rw [HM.out]
  go_wp2_with (at_make; refine wpList_mk Try.elemInt rfl rfl (.tmp 15) (.tmp 15) rfl n (by omega) (by unfold maxLen; omega) rfl rfl ?_)
  intro w3 hown3 hb3 _
  have HO3 := Lib.hid hown3; clear hown3
  have HB3 := Lib.hid hb3; clear hb3
  go_wp2
  go_loopw [19] (FillA w w.heap.size n) (fun i _ => n - (intOf i).toNat)
  case atStart => exact ⟨0, Nat.zero_le _, rfl, by simpa [← ivs_replicate] using HO3.out, HB3.out⟩
  case round =>
    obtain ⟨k, hk, rfl, hown, hbel⟩ := hrel
    have HO := Lib.hid hown; clear hown
    have HB := Lib.hid hbel; clear hbel
    by_cases hkn : k < n
    · have fr := HO.out.unfrozen k
      have cl : ∃ u, wr.cell? ⟨w.heap.size, k, none⟩ = some u := ⟨_, HO.out.cell k (by rw [HO.out.len]; exact hkn)⟩
      obtain ⟨u, cl⟩ := cl
      go_wp2
      go_roundw
      case rel =>
        refine ⟨k + 1, by omega, by go_num, ?_, HB.out.trans ((Below.refl _ _).setCell (p := ⟨w.heap.size, k, none⟩) (Nat.le_refl _) _)⟩
        rw [← replicate_set_step n k 0 (-1) hkn, ← ivs_set]
        exact HO.out.store k _
      case measure => simp [intOf]; omega
    · obtain rfl : n = k := by omega
      obtain ⟨w4, rfl⟩ : ∃ w4 : World, w4 = wr := ⟨_, rfl⟩
      go_wp2_with fail
      refine (order_walk a n cap zs _ HN.out hlt HK.out (hc.below HB.out (Nat.le_refl _))).mono ?_
      rintro e w5 ⟨a2, n2, cap2, rfl, hown5, hb5⟩
      have hl2 := Lib.hid hown5.lenI
      have hn2 : n2 ≤ n := by have := hown5.lenI; have := ord_le zs; have := HN.out; omega
      have HO5 := Lib.hid hown5; clear hown5
      have HB5 := Lib.hid hb5; clear hb5
      have HO4 := Lib.hid (HO.out.below HB5.out (Nat.le_refl _))
      have hlt4 := HO.out.lt
      go_wp2
      go_loopw [29] (FillB w w4 w.heap.size n n2 a2 cap2 (ord zs) (fun k => (k : Int)) (List.replicate n (-1))) (fun i _ => n2 - (intOf i).toNat)
      case atStart => exact ⟨0, Nat.zero_le _, rfl, by simpa [fillL] using HO4.out, HO5.out, HB.out.trans (HB5.out.mono HB.out.size)⟩
      case round =>
        obtain ⟨k, hk, rfl, hown, hown2, hbel⟩ := hrel
        have HO7 := Lib.hid hown; clear hown
        have HO8 := Lib.hid hown2; clear hown2
        have HB7 := Lib.hid hbel; clear hbel
        by_cases hlt : k < n2
        · have hko : k < (ord zs).length := by rw [hl2.out]; exact hlt
          obtain ⟨x, hxe, hxl⟩ := ord_nonneg zs k hko
          obtain ⟨g2, ha, hg2, _⟩ := HO8.out.at (by omega)
          subst ha
          have c1 := HO8.out.ints.get k hko
          rw [hxe] at c1
          simp only [Nat.zero_add] at c1
          have hxn : x < n := by have := HN.out; omega
          have fr := HO7.out.unfrozen x
          have cl : ∃ u, wr.cell? ⟨w.heap.size, x, none⟩ = some u := ⟨_, HO7.out.cell x (by rw [HO7.out.len]; exact hxn)⟩
          obtain ⟨u, cl⟩ := cl
          have HE := Lib.hid hxe; clear hxe
          have hgne : w.heap.size < w4.heap.size := hlt4 _ rfl
          go_wp2
          go_roundw
          case rel =>
            refine ⟨k + 1, by omega, by go_num, ?_, HO8.out.grown (grown_store wr w.heap.size x _) (.inr ?_), HB7.out.trans ((Below.refl _ _).setCell (p := ⟨w.heap.size, x, none⟩) (Nat.le_refl _) _)⟩
            · have e : (fillL (ord zs) (fun k => (k : Int)) (List.replicate n (-1)) (k + 1)) = (fillL (ord zs) (fun k => (k : Int)) (List.replicate n (-1)) k).set x (k : Int) := by
                rw [fillL, ord_getD zs k hko, HE.out]; simp
              rw [e, ← ivs_set]
              exact HO7.out.store x _
            · simp [Value.ownBlock]; omega
          case measure => simp [intOf]; omega
        · obtain rfl : n2 = k := by omega
          go_wp2
          go_ret2
          refine ⟨_, _, _, rfl, ?_, HB7.out⟩
          have := HO7.out
          unfold placesL
          rw [hl2.out, HN.out]
          exact this

def BackR (w : World) (g n : Nat) (o : List Int) (f : Nat → Int) (base : List Int) (m : Nat) (i : Value) (wr : World) : Prop :=
  ∃ k : Nat, k ≤ m ∧ i = .int .i64 k ∧ Own w.heap.size 3 wr (some ⟨g, 0, none⟩) n n (ivs .i64 (fillL o f base k)) ∧ Below w.heap.size w wr

set_option maxHeartbeats 1000000 in
/-- 'visual.Back[int]' of levels that may be -/
theorem BackInt_walk (a1 a : Option Addr) (m cap1 n cap : Nat) (xs zs : List Int) (w : World) (hn : zs.length = n) (hx : xs.length = m) (hxm : m = (ord zs).length) (hlt : n ≤ 1048576) (hok : okL zs = true) (hc1 : Ints .i64 w a1 xs) (hc : Ints .i8 w a zs) :
    Calls Try.prog 20 #[.slice a1 m cap1, .slice a n cap] w fun e w' => ∃ a' n' cap', e = .returned (.tuple #[.slice a' n' cap', .int .i64 0]) ∧ Own w.heap.size 3 w' a' n' cap' (ivs .i64 (backL xs zs)) ∧ Below w.heap.size w w' := by
  have HN := Lib.hid hn; clear hn
  have HX := Lib.hid hx; clear hx
  have HXM := Lib.hid hxm; clear hxm
  have HK := Lib.hid hok; clear hok
  have hm : mayN zs = 0 := by unfold mayN; rw [if_pos HK.out]
  have HM := Lib.hid hm; clear hm
  go_enter Try.func20, Try.ntmps20
  go_wp2_with fail
  refine (vmay_walk a n cap zs _ HN.out hlt hc).mono ?_
  rintro e w' ⟨rfl, rfl⟩
  rw [HM.out]
  go_wp2_with fail
  refine (order_walk a n cap zs _ HN.out hlt HK.out hc).mono ?_
  rintro e w1 ⟨a2, n2, cap2, rfl, hown, hb⟩
  obtain rfl : m = n2 := by have := hown.lenI; have := HXM.out; omega
  have hl2 : m ≤ n := by have := ord_le zs; have := HN.out; have := HXM.out; omega
  have hnn : ((m : Int) != (m : Int)) = false := by simp
  have HO := Lib.hid hown; clear hown
  have HB := Lib.hid hb; clear hb
  go_wp2_with (at_make; refine wpList_mk Try.elemInt rfl rfl (.tmp 24) (.tmp 24) rfl n (by omega) (by unfold maxLen; omega) rfl rfl ?_)
  intro w3 hown3 hb3 _
  have HO3 := Lib.hid hown3; clear hown3
  have HB3 := Lib.hid hb3; clear hb3
  go_wp2
  go_loopw [28] (BackR w1 w1.heap.size n (ord zs) (fun k => xs.getD k 0) (List.replicate n 0) m) (fun i _ => m - (intOf i).toNat)
  case atStart => exact ⟨0, Nat.zero_le _, rfl, by simpa [fillL, ← ivs_replicate] using HO3.out, HB3.out⟩
  case round =>
    obtain ⟨k, hk, rfl, hown, hbel⟩ := hrel
    have HO7 := Lib.hid hown; clear hown
    have HB7 := Lib.hid hbel; clear hbel
    by_cases hkm : k < m
    · have hko : k < (ord zs).length := by rw [← HXM.out]; exact hkm
      obtain ⟨x, hxe, hxl⟩ := ord_nonneg zs k hko
      obtain ⟨g2, ha, hg2, hg3, _⟩ := HO.out.at (by omega)
      subst ha
      have c1 := (HO.out.ints.below HB7.out (Nat.le_refl _)).get k hko
      rw [hxe] at c1
      simp only [Nat.zero_add] at c1
      have hxk : k < xs.length := by rw [HX.out]; exact hkm
      obtain ⟨b, o, ha⟩ := hc1.some (by omega)
      subst ha
      have c2 := ((hc1.below HB.out (Nat.le_refl _)).below HB7.out (Nat.le_refl _)).get k hxk
      have hxn : x < n := by have := HN.out; omega
      have fr := HO7.out.unfrozen x
      have cl : ∃ u, wr.cell? ⟨w1.heap.size, x, none⟩ = some u := ⟨_, HO7.out.cell x (by rw [HO7.out.len]; exact hxn)⟩
      obtain ⟨u, cl⟩ := cl
      have HE := Lib.hid hxe; clear hxe
      go_wp2
      go_roundw
      case rel =>
        refine ⟨k + 1, by omega, by go_num, ?_, HB7.out.trans ((Below.refl _ _).setCell (p := ⟨w1.heap.size, x, none⟩) (Nat.le_refl _) _)⟩
        have e : (fillL (ord zs) (fun k => xs.getD k 0) (List.replicate n 0) (k + 1)) = (fillL (ord zs) (fun k => xs.getD k 0) (List.replicate n 0) k).set x xs[k] := by
          rw [fillL, ord_getD zs k hko, HE.out]; simp [hxk]
        rw [e, ← ivs_set]
        exact HO7.out.store x _
      case measure => simp [intOf]; omega
    · obtain rfl : m = k := by omega
      go_wp2
      go_ret2
      refine ⟨_, _, _, rfl, ?_, HB.out.trans (HB7.out.mono HB.out.size)⟩
      have := HO7.out.mono HB.out.size
      unfold backL
      rw [← HXM.out, HN.out]
      exact this
end Go.Proofs.Ytcgdhgdblieaiaa
