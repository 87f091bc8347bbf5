/-
  Walks: Order, Turn, and the small line that every statement of this chapter asks first.
-/
import Derived.Test.YtcgdhgdblieaiaaW2
namespace Go.Proofs.Ytcgdhgdblieaiaa
open Go.RowKit

def pickL (xs o : List Int) : List Int := o.map (fun i => xs.getD i.toNat 0)
theorem pickL_length (xs o : List Int) : (pickL xs o).length = o.length := by simp [pickL]
theorem pickL_snoc (xs o : List Int) (k : Nat) (h : k < o.length) : pickL xs (o.take (k + 1)) = pickL xs (o.take k) ++ [xs.getD o[k].toNat 0] := by
  unfold pickL; rw [List.take_succ_eq_append_getElem h, List.map_append]; rfl
theorem ord_nonneg (lv : List Int) (i : Nat) (hi : i < (ord lv).length) : ∃ x : Nat, (ord lv)[i] = (x : Int) ∧ x < lv.length := shownIdx_nonneg lv (ord lv) (ord_perm lv) i hi

theorem Below.ge {B : Nat} {w w' : World} (h : Below B w w') : w.heap.size ≤ w'.heap.size := h.size

/-- 'visual.Order' of levels that may be -/
theorem Order_walk (a : Option Addr) (n cap : Nat) (zs : List Int) (w : World) (hn : zs.length = n) (hlt : n ≤ 1048576) (hok : okL zs = true) (hc : Ints .i8 w a zs) :
    Calls Try.prog 15 #[.slice a n cap] w fun e w' => ∃ a' n' cap', e = .returned (.tuple #[.slice a' n' cap', .int .i64 0]) ∧ Own w.heap.size 3 w' a' n' cap' (ivs .i64 (ord zs)) ∧ Below w.heap.size w w' := by
  have HN := Lib.hid hn; clear hn
  have HK := Lib.hid hok; clear hok
  have hm : mayN zs = 0 := by unfold mayN; rw [if_pos HK.out]
  have HM := Lib.hid hm; clear hm
  go_enter Try.func15, Try.ntmps15
  go_wp2_with fail
  refine (vmay_walk a n cap zs _ HN.out hlt hc).mono ?_
  rintro e w' ⟨rfl, rfl⟩
  rw [HM.out]
  go_wp2_with fail
  refine (order_walk a n cap zs _ HN.out hlt HK.out hc).mono ?_
  rintro e w' ⟨a', n', cap', rfl, hown, hb⟩
  have HO := Lib.hid hown; clear hown
  have HB := Lib.hid hb; clear hb
  go_wp2
  go_ret2
  exact ⟨_, _, _, rfl, HO.out, HB.out⟩

def TurnR (w : World) (kd : IntKind) (E : TypeId) (xs os : List Int) (v i : Value) (wr : World) : Prop :=
  ∃ k : Nat, k ≤ os.length ∧ i = .int .i64 k ∧ ∃ a' n' cap', v = .slice a' n' cap' ∧ Own w.heap.size E wr a' n' cap' (ivs kd (pickL xs (os.take k))) ∧ Below w.heap.size w wr

set_option maxHeartbeats 400000 in
/-- 'visual.Turn[Level]' of levels that may be -/
theorem TurnLevel_walk (a1 a : Option Addr) (cap1 n cap : Nat) (xs zs : List Int) (w : World) (hn : zs.length = n) (hx : xs.length = n) (hlt : n ≤ 1048576) (hok : okL zs = true) (hc1 : Ints .i8 w a1 xs) (hc : Ints .i8 w a zs) :
    Calls Try.prog 16 #[.slice a1 n cap1, .slice a n cap] w fun e w' => ∃ a' n' cap', e = .returned (.tuple #[.slice a' n' cap', .int .i64 0]) ∧ Own w.heap.size 33 w' a' n' cap' (ivs .i8 (pickL xs (ord zs))) ∧ Below w.heap.size w w' := by
  have HN := Lib.hid hn; clear hn
  have HX := Lib.hid hx; clear hx
  have HK := Lib.hid hok; clear hok
  have hm : mayN zs = 0 := by unfold mayN; rw [if_pos HK.out]
  have HM := Lib.hid hm; clear hm
  go_enter Try.func16, Try.ntmps16
  go_wp2_with fail
  refine (vmay_walk a n cap zs _ HN.out hlt hc).mono ?_
  rintro e w' ⟨rfl, rfl⟩
  rw [HM.out]
  have hnn : ((n : Int) != (n : Int)) = false := by simp
  go_wp2_with fail
  refine (order_walk a n cap zs _ HN.out hlt HK.out hc).mono ?_
  rintro e w1 ⟨a2, n2, cap2, rfl, hown, hb⟩
  have hl2 : n2 ≤ n := by have := hown.lenI; have := ord_le zs; have := HN.out; omega
  have HO := Lib.hid hown; clear hown
  have HB := Lib.hid hb; clear hb
  go_wp2
  go_loopw [7, 23] (TurnR w1 .i8 33 xs (ord zs)) (fun _ i _ => n2 - (intOf i).toNat)
  case atStart => exact ⟨0, Nat.zero_le _, rfl, none, 0, 0, rfl, Own.nil _ _ _, Below.refl _ _⟩
  case round =>
    obtain ⟨k, hk, rfl, a', n', cap', rfl, hown, hbel⟩ := hrel
    have hl := hown.lenI
    rw [pickL_length] at hl
    have hl' := HO.out.lenI
    have hn' : n' ≤ n2 := by have := List.length_take_le' k (ord zs); omega
    clear hl
    have HO1 := Lib.hid hown; clear hown
    have HB1 := Lib.hid hbel; clear hbel
    by_cases hlt : k < n2
    · have hko : k < (ord zs).length := by omega
      obtain ⟨x, hxe, hxl⟩ := ord_nonneg zs k hko
      obtain ⟨g, ha, _⟩ := HO.out.at (by omega)
      subst ha
      have c1 := (HO.out.ints.below HB1.out (Nat.le_refl _)).get k hko
      rw [hxe] at c1
      simp only [Nat.zero_add] at c1
      have hx1 : x < xs.length := by have := HX.out; have := HN.out; omega
      obtain ⟨b, o, ha⟩ := hc1.some (by omega)
      subst ha
      have c2 := ((hc1.below HB.out (Nat.le_refl _)).below HB1.out (Nat.le_refl _)).get x hx1
      have hxn : x < n := by have := HN.out; omega
      have HS := Lib.hid (pickL_snoc xs (ord zs) k hko)
      have HE := Lib.hid hxe; clear hxe
      have HL := Lib.hid hl'; clear hl'
      go_wp2_with (at_builtin; refine wpList_app1 Try.elemLevel rfl (.tmp 27) (.tmp 32) rfl HO1.out HB1.out.size (by omega) (by omega) _ rfl _ rfl rfl ?_)
      intro a3 cap3 w3 hown3 hg
      have HO3 := Lib.hid hown3; clear hown3
      have HG := Lib.hid (HO1.out.app hg HB1.out.size); clear hg
      go_wp2
      go_roundw
      case rel =>
        refine ⟨k + 1, by have := HL.out; omega, by go_num, _, _, _, rfl, ?_, HB1.out.trans HG.out⟩
        rw [HS.out, HE.out, ivs_append]
        have e : ivs .i8 [xs.getD ((x : Int)).toNat 0] = [.int .i8 xs[x]] := by simp [ivs, hx1]
        rw [e]
        exact HO3.out
      case measure => simp [intOf]; omega
    · have hk2 : (ord zs).take k = ord zs := List.take_of_length_le (by omega)
      clear hl'
      have HK2 := Lib.hid hk2; clear hk2
      go_wp2
      go_ret2
      refine ⟨_, _, _, rfl, ?_, HB.out.trans (HB1.out.mono HB.out.size)⟩
      have := HO1.out
      rw [HK2.out] at this
      exact this.mono HB.out.size
set_option maxHeartbeats 400000 in
/-- 'visual.Turn[int]' of levels that may be -/
theorem TurnInt_walk (a1 a : Option Addr) (cap1 n cap : Nat) (xs zs : List Int) (w : World) (hn : zs.length = n) (hx : xs.length = n) (hlt : n ≤ 1048576) (hok : okL zs = true) (hc1 : Ints .i64 w a1 xs) (hc : Ints .i8 w a zs) :
    Calls Try.prog 19 #[.slice a1 n cap1, .slice a n cap] w fun e w' => ∃ a' n' cap', e = .returned (.tuple #[.slice a' n' cap', .int .i64 0]) ∧ Own w.heap.size 3 w' a' n' cap' (ivs .i64 (pickL xs (ord zs))) ∧ Below w.heap.size w w' := by
  have HN := Lib.hid hn; clear hn
  have HX := Lib.hid hx; clear hx
  have HK := Lib.hid hok; clear hok
  have hm : mayN zs = 0 := by unfold mayN; rw [if_pos HK.out]
  have HM := Lib.hid hm; clear hm
  go_enter Try.func19, Try.ntmps19
  go_wp2_with fail
  refine (vmay_walk a n cap zs _ HN.out hlt hc).mono ?_
  rintro e w' ⟨rfl, rfl⟩
  rw [HM.out]
  have hnn : ((n : Int) != (n : Int)) = false := by simp
  go_wp2_with fail
  refine (order_walk a n cap zs _ HN.out hlt HK.out hc).mono ?_
  rintro e w1 ⟨a2, n2, cap2, rfl, hown, hb⟩
  have hl2 : n2 ≤ n := by have := hown.lenI; have := ord_le zs; have := HN.out; omega
  have HO := Lib.hid hown; clear hown
  have HB := Lib.hid hb; clear hb
  go_wp2
  go_loopw [7, 23] (TurnR w1 .i64 3 xs (ord zs)) (fun _ i _ => n2 - (intOf i).toNat)
  case atStart => exact ⟨0, Nat.zero_le _, rfl, none, 0, 0, rfl, Own.nil _ _ _, Below.refl _ _⟩
  case round =>
    obtain ⟨k, hk, rfl, a', n', cap', rfl, hown, hbel⟩ := hrel
    have hl := hown.lenI
    rw [pickL_length] at hl
    have hl' := HO.out.lenI
    have hn' : n' ≤ n2 := by have := List.length_take_le' k (ord zs); omega
    clear hl
    have HO1 := Lib.hid hown; clear hown
    have HB1 := Lib.hid hbel; clear hbel
    by_cases hlt : k < n2
    · have hko : k < (ord zs).length := by omega
      obtain ⟨x, hxe, hxl⟩ := ord_nonneg zs k hko
      obtain ⟨g, ha, _⟩ := HO.out.at (by omega)
      subst ha
      have c1 := (HO.out.ints.below HB1.out (Nat.le_refl _)).get k hko
      rw [hxe] at c1
      simp only [Nat.zero_add] at c1
      have hx1 : x < xs.length := by have := HX.out; have := HN.out; omega
      obtain ⟨b, o, ha⟩ := hc1.some (by omega)
      subst ha
      have c2 := ((hc1.below HB.out (Nat.le_refl _)).below HB1.out (Nat.le_refl _)).get x hx1
      have hxn : x < n := by have := HN.out; omega
      have HS := Lib.hid (pickL_snoc xs (ord zs) k hko)
      have HE := Lib.hid hxe; clear hxe
      have HL := Lib.hid hl'; clear hl'
      go_wp2_with (at_builtin; refine wpList_app1 Try.elemInt rfl (.tmp 27) (.tmp 32) rfl HO1.out HB1.out.size (by omega) (by omega) _ rfl _ rfl rfl ?_)
      intro a3 cap3 w3 hown3 hg
      have HO3 := Lib.hid hown3; clear hown3
      have HG := Lib.hid (HO1.out.app hg HB1.out.size); clear hg
      go_wp2
      go_roundw
      case rel =>
        refine ⟨k + 1, by have := HL.out; omega, by go_num, _, _, _, rfl, ?_, HB1.out.trans HG.out⟩
        rw [HS.out, HE.out, ivs_append]
        have e : ivs .i64 [xs.getD ((x : Int)).toNat 0] = [.int .i64 xs[x]] := by simp [ivs, hx1]
        rw [e]
        exact HO3.out
      case measure => simp [intOf]; omega
    · have hk2 : (ord zs).take k = ord zs := List.take_of_length_le (by omega)
      clear hl'
      have HK2 := Lib.hid hk2; clear hk2
      go_wp2
      go_ret2
      refine ⟨_, _, _, rfl, ?_, HB.out.trans (HB1.out.mono HB.out.size)⟩
      have := HO1.out
      rw [HK2.out] at this
      exact this.mono HB.out.size
theorem Try.elemRune : Elem Try.prog 55 21 (.int .i32 0) 4 := ⟨Try.underlying55, by kernel_rfl, by kernel_rfl⟩

set_option maxHeartbeats 400000 in
/-- 'visual.Turn[rune]' of levels that may be -/
theorem TurnRune_walk (a1 a : Option Addr) (cap1 n cap : Nat) (xs zs : List Int) (w : World) (hn : zs.length = n) (hx : xs.length = n) (hlt : n ≤ 1048576) (hok : okL zs = true) (hc1 : Ints .i32 w a1 xs) (hc : Ints .i8 w a zs) :
    Calls Try.prog 40 #[.slice a1 n cap1, .slice a n cap] w fun e w' => ∃ a' n' cap', e = .returned (.tuple #[.slice a' n' cap', .int .i64 0]) ∧ Own w.heap.size 21 w' a' n' cap' (ivs .i32 (pickL xs (ord zs))) ∧ Below w.heap.size w w' := by
  have HN := Lib.hid hn; clear hn
  have HX := Lib.hid hx; clear hx
  have HK := Lib.hid hok; clear hok
  have hm : mayN zs = 0 := by unfold mayN; rw [if_pos HK.out]
  have HM := Lib.hid hm; clear hm
  go_enter Try.func40, Try.ntmps40
  go_wp2_with fail
  refine (vmay_walk a n cap zs _ HN.out hlt hc).mono ?_
  rintro e w' ⟨rfl, rfl⟩
  rw [HM.out]
  have hnn : ((n : Int) != (n : Int)) = false := by simp
  go_wp2_with fail
  refine (order_walk a n cap zs _ HN.out hlt HK.out hc).mono ?_
  rintro e w1 ⟨a2, n2, cap2, rfl, hown, hb⟩
  have hl2 : n2 ≤ n := by have := hown.lenI; have := ord_le zs; have := HN.out; omega
  have HO := Lib.hid hown; clear hown
  have HB := Lib.hid hb; clear hb
  go_wp2
  go_loopw [7, 23] (TurnR w1 .i32 21 xs (ord zs)) (fun _ i _ => n2 - (intOf i).toNat)
  case atStart => exact ⟨0, Nat.zero_le _, rfl, none, 0, 0, rfl, Own.nil _ _ _, Below.refl _ _⟩
  case round =>
    obtain ⟨k, hk, rfl, a', n', cap', rfl, hown, hbel⟩ := hrel
    have hl := hown.lenI
    rw [pickL_length] at hl
    have hl' := HO.out.lenI
    have hn' : n' ≤ n2 := by have := List.length_take_le' k (ord zs); omega
    clear hl
    have HO1 := Lib.hid hown; clear hown
    have HB1 := Lib.hid hbel; clear hbel
    by_cases hlt : k < n2
    · have hko : k < (ord zs).length := by omega
      obtain ⟨x, hxe, hxl⟩ := ord_nonneg zs k hko
      obtain ⟨g, ha, _⟩ := HO.out.at (by omega)
      subst ha
      have c1 := (HO.out.ints.below HB1.out (Nat.le_refl _)).get k hko
      rw [hxe] at c1
      simp only [Nat.zero_add] at c1
      have hx1 : x < xs.length := by have := HX.out; have := HN.out; omega
      obtain ⟨b, o, ha⟩ := hc1.some (by omega)
      subst ha
      have c2 := ((hc1.below HB.out (Nat.le_refl _)).below HB1.out (Nat.le_refl _)).get x hx1
      have hxn : x < n := by have := HN.out; omega
      have HS := Lib.hid (pickL_snoc xs (ord zs) k hko)
      have HE := Lib.hid hxe; clear hxe
      have HL := Lib.hid hl'; clear hl'
      go_wp2_with (at_builtin; refine wpList_app1 Try.elemRune rfl (.tmp 27) (.tmp 32) rfl HO1.out HB1.out.size (by omega) (by omega) _ rfl _ rfl rfl ?_)
      intro a3 cap3 w3 hown3 hg
      have HO3 := Lib.hid hown3; clear hown3
      have HG := Lib.hid (HO1.out.app hg HB1.out.size); clear hg
      go_wp2
      go_roundw
      case rel =>
        refine ⟨k + 1, by have := HL.out; omega, by go_num, _, _, _, rfl, ?_, HB1.out.trans HG.out⟩
        rw [HS.out, HE.out, ivs_append]
        have e : ivs .i32 [xs.getD ((x : Int)).toNat 0] = [.int .i32 xs[x]] := by simp [ivs, hx1]
        rw [e]
        exact HO3.out
      case measure => simp [intOf]; omega
    · have hk2 : (ord zs).take k = ord zs := List.take_of_length_le (by omega)
      clear hl'
      have HK2 := Lib.hid hk2; clear hk2
      go_wp2
      go_ret2
      refine ⟨_, _, _, rfl, ?_, HB.out.trans (HB1.out.mono HB.out.size)⟩
      have := HO1.out
      rw [HK2.out] at this
      exact this.mono HB.out.size
end Go.Proofs.Ytcgdhgdblieaiaa
