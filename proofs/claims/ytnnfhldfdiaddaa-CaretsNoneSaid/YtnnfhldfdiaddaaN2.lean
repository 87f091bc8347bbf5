/-
  The walk of CaretsNone.
-/
import Derived.Test.YtnnfhldfdiaddaaN1
import Derived.Test.YtnnfhldfdiaddaaL8
import Derived.Shelf.RegionOpen
import Derived.RangeFuncBound
import Derived.OwnWalkIn
import Derived.TacticsInMore
import Derived.LoopNIn
import Derived.LoopIn
import Derived.Deep.Cut
set_option linter.unusedVariables false
namespace Go.Proofs.Ytnnfhldfdiaddaa
open Go.RowKit Go.Shelf
attribute [local go_sem] Oper.semAt_some

def NilI (W0 : World) (T : Nat → Prop) (_ : List Nat) (W : World) : Prop := But W0.heap.size (fun _ => False) W0 W ∧ ∀ k, T k → W0.heap.size ≤ k
theorem NilI.abide (W0 : World) : Abide (NilI W0) := by
  rintro T T' pre W W' ⟨h1, h2⟩ ho hwd
  refine ⟨h1.off ho h2 h1.size, fun k hk => ?_⟩
  rcases hwd k hk with h3 | h3
  · exact h2 k h3
  · have := h1.size; omega
theorem below_mark {B : Nat} {w W : World} (h : Below B w W) (D : Nat) (ob : Obj) (hD : B ≤ D) : Below B w (W.putObj D ob) :=
  h.trans ⟨rfl, rfl, rfl, by simp, fun k hk => World.putObj_heap_other (by omega)⟩

set_option maxRecDepth 100000 in
set_option maxHeartbeats 4000000 in
theorem cnone_walk (at_ ed : Int) (w : World) :
    Calls Try.prog 10 #[.int .i64 at_, .int .u8 ed] w fun e w' => e = .returned (.bool true) ∧ Below w.heap.size w w' := by
  refine calls_of_wpM Try.func10 rfl ?_
  simp only [Try.ntmps10, List.size_toArray, List.length_cons, List.length_nil, Nat.reduceAdd, Nat.reduceSub, Array.replicate_succ, Array.replicate_zero, List.push_toArray, List.append_toArray, List.nil_append, List.cons_append]
  go_wp2_with fail
  refine (lives_walk _).mono ?_
  rintro e w1 ⟨rfl, hb⟩
  have HB := Lib.hid hb; clear hb
  have HA := Lib.hid (HB.out.trans (((Below.refl w1.heap.size w1).alloc (Nat.le_refl _) (.cells #[.int .i64 0, .int .i64 0, .int .i64 0, .int .i64 0, .bool false] 39)).mono HB.out.size))
  go_wp2_with fail
  refine (Caret_nil _ _).mono ?_
  rintro e w2 ⟨rfl, hb⟩
  have HB2 := Lib.hid (below_seq HB.out hb); clear hb
  go_wp2_with fail
  refine (Place_nil _ _ _).mono ?_
  rintro e w3 ⟨rfl, hb⟩
  have HB3 := Lib.hid hb; clear hb
  go_wp2_with fail
  refine (Column_nil _ _).mono ?_
  rintro e w4 ⟨rfl, hb⟩
  have HB4 := Lib.hid hb; clear hb
  go_wp2_with fail
  refine (Hit_nil _ _).mono ?_
  rintro e w5 ⟨rfl, hb⟩
  have HB5 := Lib.hid hb; clear hb
  go_wp2_with fail
  refine (Right_nil _ _).mono ?_
  rintro e w6 ⟨rfl, hb⟩
  have HB6 := Lib.hid hb; clear hb
  go_wp2_with fail
  refine (Left_nil _ _).mono ?_
  rintro e w7 ⟨rfl, hb⟩
  have HB7 := Lib.hid hb; clear hb
  go_wp2_with fail
  refine (Next_nil _ _).mono ?_
  rintro e w8 ⟨rfl, hb⟩
  have HB8 := Lib.hid hb; clear hb
  go_wp2_with fail
  refine (Back_nil _ _).mono ?_
  rintro e w9 ⟨rfl, hb⟩
  have HB9 := Lib.hid hb; clear hb
  have HBw := Lib.hid (show Below w.heap.size w w9 from ((((((HB2.out.trans (((Below.refl w2.heap.size w2).alloc (Nat.le_refl _) (.cells #[.int .i64 0, .int .i64 0, .int .i64 0, .int .i64 0, .bool false] 39)).mono HB2.out.size)).trans (HB3.out.mono (by have := HB2.out.size; simp; omega))) |> fun h => below_seq h HB4.out) |> fun h => below_seq h HB5.out) |> fun h => below_seq h HB6.out) |> fun h => below_seq h HB7.out) |> fun h => below_seq (below_seq h HB8.out) HB9.out)
  clear HB HA HB2 HB3 HB4 HB5 HB6 HB7 HB8 HB9
  go_upto_region 13 with (fail)
  obtain ⟨b, hb⟩ : ∃ b, b = w9.heap.size := ⟨_, rfl⟩
  have HAc : Hid ((w9.alloc (.cells #[.int .i64 0] 3)).heap[b]? = some (.cells #[.int .i64 0] 3 (0, 0)) ∧ Below w9.heap.size w9 (w9.alloc (.cells #[.int .i64 0] 3))) := Lib.hid (by
    rw [hb]; exact ⟨heap_alloc_new w9 _, (Below.refl _ _).alloc (Nat.le_refl _) _⟩)
  rw [← hb]
  generalize w9.alloc (.cells #[.int .i64 0] 3) = u at *
  have HBb := Lib.hid hb; clear hb
  have HBu := Lib.hid (below_seq HBw.out HAc.out.2)
  have HBk := Lib.hid HAc.out.1
  clear HAc
  have qF := fun (w : World) (cs : Array Value) => run_eql_func_nil (P := Try.prog) w 60 (.func 48) #[] cs _ _ _ Try.underlying60
  go_wp2_with fail
  refine (Across_walk (.pointer none) rfl u).mono ?_
  rintro e w10 ⟨rfl, -, -, hb⟩
  have HB10 := Lib.hid hb; clear hb
  go_wp2_with fail
  refine (Across_walk (.pointer none) rfl w10).mono ?_
  rintro e w11 ⟨rfl, k1, -, hb⟩
  have HB11 := Lib.hid (below_seq HB10.out hb); clear hb
  have HK1 := Lib.hid k1; clear k1
  go_wp2
  refine wp_rangeX (gf := 48) (lb := #[.pointer (some ⟨w10.heap.size, 0, none⟩)]) rfl (enters_of Try.func48 (by kernel_rfl) rfl)
    (across_none w10.heap.size (fun x => #[.int .i64 (x : Nat), .int .i64 (x : Nat)]) (fun _ => False) w11 HK1.out) (Below.refl _ _) (fun _ h => h.elim) (fun _ => rfl)
    (NilI w11) (fun _ _ _ _ => False) (NilI.abide w11) (fun _ _ _ _ _ _ h => h.elim)
    ⟨But.refl _ _ _, fun _ h => h.elim⟩
    (fun tmps _ x a' _ => a' = { tmps := (tmps.setIfInBounds 79 (.int .i64 (x : Nat))).setIfInBounds 80 (.int .i64 (x : Nat)), defers := [] }) (fun _ _ _ _ _ h _ => h) ?asg3 ?bdy3 ?dn3 ?stp3
  case stp3 =>
    rintro D c T pre W - - - h
    exact h.elim
  case asg3 =>
    rintro l T pre x W K hi hK
    have HK := Lib.hid hK; clear hK
    gi_wp2
    exact HK.out _ _ (Kept.refl _ _ _) hi rfl
  case bdy3 =>
    intro l T pre x a' W _ _ _ _ _ hlen
    exact absurd hlen (Nat.not_lt_zero _)
  case dn3 =>
    rintro D T xs w12 hD hTD rfl ⟨hbut, -⟩ hDk
    have HB12 := Lib.hid (below_seq HB11.out (hbut.below w11.heap.size (Nat.le_refl _) (fun _ h => h.elim)))
    have HD := Lib.hid (show _ ∧ _ from ⟨hD, hDk⟩); clear hD hDk hbut
    have hx := (HB12.out.block b (Array.getElem?_eq_some_iff.1 HBk.out).1).trans HBk.out
    have q0 := cell_of_row w12 b 0 _ _ (0, 0) hx
    simp at q0
    clear hx
    go_wp2_with fail
    refine (Len_nil _).mono ?_
    rintro e w' ⟨rfl, rfl⟩
    go_wp2_with fail
    refine (Shown_nil _).mono ?_
    rintro e w' ⟨rfl, rfl⟩
    go_wp2_with fail
    refine (Width_nil _).mono ?_
    rintro e w13 ⟨rfl, hb⟩
    have HB13 := Lib.hid hb; clear hb
    go_wp2_with fail
    refine (lives_walk _).mono ?_
    rintro e w14 ⟨rfl, hb⟩
    have HB14 := Lib.hid (below_seq HB13.out hb); clear hb
    go_wp2
    refine leaves_mark ((HB14.out.block D (Array.getElem?_eq_some_iff.1 HD.out.2).1).trans HD.out.2) (leaves_nil (v := .bool true) (by simp [results, Try.results10, go_sem]) ?_)
    exact ⟨rfl, below_mark (below_seq HBu.out (below_seq HB12.out HB14.out)) D _ (by have := HD.out.1; have := HB11.out.size; have := HBu.out.size; omega)⟩
end Go.Proofs.Ytnnfhldfdiaddaa
