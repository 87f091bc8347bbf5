/- several texts in one: UC UPL UPQ UY1 -/
import Derived.Deep.RegionLaw
import Derived.Test.YtbmphakfgoompaaGreatG3
import Derived.Test.YtbmphakfgoompaaGreatGR
import Derived.Test.YtbmphakfgoompaaGreatHTPF
import Derived.Great.BuildSlice
import Derived.Test.YtbmphakfgoompaaGreatGST
import Derived.Test.YtbmphakfgoompaaGreatGQ
import Derived.Test.YtbmphakfgoompaaGreatG4
set_option linter.unusedVariables false
set_option linter.unusedSimpArgs false
/-
 The functions that 'Pack' fills tries with.
-/
namespace Go.Proofs.YtbmphakfgoompaaGreat
open Go.RowKit

theorem must_walk (w : World) (bW : Nat) (v r : Int) (ok : Bool) (h : w.heap[bW]? = some (.cells #[.int .i32 v] 21 (0, 0))) :
  Calls Tryz.prog 56 #[.int .i32 r, .bool ok, .pointer (some ⟨bW, 0, none⟩)] w fun e w' => e = .returned (.tuple #[]) ∧ w'.heap[bW]? = some (.cells #[.int .i32 (if ok = true then v else min v r)] 21 (0, 0)) ∧ w.grownBy w' (some bW) := by
 have q0 := cell_of_row w bW 0 _ _ (0, 0) h
 have f0 := frozen_of_row w bW 0 _ _ h
 simp at q0
 have HH := Lib.hid h; clear h
 cases ok
 ·have hmin : ∀ (w : World) (ts : Array TypeId) (ty : TypeId), (Builtin.min_ ts ty #[.int .i32 v, .int .i32 r]).run Tryz.prog w = .ok (.int .i32 (min v r)) w := fun w ts ty => by
   rw [run_min_int2]
   congr 2
   split <;> omega
  go_enter Tryz.func56, Tryz.ntmps56
  go_wp2
  go_end0
  refine ⟨rfl, ?_, grown_store w bW 0 _⟩
  have := heap_setCell_same w bW 0 _ _ (.int .i32 (min v r)) HH.out
  simpa using this
 ·go_enter Tryz.func56, Tryz.ntmps56
  go_wp2
  go_end0
  exact ⟨rfl, HH.out, World.grownBy.refl _ _⟩
/-- a step that is not wanted -/
theorem stepN {F : Fence} {n : Nat} {P : Program} {md : Region.Mode} {ops : Array Oper} {Q : Exit → Act → World → Prop} {C : World → Prop} {M : List Nat} {i : Nat} {o : Oper} {f : Nat} {l : Array Bool} {a : Act} {w : World} (hi : ops[i]? = some o)
  (hw : Region.wanted o (yielded ops a.tmps) = false) (hab : ∀ f, o.about P w a.eval = some f → F.fn f) (hC : i ∉ M → C w) (h : anyC F n P md ops Q M C f (l.setIfInBounds i true) (a.put o.dst undef) w) :
  wpOpIn F n P ops Q i (fun a' w' => (i ∉ M → C w') ∧ anyC F n P md ops Q M C f (l.setIfInBounds i true) a' w') a w := by
 unfold wpOpIn
 simp only [hi, hw, Bool.false_eq_true, if_false]
 exact ⟨hab, hC, h⟩
def PkP (bW : Nat) (v : Int) (w w' : World) : Prop := w'.heap[bW]? = some (.cells #[.int .i32 v] 21 (0, 0)) ∧ w.grownBy w' (some bW)
theorem grown_below {w w' : World} (h : Below w.heap.size w w') (row : Option Nat) : w.grownBy w' row := ⟨h.os, h.tape, h.output, h.size, fun k hk _ => h.block k hk⟩
/-- the boxes that the functions read -/
structure PkB (w : World) (bP bU bW : Nat) (pv : Value) (v : Int) : Prop where
 p : w.heap[bP]? = some (.cells #[pv] 124 (0, 0))
 u : w.heap[bU]? = some (.cells #[.func (.func 56) #[] #[.pointer (some ⟨bW, 0, none⟩)]] 125 (0, 0))
 w : w.heap[bW]? = some (.cells #[.int .i32 v] 21 (0, 0))
theorem PkB.below {w w' : World} {bP bU bW : Nat} {pv : Value} {v : Int} (h : PkB w bP bU bW pv v) (hb : Below w.heap.size w w') : PkB w' bP bU bW pv v :=
 ⟨(hb.block _ (Array.getElem?_eq_some_iff.1 h.p).1).trans h.p, (hb.block _ (Array.getElem?_eq_some_iff.1 h.u).1).trans h.u, (hb.block _ (Array.getElem?_eq_some_iff.1 h.w).1).trans h.w⟩
/-- a number's value for packed tables -/
def wrapLaid (o s : Int) : Int := if s = 1 then wrap32 (o + 1) else wrap32 (-(wrap32 (o + 1)))
theorem laidW_walk (o s : Int) (w : World) : Calls Tryz.prog 53 #[.int .i32 o, .int .u8 s] w fun e w' => e = .returned (.int .i32 (wrapLaid o s)) ∧ w' = w := by
 by_cases h1 : s = 1
 ·subst h1
  have e1 : wrapLaid o 1 = wrap32 (o + 1) := if_pos rfl
  rw [e1]
  go_enter Tryz.func53, Tryz.ntmps53
  go_wp2
  go_ret
  exact ⟨rfl, rfl⟩
 ·have d1 : (s == 1) = false := beq_false_of_ne h1
  have e1 : wrapLaid o s = wrap32 (-(wrap32 (o + 1))) := if_neg h1
  rw [e1]
  go_enter Tryz.func53, Tryz.ntmps53
  go_wp2
  go_ret
  exact ⟨rfl, rfl⟩

set_option maxRecDepth 100000 in
set_option maxHeartbeats 1600000 in
theorem pkClassQ_walk (w : World) (bP bU bW x : Nat) (r : Nat) (C v v' : Int) (hv : v' = if knownB C = true then v else min v (r : Nat)) (h : PkB w bP bU bW (.iface 74 (.pointer (some ⟨x, 0, none⟩))) v)
  (hc : Calls Tryz.prog 145 #[.pointer (some ⟨x, 0, none⟩), .int .i32 (r : Nat)] w fun e w' => e = .returned (.int .u8 C) ∧ Below w.heap.size w w') :
  Calls Tryz.prog 57 #[.int .i32 (r : Nat), .pointer (some ⟨bP, 0, none⟩), .pointer (some ⟨bU, 0, none⟩)] w fun e w' => e = .returned (.int .u8 C) ∧ PkP bW v' w w' := by
 have HV := Lib.hid hv; clear hv
 have HC := Lib.hid hc; clear hc
 have q0 := cell_of_row w bP 0 _ _ (0, 0) h.p
 simp at q0
 have HB := Lib.hid h; clear h
 go_enter Tryz.func57, Tryz.ntmps57
 go_wp2_with fail
 refine HC.out.mono ?_
 rintro e w1 ⟨rfl, hb⟩
 have HB1 := Lib.hid (HB.out.below hb)
 have HG1 := Lib.hid (grown_below hb (some bW))
 clear hb q0 HB
 have q1 := cell_of_row w1 bU 0 _ _ (0, 0) HB1.out.u
 simp at q1
 have HKn := Lib.hid (known_walk C)
 generalize knownB C = b at *
 go_wp2
 go_region_law (first
  | (go_simp; go_at_call 34; refine (HKn.out _).mono ?_; rintro e w' ⟨rfl, h⟩; subst h)
  | (go_simp; go_at_call 56; refine (must_walk (World.drew w1) bW v (r : Nat) b HB1.out.w).mono ?_; rintro e w9 ⟨rfl, h9, g9⟩))
 all_goals
  have HR := Lib.hid (show PkP bW v' w w9 from ⟨by rw [HV.out]; exact h9, grown_trans HG1.out (grown_trans (grown_drew (World.grownBy.refl _ _)) g9)⟩)
  clear h9 g9
  go_wp2
  go_ret
  exact ⟨rfl, HR.out⟩

set_option maxRecDepth 100000 in
set_option maxHeartbeats 1600000 in
theorem pkTwinQ_walk (w : World) (bP bU bW x : Nat) (r : Nat) (T v v' t : Int) (ht : t = if T = (r : Nat) then 0 else wrap32 (T + 1)) (hv : v' = if (T == (r : Nat) || pointB T) = true then v else min v (r : Nat)) (h : PkB w bP bU bW (.iface 74 (.pointer (some ⟨x, 0, none⟩))) v)
  (hc : Calls Tryz.prog 147 #[.pointer (some ⟨x, 0, none⟩), .int .i32 (r : Nat)] w fun e w' => e = .returned (.int .i32 T) ∧ Below w.heap.size w w') :
  Calls Tryz.prog 60 #[.int .i32 (r : Nat), .pointer (some ⟨bP, 0, none⟩), .pointer (some ⟨bU, 0, none⟩)] w fun e w' => e = .returned (.int .i32 t) ∧ PkP bW v' w w' := by
 have HV := Lib.hid hv; clear hv
 have HT := Lib.hid ht; clear ht
 have HC := Lib.hid hc; clear hc
 have q0 := cell_of_row w bP 0 _ _ (0, 0) h.p
 simp at q0
 have HB := Lib.hid h; clear h
 go_enter Tryz.func60, Tryz.ntmps60
 go_wp2_with fail
 refine HC.out.mono ?_
 rintro e w1 ⟨rfl, hb⟩
 have HB1 := Lib.hid (HB.out.below hb)
 have HG1 := Lib.hid (grown_below hb (some bW))
 clear hb q0 HB
 have q1 := cell_of_row w1 bU 0 _ _ (0, 0) HB1.out.u
 simp at q1
 by_cases hq : T = (r : Nat)
 ·have HR := Lib.hid (show t = 0 ∧ PkP bW v' w w1 from ⟨by rw [HT.out, if_pos hq], by rw [HV.out, if_pos (by rw [beq_iff_eq.2 hq]; rfl)]; exact HB1.out.w, HG1.out⟩)
  have hd : (T == (r : Int)) = true := beq_iff_eq.2 hq
  clear hq
  go_wp2
  go_ret
  exact ⟨ret_eq (congrArg (Value.int .i32) HR.out.1.symm), HR.out.2⟩
 ·have HT2 := Lib.hid (show t = wrap32 (T + 1) from by rw [HT.out, if_neg hq])
  have hd : (T == (r : Int)) = false := beq_false_of_ne hq
  have HV2 := Lib.hid (show v' = if pointB T = true then v else min v (r : Nat) from by rw [HV.out, hd, Bool.false_or])
  have HPt := Lib.hid (fun w => (point_walk T w).mono fun e w' h => (show e = .returned (.bool (pointB T)) ∧ w' = w from h))
  generalize pointB T = b at *
  clear hq HV HT
  go_wp2
  go_region_law (first
   | (go_simp; go_at_call 46; refine (HPt.out _).mono ?_; rintro e w' ⟨rfl, h⟩; subst h)
   | (go_simp; go_at_call 56; refine (must_walk (World.drew w1) bW v (r : Nat) b HB1.out.w).mono ?_; rintro e w9 ⟨rfl, h9, g9⟩))
  all_goals
   have HR := Lib.hid (show PkP bW v' w w9 from ⟨by rw [HV2.out]; exact h9, grown_trans HG1.out (grown_trans (grown_drew (World.grownBy.refl _ _)) g9)⟩)
   clear h9 g9
   go_wp2
   go_ret
   exact ⟨ret_eq (congrArg (Value.int .i32) HT2.out.symm), HR.out⟩

set_option maxRecDepth 100000 in
set_option maxHeartbeats 1600000 in
theorem pkMirrorQ_walk (w : World) (bP bU bW x : Nat) (r : Nat) (M v v' t : Int) (is : Bool) (ht : t = if is = true then wrap32 (M + 1) else 0) (hv : v' = if (!is || pointB M) = true then v else min v (r : Nat)) (h : PkB w bP bU bW (.iface 74 (.pointer (some ⟨x, 0, none⟩))) v)
  (hc : Calls Tryz.prog 146 #[.pointer (some ⟨x, 0, none⟩), .int .i32 (r : Nat)] w fun e w' => e = .returned (.tuple #[.int .i32 M, .bool is]) ∧ Below w.heap.size w w') :
  Calls Tryz.prog 61 #[.int .i32 (r : Nat), .pointer (some ⟨bP, 0, none⟩), .pointer (some ⟨bU, 0, none⟩)] w fun e w' => e = .returned (.int .i32 t) ∧ PkP bW v' w w' := by
 have HV := Lib.hid hv; clear hv
 have HT := Lib.hid ht; clear ht
 have HC := Lib.hid hc; clear hc
 have q0 := cell_of_row w bP 0 _ _ (0, 0) h.p
 simp at q0
 have HB := Lib.hid h; clear h
 go_enter Tryz.func61, Tryz.ntmps61
 go_wp2_with fail
 refine HC.out.mono ?_
 rintro e w1 ⟨rfl, hb⟩
 have HB1 := Lib.hid (HB.out.below hb)
 have HG1 := Lib.hid (grown_below hb (some bW))
 clear hb q0 HB
 have q1 := cell_of_row w1 bU 0 _ _ (0, 0) HB1.out.u
 simp at q1
 cases is
 ·have HR := Lib.hid (show t = 0 ∧ PkP bW v' w w1 from ⟨by rw [HT.out, if_neg (by simp)], by rw [HV.out, if_pos (by rfl)]; exact HB1.out.w, HG1.out⟩)
  go_wp2
  go_ret
  exact ⟨ret_eq (congrArg (Value.int .i32) HR.out.1.symm), HR.out.2⟩
 ·have HT2 := Lib.hid (show t = wrap32 (M + 1) from by rw [HT.out, if_pos rfl])
  have HV2 := Lib.hid (show v' = if pointB M = true then v else min v (r : Nat) from by rw [HV.out]; rfl)
  have HPt := Lib.hid (fun w => (point_walk M w).mono fun e w' h => (show e = .returned (.bool (pointB M)) ∧ w' = w from h))
  generalize pointB M = b at *
  clear HV HT
  go_wp2
  go_region_law (first
   | (go_simp; go_at_call 46; refine (HPt.out _).mono ?_; rintro e w' ⟨rfl, h⟩; subst h)
   | (go_simp; go_at_call 56; refine (must_walk (World.drew w1) bW v (r : Nat) b HB1.out.w).mono ?_; rintro e w9 ⟨rfl, h9, g9⟩))
  all_goals
   have HR := Lib.hid (show PkP bW v' w w9 from ⟨by rw [HV2.out]; exact h9, grown_trans HG1.out (grown_trans (grown_drew (World.grownBy.refl _ _)) g9)⟩)
   clear h9 g9
   go_wp2
   go_ret
   exact ⟨ret_eq (congrArg (Value.int .i32) HT2.out.symm), HR.out⟩

set_option maxRecDepth 100000 in
set_option maxHeartbeats 1600000 in
theorem pkBracketQ_walk (w : World) (bP bU bW x : Nat) (r : Nat) (O S v v' t : Int) (ht : t = if S = 0 then 0 else wrapLaid O S) (hv : v' = if (S == 0 || (sidedB S && pointB O)) = true then v else min v (r : Nat)) (h : PkB w bP bU bW (.iface 74 (.pointer (some ⟨x, 0, none⟩))) v)
  (hc : Calls Tryz.prog 144 #[.pointer (some ⟨x, 0, none⟩), .int .i32 (r : Nat)] w fun e w' => e = .returned (.tuple #[.int .i32 O, .int .u8 S]) ∧ Below w.heap.size w w') :
  Calls Tryz.prog 59 #[.int .i32 (r : Nat), .pointer (some ⟨bP, 0, none⟩), .pointer (some ⟨bU, 0, none⟩)] w fun e w' => e = .returned (.int .i32 t) ∧ PkP bW v' w w' := by
 have HV := Lib.hid hv; clear hv
 have HT := Lib.hid ht; clear ht
 have HC := Lib.hid hc; clear hc
 have q0 := cell_of_row w bP 0 _ _ (0, 0) h.p
 simp at q0
 have HB := Lib.hid h; clear h
 go_enter Tryz.func59, Tryz.ntmps59
 go_wp2_with fail
 refine HC.out.mono ?_
 rintro e w1 ⟨rfl, hb⟩
 have HB1 := Lib.hid (HB.out.below hb)
 have HG1 := Lib.hid (grown_below hb (some bW))
 clear hb q0 HB
 have q1 := cell_of_row w1 bU 0 _ _ (0, 0) HB1.out.u
 simp at q1
 by_cases hq : S = 0
 ·have HR := Lib.hid (show t = 0 ∧ PkP bW v' w w1 from ⟨by rw [HT.out, if_pos hq], by rw [HV.out, if_pos (by rw [beq_iff_eq.2 hq]; rfl)]; exact HB1.out.w, HG1.out⟩)
  have hd : (S == 0) = true := beq_iff_eq.2 hq
  clear hq
  go_wp2
  go_ret
  exact ⟨ret_eq (congrArg (Value.int .i32) HR.out.1.symm), HR.out.2⟩
 ·have HT2 := Lib.hid (show t = wrapLaid O S from by rw [HT.out, if_neg hq])
  have hd : (S == 0) = false := beq_false_of_ne hq
  have HV2 := Lib.hid (show v' = if (sidedB S && pointB O) = true then v else min v (r : Nat) from by rw [HV.out, hd, Bool.false_or])
  have HPt := Lib.hid (fun w => (point_walk O w).mono fun e w' h => (show e = .returned (.bool (pointB O)) ∧ w' = w from h))
  have HSd := Lib.hid (fun w => sided_walk S w)
  generalize pointB O = b at *
  generalize sidedB S = b2 at *
  clear hq HV HT
  have HLd := Lib.hid (fun w => laidW_walk O S w)
  go_wp2
  cases b2
  ·refine (wpIn_wide (n := 2)).1 ?_
   refine wpIn_region_calm [8] (fun w' => w'.cell? ⟨bU, 0, none⟩ = some (.func (.func 56) #[] #[.pointer (some ⟨bW, 0, none⟩)])) (by kernel_rfl) ?_
   have HC1 : Hid (w1.drew.cell? ⟨bU, 0, none⟩ = some (.func (.func 56) #[] #[.pointer (some ⟨bW, 0, none⟩)])) := Lib.hid q1
   refine' anyD_take (i := 0) (v := .func (.func 56) #[] #[.pointer (some ⟨bW, 0, none⟩)]) [8] (by kernel_rfl) rfl (by rfl) (by kernel_rfl) (fun _ _ _ h => h) (by rfl) ?h0 HC1.out ?k0
   case h0 =>
    intro w' c0
    go_simp
    try with_reducible rfl
   simp only [List.getElem_toArray, List.getElem_cons_zero, List.getElem_cons_succ, Act.put, List.setIfInBounds_toArray, List.set_cons_zero, List.set_cons_succ]
   refine' anyD_take (i := 1) (v := .int .i32 (r : Nat)) [8] (by kernel_rfl) rfl (by rfl) (by kernel_rfl) (fun _ _ _ h => h) (by rfl) ?h1 HC1.out ?k1
   case h1 =>
    intro w' c0
    go_simp
    try with_reducible rfl
   simp only [List.getElem_toArray, List.getElem_cons_zero, List.getElem_cons_succ, Act.put, List.setIfInBounds_toArray, List.set_cons_zero, List.set_cons_succ]
   refine anyC_r1 (i := 2) (by kernel_rfl) ?_
   refine stepV (i := 2) (v := .int .u8 S) (w' := w1.drew) rfl (by rfl) (fun _ _ => trivial) (by rfl) (by rfl) (fun _ => HC1.out) ?_
   simp only [List.getElem_toArray, List.getElem_cons_zero, List.getElem_cons_succ, Act.put, List.setIfInBounds_toArray, List.set_cons_zero, List.set_cons_succ]
   refine anyC_r1 (i := 3) (by kernel_rfl) ?_
   refine stepCall (i := 3) rfl (by rfl) (by rfl) (fun _ _ => trivial) (exec_call1 47 (.tmp 17) _ rfl (.int .u8 S) rfl (enters_of Tryz.func47 (by kernel_rfl) rfl)) (fun h => by cases h) ?_
   refine callsIn_wide.2 ?_
   refine (HSd.out _).mono ?_
   rintro e v1 ⟨rfl, hv1⟩
   subst hv1
   refine ⟨_, rfl, fun _ => HC1.out, ?_⟩
   simp only [List.getElem_toArray, List.getElem_cons_zero, List.getElem_cons_succ, Act.put, List.setIfInBounds_toArray, List.set_cons_zero, List.set_cons_succ]
   refine anyC_r1 (i := 4) (by kernel_rfl) ?_
   refine stepV (i := 4) (v := .bool false) (w' := w1.drew) rfl (by rfl) (fun _ _ => trivial) (by rfl) (by rfl) (fun _ => HC1.out) ?_
   simp only [List.getElem_toArray, List.getElem_cons_zero, List.getElem_cons_succ, Act.put, List.setIfInBounds_toArray, List.set_cons_zero, List.set_cons_succ]
   refine anyC_r1 (i := 5) (by kernel_rfl) ?_
   refine stepN (i := 5) rfl (by rfl) (fun _ _ => trivial) (fun _ => HC1.out) ?_
   simp only [List.getElem_toArray, List.getElem_cons_zero, List.getElem_cons_succ, Act.put, List.setIfInBounds_toArray, List.set_cons_zero, List.set_cons_succ]
   refine anyC_r1 (i := 6) (by kernel_rfl) ?_
   refine stepN (i := 6) rfl (by rfl) (fun _ _ => trivial) (fun _ => HC1.out) ?_
   simp only [List.getElem_toArray, List.getElem_cons_zero, List.getElem_cons_succ, Act.put, List.setIfInBounds_toArray, List.set_cons_zero, List.set_cons_succ]
   refine anyC_r1 (i := 7) (by kernel_rfl) ?_
   refine stepV (i := 7) (v := .bool false) (w' := w1.drew) rfl (by rfl) (fun _ _ => trivial) (by rfl) (by rfl) (fun _ => HC1.out) ?_
   simp only [List.getElem_toArray, List.getElem_cons_zero, List.getElem_cons_succ, Act.put, List.setIfInBounds_toArray, List.set_cons_zero, List.set_cons_succ]
   refine anyC_tail 8 (by rfl) (by kernel_rfl) (by kernel_rfl) ?_
   simp only [List.drop_succ_cons, List.drop_zero]
   gi_wp2_with fail
   refine ⟨trivial, callsIn_wide.2 ?_⟩
   refine (must_walk (World.drew w1) bW v (r : Nat) false HB1.out.w).mono ?_
   rintro e w9 ⟨rfl, h9, g9⟩
   have HX9 := Lib.hid (And.intro h9 g9)
   clear h9 g9
   gi_wp2
   obtain ⟨h9, g9⟩ := HX9.out
   all_goals
    have HR := Lib.hid (show PkP bW v' w w9 from ⟨by rw [HV2.out]; exact h9, grown_trans HG1.out (grown_trans (grown_drew (World.grownBy.refl _ _)) g9)⟩)
    clear h9 g9
    go_wp2_with fail
    refine (HLd.out _).mono ?_
    rintro e w10 ⟨rfl, h10⟩
    subst h10
    go_wp2
    go_ret
    exact ⟨ret_eq (congrArg (Value.int .i32) HT2.out.symm), HR.out⟩
  ·go_region_law (first
    | (go_simp; go_at_call 47; refine (HSd.out _).mono ?_; rintro e w' ⟨rfl, h⟩; subst h)
    | (go_simp; go_at_call 46; refine (HPt.out _).mono ?_; rintro e w' ⟨rfl, h⟩; subst h)
    | (go_simp; go_at_call 56; refine (must_walk (World.drew w1) bW v (r : Nat) b HB1.out.w).mono ?_; rintro e w9 ⟨rfl, h9, g9⟩))
   all_goals
    have HR := Lib.hid (show PkP bW v' w w9 from ⟨by rw [HV2.out]; exact h9, grown_trans HG1.out (grown_trans (grown_drew (World.grownBy.refl _ _)) g9)⟩)
    clear h9 g9
    go_wp2_with fail
    refine (HLd.out _).mono ?_
    rintro e w10 ⟨rfl, h10⟩
    subst h10
    go_wp2
    go_ret
    exact ⟨ret_eq (congrArg (Value.int .i32) HT2.out.symm), HR.out⟩
end Go.Proofs.YtbmphakfgoompaaGreat

/-
 Laws of 'Pack': what may not be packed; tries filled while a number is kept.
-/
namespace Go.Proofs.YtbmphakfgoompaaGreat
open Go.RowKit

/-- where a value can't be packed -/
def pkC (C : Nat → Int) (r : Nat) : Bool := !knownB (C r)
def pkB (O S : Nat → Int) (r : Nat) : Bool := !(S r == 0 || (sidedB (S r) && pointB (O r)))
def pkT (T : Nat → Int) (r : Nat) : Bool := !(T r == (r : Nat) || pointB (T r))
def pkM (M : Nat → Int) (Hs : Nat → Bool) (r : Nat) : Bool := !(!Hs r || pointB (M r))
def packBad (C O S T M : Nat → Int) (Hs : Nat → Bool) (r : Nat) : Bool := pkC C r || pkB O S r || pkT T r || pkM M Hs r
def bkW (O S : Nat → Int) (r : Nat) : Int := if S r = 0 then 0 else wrapLaid (O r) (S r)
def twW (T : Nat → Int) (r : Nat) : Int := if T r = (r : Nat) then 0 else wrap32 (T r + 1)
def miW (M : Nat → Int) (Hs : Nat → Bool) (r : Nat) : Int := if Hs r = true then wrap32 (M r + 1) else 0
def bkF (O S : Nat → Int) (r : Nat) : Int := if S r = 0 then 0 else laidF (O r) (S r)
def twP (T : Nat → Int) (r : Nat) : Int := if T r = (r : Nat) then 0 else T r + 1
def miF (M : Nat → Int) (Hs : Nat → Bool) (r : Nat) : Int := if Hs r = true then M r + 1 else 0
theorem pack_eq {C O S T M : Nat → Int} {Hs : Nat → Bool} (h : Least (packBad C O S T M Hs) 1114112 1114112) (r : Nat) (hr : r ≤ 1114111) : bkW O S r = bkF O S r ∧ twW T r = twP T r ∧ miW M Hs r = miF M Hs r ∧ (-1114112 ≤ bkF O S r ∧ bkF O S r ≤ 1114112) ∧ (0 ≤ twP T r ∧ twP T r ≤ 1114112) ∧ (0 ≤ miF M Hs r ∧ miF M Hs r ≤ 1114112) := by
 have h1 := h.no r (by omega)
 simp only [packBad, Bool.or_eq_false_iff, pkC, pkB, pkT, pkM, Bool.not_eq_false', Bool.or_eq_true, Bool.and_eq_true, beq_iff_eq, pointB, sidedB, decide_eq_true_eq, Bool.not_eq_true'] at h1
 obtain ⟨⟨⟨-, h2⟩, h3⟩, h4⟩ := h1
 refine ⟨?_, ?_, ?_, ?_, ?_, ?_⟩
 ·unfold bkW bkF
  by_cases e : S r = 0
  ·rw [if_pos e, if_pos e]
  ·rw [if_neg e, if_neg e]
   have h5 := h2.resolve_left e
   unfold wrapLaid laidF
   split
   ·unfold wrap32; omega
   ·unfold wrap32; omega
 ·unfold twW twP
  by_cases e : T r = (r : Nat)
  ·rw [if_pos e, if_pos e]
  ·rw [if_neg e, if_neg e]
   have h5 := h3.resolve_left e
   unfold wrap32; omega
 ·unfold miW miF
  by_cases e : Hs r = true
  ·rw [if_pos e, if_pos e]
   have h5 := h4.resolve_left (by rw [e]; simp)
   unfold wrap32; omega
  ·rw [if_neg e, if_neg e]
 ·unfold bkF
  by_cases e : S r = 0
  ·rw [if_pos e]; omega
  ·rw [if_neg e]
   have h5 := h2.resolve_left e
   unfold laidF
   split <;> omega
 ·unfold twP
  by_cases e : T r = (r : Nat)
  ·rw [if_pos e]; omega
  ·rw [if_neg e]
   have h5 := h3.resolve_left e
   omega
 ·unfold miF
  by_cases e : Hs r = true
  ·rw [if_pos e]
   have h5 := h4.resolve_left (by rw [e]; simp)
   omega
  ·rw [if_neg e]; omega
theorem made8_congr {f g : Nat → Int} {S : MkS Int} (h : Made8 f S) (e : ∀ r, r ≤ 1114111 → f r = g r) : Made8 g S := by
 obtain ⟨K, hK, hS⟩ := h.eq
 have : mkF f K = mkF g K := mkF_congr K (fun r hr => e r (by omega))
 rw [hS, this]
 exact made8 g K hK
theorem made8_congrJ {f g : Nat → Int} {S : MkS Int} (h : VJ.Made8 f S) (e : ∀ r, r ≤ 1114111 → f r = g r) : VJ.Made8 g S := by
 obtain ⟨K, hK, hS⟩ := h.eq
 have : VJ.mkF f K = VJ.mkF g K := VJ.mkF_congr K (fun r hr => e r (by omega))
 rw [hS, this]
 exact VJ.made8 g K hK
theorem HTab.congr {w : World} {p B : Nat} {c b t m c' b' t' m' : Nat → Int} (h : HTab w p c b t m B) (e : ∀ r, r ≤ 1114111 → c r = c' r ∧ b r = b' r ∧ t r = t' r ∧ m r = m' r) : HTab w p c' b' t' m' B := by
 obtain ⟨gc, gb, gt, gm, SC, SB, ST, SM, h1, h2, h3, h4, h5, h6, h7⟩ := h
 exact ⟨gc, gb, gt, gm, SC, SB, ST, SM, ⟨h1.mem, fun r hr => (h1.c r hr).trans (e r hr).1, fun r hr => (h1.b r hr).trans (e r hr).2.1, fun r hr => (h1.t r hr).trans (e r hr).2.2.1, fun r hr => (h1.m r hr).trans (e r hr).2.2.2⟩,
  made8_congr h2 (fun r hr => (e r hr).1), made8_congrJ h3 (fun r hr => (e r hr).2.1), made8_congrJ h4 (fun r hr => (e r hr).2.2.1), made8_congrJ h5 (fun r hr => (e r hr).2.2.2), h6, h7⟩
/-- while a trie is filled: the least number so far that can't be packed -/
def PkJ (wf : World) (bW : Nat) (q : Nat → Bool) (W : World) : Prop := wf.grownBy W (some bW) ∧ ∃ v : Nat, W.heap[bW]? = some (.cells #[.int .i32 (v : Nat)] 21 (0, 0)) ∧ Least q 1114112 v
theorem Least.add {q : Nat → Bool} {v k : Nat} (h : Least q 1114112 v) (hk : k < 1114112) (b : Bool) : Least (fun r => q r || ((r == k) && b)) 1114112 (if b = true then Min.min v k else v) := by
 cases b
 ·exact h.congr (fun r _ => by simp)
 ·have h2 : Least (fun r => r == k) 1114112 k := .hit hk (by simp) (fun r hr => by simp; omega)
  exact (h.min h2).congr (fun r _ => by simp)
theorem PkJ.step {wf W W' : World} {bW k : Nat} {q p : Nat → Bool} (hk : k < 1114112) (h : wf.grownBy W (some bW)) {v : Nat} (hl : Least (fun r => q r || (p r && decide (r < k))) 1114112 v) {v' : Int} (hv' : v' = if p k = true then min (v : Int) (k : Nat) else (v : Nat)) (hp : PkP bW v' W W') : PkJ wf bW (fun r => q r || (p r && decide (r < k + 1))) W' := by
 have hn := (hl.add hk (p k)).congr (q := fun r => q r || (p r && decide (r < k + 1))) (fun r _ => by
  by_cases e : r = k
  ·subst e; simp
  ·have : (r == k) = false := beq_false_of_ne e
   rw [this, Bool.false_and, Bool.or_false]
   by_cases e2 : r < k
   ·simp [e2, show r < k + 1 by omega]
   ·simp [e2, show ¬ r < k + 1 by omega])
 refine ⟨grown_trans h hp.2, (if p k = true then Min.min v k else v), ?_, hn⟩
 rw [hp.1, hv']
 by_cases e : p k = true
 ·rw [if_pos e, if_pos e, show (min (v : Int) (k : Int)) = ((Min.min v k : Nat) : Int) by omega]
 ·rw [if_neg e, if_neg e]
theorem PkJ.next {wf W W' : World} {bW : Nat} {q : Nat → Bool} (h : PkJ wf bW q W) (hs : bW < wf.heap.size) (hb : Below wf.heap.size W W') : PkJ wf bW q W' := by
 obtain ⟨h1, v, h2, h3⟩ := h
 refine ⟨⟨hb.os.trans h1.os, hb.tape.trans h1.tape, hb.output.trans h1.output, Nat.le_trans h1.size hb.size, fun k hk hne => ?_⟩, v, ?_, h3⟩
 ·rw [hb.block k hk]; exact h1.block k hk hne
 ·rw [hb.block bW hs]; exact h2
theorem keeps_grown {B bW : Nat} {W W' : World} (h : W.grownBy W' (some bW)) (hb : bW < B) : Keeps B W W' := ⟨h.os, h.tape, h.output, h.size, fun k hk1 hk2 => h.block k hk2 (fun e => by cases e; omega)⟩
/-- a trie of classes, filled while a number is kept -/
theorem fill8P (cf : Nat) (lb : Array Value) (wf : World) (f : Nat → Int) (bW : Nat) (hs : bW < wf.heap.size) (q p : Nat → Bool) (eg : ∀ args W, (callFunc cf args).run Tryz.prog W = .ok (.enter cf args) W) (v0 : Nat) (hc : wf.heap[bW]? = some (.cells #[.int .i32 (v0 : Nat)] 21 (0, 0))) (hl : Least q 1114112 v0)
  (hcall : ∀ k W, k < 1114112 → wf.grownBy W (some bW) → ∀ v : Nat, W.heap[bW]? = some (.cells #[.int .i32 (v : Nat)] 21 (0, 0)) → Calls Tryz.prog cf (#[.int .i32 (k : Nat)] ++ lb) W fun e W' => e = .returned (val8 (f k)) ∧ PkP bW (if p k = true then min (v : Int) (k : Nat) else (v : Nat)) W W') :
  Calls Tryz.prog 49 #[.func (.func cf) #[] lb] wf fun e w' => ∃ g S, e = .returned (.pointer (some ⟨g, 0, none⟩)) ∧ Made8 f S ∧ TrieAt val8 141 64 w' g (trieS S) ∧ TrieFar 141 w' g (trieS S) wf.heap.size ∧ PkJ wf bW (fun r => q r || p r) w' := by
 refine (Fill8_walk cf lb wf f (fun k W => PkJ wf bW (fun r => q r || (p r && decide (r < k))) W) eg (fun k W W' h hb => h.next hs hb) (fun k W hk hW _ => ?_) ⟨World.grownBy.refl _ _, v0, hc, hl.congr (fun r _ => by simp)⟩).mono ?_
 ·obtain ⟨h1, v, h2, h3⟩ := hW
  refine (hcall k W hk h1 v h2).mono ?_
  rintro e W' ⟨h4, h5⟩
  exact ⟨h4, PkJ.step hk h1 h3 rfl h5, keeps_grown h5.2 hs⟩
 ·rintro e w' ⟨g, rfl, hg, ⟨am, cm, al, cl, hM⟩, hJ⟩
  obtain ⟨j1, v, j2, j3⟩ := hJ
  have hJ2 : PkJ wf bW (fun r => q r || p r) w' := ⟨j1, v, j2, j3.congr (fun r hr => by simp [hr])⟩
  have hS := made8 f 17408 rfl
  clear j3
  generalize mkF f 17408 = S at *
  exact ⟨g, S, rfl, hS, trieS_at hS hM, mk_far hM hg, hJ2⟩
theorem fillJP (cf : Nat) (lb : Array Value) (wf : World) (f : Nat → Int) (bW : Nat) (hs : bW < wf.heap.size) (q p : Nat → Bool) (eg : ∀ args W, (callFunc cf args).run Tryz.prog W = .ok (.enter cf args) W) (v0 : Nat) (hc : wf.heap[bW]? = some (.cells #[.int .i32 (v0 : Nat)] 21 (0, 0))) (hl : Least q 1114112 v0)
  (hcall : ∀ k W, k < 1114112 → wf.grownBy W (some bW) → ∀ v : Nat, W.heap[bW]? = some (.cells #[.int .i32 (v : Nat)] 21 (0, 0)) → Calls Tryz.prog cf (#[.int .i32 (k : Nat)] ++ lb) W fun e W' => e = .returned (.int .i32 (f k)) ∧ PkP bW (if p k = true then min (v : Int) (k : Nat) else (v : Nat)) W W') :
  Calls Tryz.prog 58 #[.func (.func cf) #[] lb] wf fun e w' => ∃ g S, e = .returned (.pointer (some ⟨g, 0, none⟩)) ∧ VJ.Made8 f S ∧ TrieAt VJ.val8 152 64 w' g (VJ.trieS S) ∧ VJ.TrieFar 152 w' g (VJ.trieS S) wf.heap.size ∧ PkJ wf bW (fun r => q r || p r) w' := by
 refine (VJ.Fill8_walk cf lb wf f (fun k W => PkJ wf bW (fun r => q r || (p r && decide (r < k))) W) eg (fun k W W' h hb => h.next hs hb) (fun k W hk hW _ => ?_) ⟨World.grownBy.refl _ _, v0, hc, hl.congr (fun r _ => by simp)⟩).mono ?_
 ·obtain ⟨h1, v, h2, h3⟩ := hW
  refine (hcall k W hk h1 v h2).mono ?_
  rintro e W' ⟨h4, h5⟩
  exact ⟨h4, PkJ.step hk h1 h3 rfl h5, keeps_grown h5.2 hs⟩
 ·rintro e w' ⟨g, rfl, hg, ⟨am, cm, al, cl, hM⟩, hJ⟩
  obtain ⟨j1, v, j2, j3⟩ := hJ
  have hJ2 : PkJ wf bW (fun r => q r || p r) w' := ⟨j1, v, j2, j3.congr (fun r hr => by simp [hr])⟩
  have hS := VJ.made8 f 17408 rfl
  clear j3
  generalize VJ.mkF f 17408 = S at *
  exact ⟨g, S, rfl, hS, VJ.trieS_at hS hM, mk_farJ hM hg, hJ2⟩

theorem trie_kept {val : Int → Value} {ty : TypeId} {n : Nat} {W W' : World} {g B b : Nat} {T : TrieD Int} (h : TrieAt val ty n W g T) (hf : TrieFar ty W g T B) (hg : W.grownBy W' (some b)) (hb : b < B) : TrieAt val ty n W' g T ∧ TrieFar ty W' g T B := by
 obtain ⟨am, cm, al, cl, h1, h2, h3⟩ := h
 obtain ⟨h0, am', cm', al', cl', k1, k2, k3⟩ := hf
 have e := h1.symm.trans k1
 simp only [Option.some.injEq, Obj.cells.injEq, List.toArray_inj, and_true, true_and, trieC] at e
 have e2 := List.append_cancel_left (congrArg Array.toList e)
 simp only [List.cons.injEq, Value.slice.injEq, true_and, and_true] at e2
 obtain ⟨⟨rfl, rfl⟩, rfl, rfl⟩ := e2
 have hblk : W'.heap[g]? = some (.cells (trieC T am cm al cl).toArray ty (0, 0)) := (hg.block g (Array.getElem?_eq_some_iff.1 h1).1 (fun e => by cases e; omega)).trans h1
 have hr : ∀ (x o : Nat) (cs : List Value), B ≤ x → W.rangeAt x o cs → W'.rangeAt x o cs := fun x o cs hx hc j v hv => by
  have h9 := hc j v hv
  rw [World.cell?_of_block (w := W) (a := ⟨x, o + j, none⟩) (hg.block x (World.block_lt_of_cell? W _ h9) (fun e => by cases e; omega))]
  exact h9
 refine ⟨⟨am, cm, al, cl, hblk, fun i hi => ?_, fun i hi => ?_⟩, h0, am, cm, al, cl, hblk, k2, k3⟩
 ·obtain ⟨x, o, e, hc⟩ := h2 i hi
  exact ⟨x, o, e, hr x _ _ (k2 _ e) hc⟩
 ·obtain ⟨x, o, e, hc⟩ := h3 i hi
  exact ⟨x, o, e, hr x _ _ (k3 _ e) hc⟩
theorem alloc4 (w : World) (o1 o2 o3 o4 : Obj) : Below w.heap.size w ((((w.alloc o1).alloc o2).alloc o3).alloc o4) ∧ ((((w.alloc o1).alloc o2).alloc o3).alloc o4).heap[w.heap.size]? = some o1 ∧ ((((w.alloc o1).alloc o2).alloc o3).alloc o4).heap[w.heap.size + 1]? = some o2 ∧
  ((((w.alloc o1).alloc o2).alloc o3).alloc o4).heap[w.heap.size + 2]? = some o3 ∧ ((((w.alloc o1).alloc o2).alloc o3).alloc o4).heap[w.heap.size + 3]? = some o4 ∧ ((((w.alloc o1).alloc o2).alloc o3).alloc o4).heap.size = w.heap.size + 4 := by
 refine ⟨((((Below.refl _ w).alloc (Nat.le_refl _) o1).alloc (by simp) o2).alloc (by simp; omega) o3).alloc (by simp; omega) o4, ?_, ?_, ?_, ?_, by simp⟩
 ·rw [Below.heap_alloc _ _ _ (by simp; omega), Below.heap_alloc _ _ _ (by simp; omega), Below.heap_alloc _ _ _ (by simp)]
  exact World.alloc_heap_new w o1
 ·rw [Below.heap_alloc _ _ _ (by simp), Below.heap_alloc _ _ _ (by simp)]
  have := World.alloc_heap_new (w.alloc o1) o2
  simpa using this
 ·rw [Below.heap_alloc _ _ _ (by simp)]
  have := World.alloc_heap_new ((w.alloc o1).alloc o2) o3
  simpa using this
 ·have := World.alloc_heap_new (((w.alloc o1).alloc o2).alloc o3) o4
  simpa using this
/-- on its way: the boxes, the tables -/
structure PkS (w : World) (s : Nat) (pv : Value) (q : Nat → Bool) (tc : Array Value) (W : World) : Prop where
 le : s ≤ W.heap.size
 bel : Below s w W
 p : W.heap[s]? = some (.cells #[pv] 124 (0, 0))
 u : W.heap[s + 2]? = some (.cells #[.func (.func 56) #[] #[.pointer (some ⟨s + 1, 0, none⟩)]] 125 (0, 0))
 w : ∃ v : Nat, W.heap[s + 1]? = some (.cells #[.int .i32 (v : Nat)] 21 (0, 0)) ∧ Least q 1114112 v
 t : W.heap[s + 3]? = some (.cells tc 103 (0, 0))
theorem PkS.fill {w : World} {s : Nat} {pv : Value} {q q' : Nat → Bool} {tc : Array Value} {W W' : World} (h : PkS w s pv q tc W) (hj : PkJ W (s + 1) q' W') : PkS w s pv q' tc W' := by
 obtain ⟨hg, hv⟩ := hj
 have b : ∀ k, k ≠ s + 1 → ∀ o, W.heap[k]? = some o → W'.heap[k]? = some o := fun k hk o ho => (hg.block k (Array.getElem?_eq_some_iff.1 ho).1 (fun e => by cases e; exact hk rfl)).trans ho
 exact ⟨Nat.le_trans h.le hg.size, h.bel.trans (below_grown hg (fun k e => by cases e; omega) h.le), b _ (by omega) _ h.p, b _ (by omega) _ h.u, hv, b _ (by omega) _ h.t⟩
theorem PkS.set {w : World} {s : Nat} {pv : Value} {q : Nat → Bool} {tc : Array Value} {W : World} (h : PkS w s pv q tc W) (i : Nat) (v : Value) : PkS w s pv q (tc.setIfInBounds i v) (W.setCell ⟨s + 3, i, none⟩ v) := by
 have b : ∀ k, k ≠ s + 3 → (W.setCell ⟨s + 3, i, none⟩ v).heap[k]? = W.heap[k]? := fun k hk => heap_setCell_other W ⟨s + 3, i, none⟩ k v (fun e => hk (by simpa using e))
 exact ⟨by simpa using h.le, h.bel.setCell (p := ⟨s + 3, i, none⟩) (by show s ≤ s + 3; omega) v, (b _ (by omega)).trans h.p, (b _ (by omega)).trans h.u, by obtain ⟨x, h1, h2⟩ := h.w; exact ⟨x, (b _ (by omega)).trans h1, h2⟩, heap_setCell_same W (s + 3) i tc _ v h.t⟩
/-- what 'Pack' answers -/
def PackQ (w : World) (C O S T M : Nat → Int) (Hs : Nat → Bool) (e : Ending) (w' : World) : Prop :=
 Below w.heap.size w w' ∧ ∃ k, Least (packBad C O S T M Hs) 1114112 k ∧
  ((k < 1114112 ∧ e = .returned (.tuple #[.pointer none, .int .i32 (k : Nat), .int .i64 140])) ∨
  (k = 1114112 ∧ ∃ p q, Least (wrongF C (bkF O S) (twP T) (miF M Hs)) 1114112 q ∧ e = .returned (wholeE p q) ∧ HTab w' p C (bkF O S) (twP T) (miF M Hs) w.heap.size))
end Go.Proofs.YtbmphakfgoompaaGreat

/-
 The walk of 'Pack'.
-/
namespace Go.Proofs.YtbmphakfgoompaaGreat
open Go.RowKit

/-- props that say what is told -/
structure PropsQ (w : World) (x : Nat) (C O S T M : Nat → Int) (Hs : Nat → Bool) : Prop where
 cls : ∀ W, Below w.heap.size w W → ∀ r, r < 1114112 → Calls Tryz.prog 145 #[.pointer (some ⟨x, 0, none⟩), .int .i32 (r : Nat)] W fun e W' => e = .returned (.int .u8 (C r)) ∧ Below W.heap.size W W'
 br : ∀ W, Below w.heap.size w W → ∀ r, r < 1114112 → Calls Tryz.prog 144 #[.pointer (some ⟨x, 0, none⟩), .int .i32 (r : Nat)] W fun e W' => e = .returned (.tuple #[.int .i32 (O r), .int .u8 (S r)]) ∧ Below W.heap.size W W'
 tw : ∀ W, Below w.heap.size w W → ∀ r, r < 1114112 → Calls Tryz.prog 147 #[.pointer (some ⟨x, 0, none⟩), .int .i32 (r : Nat)] W fun e W' => e = .returned (.int .i32 (T r)) ∧ Below W.heap.size W W'
 mi : ∀ W, Below w.heap.size w W → ∀ r, r < 1114112 → Calls Tryz.prog 146 #[.pointer (some ⟨x, 0, none⟩), .int .i32 (r : Nat)] W fun e W' => e = .returned (.tuple #[.int .i32 (M r), .bool (Hs r)]) ∧ Below W.heap.size W W'

set_option maxRecDepth 100000 in
set_option maxHeartbeats 4000000 in
theorem packQ_walk (w : World) (x : Nat) (C O S T M : Nat → Int) (Hs : Nat → Bool) (h : PropsQ w x C O S T M Hs) :
  Calls Tryz.prog 17 #[.iface 74 (.pointer (some ⟨x, 0, none⟩))] w fun e w' => PackQ w C O S T M Hs e w' := by
 have HP := Lib.hid h; clear h
 obtain ⟨pv, hpv⟩ : ∃ pv, pv = Value.iface 74 (.pointer (some ⟨x, 0, none⟩)) := ⟨_, rfl⟩
 obtain ⟨s, hs⟩ : ∃ s, s = w.heap.size := ⟨_, rfl⟩
 obtain ⟨m1, m2, m3⟩ := box_fact w (.iface 74 (.pointer (some ⟨x, 0, none⟩))) 124
 have hA := heap_alloc_new w (.cells #[.iface 74 (.pointer (some ⟨x, 0, none⟩))] 124)
 have q0 := cell_of_row _ w.heap.size 0 _ _ (0, 0) hA
 simp only [List.getElem?_toArray, List.getElem?_cons_zero] at q0
 clear hA
 obtain ⟨n1, n2, n3⟩ := box_fact (w.alloc (.cells #[.iface 74 (.pointer (some ⟨x, 0, none⟩))] 124)) (.int .i32 1114112) 21
 have H1 := Lib.hid (And.intro m1 (And.intro m2 (And.intro m3 (And.intro n1 (And.intro n2 n3)))))
 clear m1 m2 m3 n1 n2 n3
 have HPv := Lib.hid hpv; clear hpv
 have Hs0 := Lib.hid hs; clear hs
 go_enter Tryz.func17, Tryz.ntmps17
 go_upto_region 4 with (fail)
 clear q0
 obtain ⟨m1, m2, m3, n1, n2, n3⟩ := H1.out
 clear H1
 have hs := Hs0.out
 rw [m3] at n2 n3
 rw [← hs] at m1 m2 m3 n2 n3 ⊢
 have HM := Lib.hid (And.intro (m1.trans (n1.mono (by omega))) (And.intro ((n1.block s (by omega)).trans m2) (And.intro n2 n3)))
 clear m1 m2 m3 n1 n2 n3 hs
 generalize (w.alloc (.cells #[.iface 74 (.pointer (some ⟨x, 0, none⟩))] 124)).alloc (.cells #[.int .i32 1114112] 21) = w2 at *
 refine wp_region_list ?_
 refine wpList_val (v := .func (.func 56) #[] #[.pointer (some ⟨s + 1, 0, none⟩)]) (w' := w2) rfl (by kernel_rfl) ?_
 refine wpList_val (v := .pointer (some ⟨w2.heap.size, 0, none⟩)) (w' := w2.alloc (.cells #[.nilFunc] 125)) rfl (by kernel_rfl) ?_
 refine wpList_store_one rfl 125 (.tmp 6) (.tmp 10) rfl w2.heap.size rfl rfl 125 .nilFunc (heap_alloc_new w2 _) (by kernel_rfl) ?_
 obtain ⟨e1, e2, e3⟩ := setbox_fact w2 .nilFunc (.func (.func 56) #[] #[.pointer (some ⟨s + 1, 0, none⟩)]) 125
 change wpList _ _ _ _ _ ((w2.alloc (.cells #[.nilFunc] 125)).setRow w2.heap.size #[.func (.func 56) #[] #[.pointer (some ⟨s + 1, 0, none⟩)]])
 generalize (w2.alloc (.cells #[.nilFunc] 125)).setRow w2.heap.size #[.func (.func 56) #[] #[.pointer (some ⟨s + 1, 0, none⟩)]] = w3 at *
 have hz2 : w2.heap.size = s + 2 := HM.out.2.2.2
 rw [hz2] at e2 e3 ⊢
 have HM3 := Lib.hid (And.intro (HM.out.1.trans (e1.mono (by omega))) (And.intro ((e1.block s (by omega)).trans HM.out.2.1) (And.intro ((e1.block (s + 1) (by omega)).trans HM.out.2.2.1) (And.intro e2 e3))))
 clear e1 e2 e3 hz2 HM
 obtain ⟨m1, m2, m3⟩ := (show Below w3.heap.size w3 (w3.alloc (.cells #[.pointer none, .pointer none, .pointer none, .pointer none] 103)) ∧ (w3.alloc (.cells #[.pointer none, .pointer none, .pointer none, .pointer none] 103)).heap[w3.heap.size]? = some (.cells #[.pointer none, .pointer none, .pointer none, .pointer none] 103 (0, 0)) ∧ (w3.alloc (.cells #[.pointer none, .pointer none, .pointer none, .pointer none] 103)).heap.size = w3.heap.size + 1 from
  ⟨(Below.refl _ w3).alloc (Nat.le_refl _) _, heap_alloc_new w3 _, World.size_alloc w3 _⟩)
 have hz3 : w3.heap.size = s + 3 := by have := HM3.out.2.2.2.2; omega
 have HM4 := Lib.hid (And.intro m1 (And.intro m2 m3))
 clear m1 m2 m3
 go_upto_region 6 with (fail)
 generalize w3.alloc (.cells #[.pointer none, .pointer none, .pointer none, .pointer none] 103) = v0 at *
 rw [hz3] at HM4
 have HS0 : Hid (PkS w s pv (fun _ => false) #[.pointer none, .pointer none, .pointer none, .pointer none] v0) := Lib.hid (by
  obtain ⟨k1, k2, k3, k4, k5⟩ := HM3.out
  obtain ⟨j1, j2, j3⟩ := HM4.out
  exact ⟨by omega, k1.trans (j1.mono (by omega)), by rw [HPv.out]; exact (j1.block s (by omega)).trans k2, (j1.block (s + 2) (by omega)).trans k4, ⟨1114112, (j1.block (s + 1) (by omega)).trans k3, .none (fun _ _ => rfl)⟩, j2⟩)
 have hz0 : s + 4 ≤ v0.heap.size := by have := HM4.out.2.2; omega
 clear HM3 HM4 hz3
 obtain ⟨x1, hx1, hl1⟩ := HS0.out.w
 have HFi := Lib.hid (fill8P 57 #[.pointer (some ⟨s, 0, none⟩), .pointer (some ⟨s + 2, 0, none⟩)] v0 C (s + 1) (by omega) _ (pkC C) (enters_of Tryz.func57 (by kernel_rfl) rfl) x1 hx1 hl1 (fun k W hk hg v hv => by
  have hbw : Below w.heap.size w W := by rw [← Hs0.out]; exact HS0.out.bel.trans (below_grown hg (fun k e => by cases e; omega) HS0.out.le)
  have b : ∀ k, k ≠ s + 1 → ∀ o, v0.heap[k]? = some o → W.heap[k]? = some o := fun k hk o ho => (hg.block k (Array.getElem?_eq_some_iff.1 ho).1 (fun e => by cases e; exact hk rfl)).trans ho
  have hpb : PkB W s (s + 2) (s + 1) (.iface 74 (.pointer (some ⟨x, 0, none⟩))) (v : Nat) := ⟨by rw [← HPv.out]; exact b _ (by omega) _ HS0.out.p, b _ (by omega) _ HS0.out.u, hv⟩
  refine pkClassQ_walk W s (s + 2) (s + 1) x k (C k) (v : Nat) _ ?_ hpb (HP.out.cls W hbw k hk)
  unfold pkC
  by_cases e : knownB (C k) = true
  ·rw [if_pos e, if_neg (by rw [e]; simp)]
  ·rw [if_neg e, if_pos (by rw [(Bool.not_eq_true _).mp e]; rfl)]))
 clear hx1 hl1
 go_wp2_with fail
 refine HFi.out.mono ?_
 rintro e v1 ⟨g1, S1, rfl, hS, hT, hF, hJ⟩
 have HM1 := Lib.hid hS
 have HV := Lib.hid (HS0.out.fill hJ)
 have HTn := Lib.hid (And.intro hT (hF.mono hz0))
 have hzn : s + 4 ≤ v1.heap.size := Nat.le_trans hz0 hJ.1.size
 clear hS hT hF hJ HFi HS0
 have y0 := cell_of_row v1 (s + 3) 0 _ _ (0, 0) HV.out.t
 have y1 := frozen_of_row v1 (s + 3) 0 _ _ HV.out.t
 simp at y0
 have HW := Lib.hid (HV.out.set 0 (.pointer (some ⟨g1, 0, none⟩)))
 have HTm := Lib.hid (trie_kept HTn.out.1 HTn.out.2 (grown_store v1 (s + 3) 0 (.pointer (some ⟨g1, 0, none⟩))) (by omega))
 have hzm : s + 4 ≤ (v1.setCell ⟨s + 3, 0, none⟩ (.pointer (some ⟨g1, 0, none⟩))).heap.size := by simpa using hzn
 go_upto_region 7 with (fail)
 clear y0 y1 HV HTn hzn
 generalize v1.setCell ⟨s + 3, 0, none⟩ (.pointer (some ⟨g1, 0, none⟩)) = u1 at *
 have HS1 := HW
 have HT1 := HTm
 have hz1 := hzm
 clear HW HTm hz0 hzm
 obtain ⟨x2, hx2, hl2⟩ := HS1.out.w
 have HFi := Lib.hid (fillJP 59 #[.pointer (some ⟨s, 0, none⟩), .pointer (some ⟨s + 2, 0, none⟩)] u1 (bkW O S) (s + 1) (by omega) _ (pkB O S) (enters_of Tryz.func59 (by kernel_rfl) rfl) x2 hx2 hl2 (fun k W hk hg v hv => by
  have hbw : Below w.heap.size w W := by rw [← Hs0.out]; exact HS1.out.bel.trans (below_grown hg (fun k e => by cases e; omega) HS1.out.le)
  have b : ∀ k, k ≠ s + 1 → ∀ o, u1.heap[k]? = some o → W.heap[k]? = some o := fun k hk o ho => (hg.block k (Array.getElem?_eq_some_iff.1 ho).1 (fun e => by cases e; exact hk rfl)).trans ho
  have hpb : PkB W s (s + 2) (s + 1) (.iface 74 (.pointer (some ⟨x, 0, none⟩))) (v : Nat) := ⟨by rw [← HPv.out]; exact b _ (by omega) _ HS1.out.p, b _ (by omega) _ HS1.out.u, hv⟩
  refine pkBracketQ_walk W s (s + 2) (s + 1) x k (O k) (S k) (v : Nat) _ _ rfl ?_ hpb (HP.out.br W hbw k hk)
  unfold pkB
  by_cases e : (S k == 0 || (sidedB (S k) && pointB (O k))) = true
  ·rw [if_pos e, if_neg (by rw [e]; simp)]
  ·rw [if_neg e, if_pos (by rw [(Bool.not_eq_true _).mp e]; rfl)]))
 clear hx2 hl2
 go_wp2_with fail
 refine HFi.out.mono ?_
 rintro e v2 ⟨g2, S2, rfl, hS, hT, hF, hJ⟩
 have HM2 := Lib.hid hS
 have HV := Lib.hid (HS1.out.fill hJ)
 have HTn := Lib.hid (And.intro hT (hF.mono hz1))
 have HU1 := Lib.hid (trie_kept HT1.out.1 HT1.out.2 hJ.1 (by omega))
 have hzn : s + 4 ≤ v2.heap.size := Nat.le_trans hz1 hJ.1.size
 clear hS hT hF hJ HFi HS1 HT1
 have y0 := cell_of_row v2 (s + 3) 1 _ _ (0, 0) HV.out.t
 have y1 := frozen_of_row v2 (s + 3) 1 _ _ HV.out.t
 simp at y0
 have HW := Lib.hid (HV.out.set 1 (.pointer (some ⟨g2, 0, none⟩)))
 have HTm := Lib.hid (trie_kept HTn.out.1 HTn.out.2 (grown_store v2 (s + 3) 1 (.pointer (some ⟨g2, 0, none⟩))) (by omega))
 have HX1 := Lib.hid (trie_kept HU1.out.1 HU1.out.2 (grown_store v2 (s + 3) 1 (.pointer (some ⟨g2, 0, none⟩))) (by omega))
 have hzm : s + 4 ≤ (v2.setCell ⟨s + 3, 1, none⟩ (.pointer (some ⟨g2, 0, none⟩))).heap.size := by simpa using hzn
 go_upto_region 8 with (fail)
 clear y0 y1 HV HTn HU1 hzn
 generalize v2.setCell ⟨s + 3, 1, none⟩ (.pointer (some ⟨g2, 0, none⟩)) = u2 at *
 have HS2 := HW
 have HT2 := HTm
 have hz2 := hzm
 clear HW HTm hz1 hzm
 have HT1 := HX1
 clear HX1
 obtain ⟨x3, hx3, hl3⟩ := HS2.out.w
 have HFi := Lib.hid (fillJP 60 #[.pointer (some ⟨s, 0, none⟩), .pointer (some ⟨s + 2, 0, none⟩)] u2 (twW T) (s + 1) (by omega) _ (pkT T) (enters_of Tryz.func60 (by kernel_rfl) rfl) x3 hx3 hl3 (fun k W hk hg v hv => by
  have hbw : Below w.heap.size w W := by rw [← Hs0.out]; exact HS2.out.bel.trans (below_grown hg (fun k e => by cases e; omega) HS2.out.le)
  have b : ∀ k, k ≠ s + 1 → ∀ o, u2.heap[k]? = some o → W.heap[k]? = some o := fun k hk o ho => (hg.block k (Array.getElem?_eq_some_iff.1 ho).1 (fun e => by cases e; exact hk rfl)).trans ho
  have hpb : PkB W s (s + 2) (s + 1) (.iface 74 (.pointer (some ⟨x, 0, none⟩))) (v : Nat) := ⟨by rw [← HPv.out]; exact b _ (by omega) _ HS2.out.p, b _ (by omega) _ HS2.out.u, hv⟩
  refine pkTwinQ_walk W s (s + 2) (s + 1) x k (T k) (v : Nat) _ _ rfl ?_ hpb (HP.out.tw W hbw k hk)
  unfold pkT
  by_cases e : (T k == (k : Nat) || pointB (T k)) = true
  ·rw [if_pos e, if_neg (by rw [e]; simp)]
  ·rw [if_neg e, if_pos (by rw [(Bool.not_eq_true _).mp e]; rfl)]))
 clear hx3 hl3
 go_wp2_with fail
 refine HFi.out.mono ?_
 rintro e v3 ⟨g3, S3, rfl, hS, hT, hF, hJ⟩
 have HM3 := Lib.hid hS
 have HV := Lib.hid (HS2.out.fill hJ)
 have HTn := Lib.hid (And.intro hT (hF.mono hz2))
 have HU1 := Lib.hid (trie_kept HT1.out.1 HT1.out.2 hJ.1 (by omega))
 have HU2 := Lib.hid (trie_kept HT2.out.1 HT2.out.2 hJ.1 (by omega))
 have hzn : s + 4 ≤ v3.heap.size := Nat.le_trans hz2 hJ.1.size
 clear hS hT hF hJ HFi HS2 HT1 HT2
 have y0 := cell_of_row v3 (s + 3) 2 _ _ (0, 0) HV.out.t
 have y1 := frozen_of_row v3 (s + 3) 2 _ _ HV.out.t
 simp at y0
 have HW := Lib.hid (HV.out.set 2 (.pointer (some ⟨g3, 0, none⟩)))
 have HTm := Lib.hid (trie_kept HTn.out.1 HTn.out.2 (grown_store v3 (s + 3) 2 (.pointer (some ⟨g3, 0, none⟩))) (by omega))
 have HX1 := Lib.hid (trie_kept HU1.out.1 HU1.out.2 (grown_store v3 (s + 3) 2 (.pointer (some ⟨g3, 0, none⟩))) (by omega))
 have HX2 := Lib.hid (trie_kept HU2.out.1 HU2.out.2 (grown_store v3 (s + 3) 2 (.pointer (some ⟨g3, 0, none⟩))) (by omega))
 have hzm : s + 4 ≤ (v3.setCell ⟨s + 3, 2, none⟩ (.pointer (some ⟨g3, 0, none⟩))).heap.size := by simpa using hzn
 go_upto_region 9 with (fail)
 clear y0 y1 HV HTn HU1 HU2 hzn
 generalize v3.setCell ⟨s + 3, 2, none⟩ (.pointer (some ⟨g3, 0, none⟩)) = u3 at *
 have HS3 := HW
 have HT3 := HTm
 have hz3 := hzm
 clear HW HTm hz2 hzm
 have HT1 := HX1
 clear HX1
 have HT2 := HX2
 clear HX2
 obtain ⟨x4, hx4, hl4⟩ := HS3.out.w
 have HFi := Lib.hid (fillJP 61 #[.pointer (some ⟨s, 0, none⟩), .pointer (some ⟨s + 2, 0, none⟩)] u3 (miW M Hs) (s + 1) (by omega) _ (pkM M Hs) (enters_of Tryz.func61 (by kernel_rfl) rfl) x4 hx4 hl4 (fun k W hk hg v hv => by
  have hbw : Below w.heap.size w W := by rw [← Hs0.out]; exact HS3.out.bel.trans (below_grown hg (fun k e => by cases e; omega) HS3.out.le)
  have b : ∀ k, k ≠ s + 1 → ∀ o, u3.heap[k]? = some o → W.heap[k]? = some o := fun k hk o ho => (hg.block k (Array.getElem?_eq_some_iff.1 ho).1 (fun e => by cases e; exact hk rfl)).trans ho
  have hpb : PkB W s (s + 2) (s + 1) (.iface 74 (.pointer (some ⟨x, 0, none⟩))) (v : Nat) := ⟨by rw [← HPv.out]; exact b _ (by omega) _ HS3.out.p, b _ (by omega) _ HS3.out.u, hv⟩
  refine pkMirrorQ_walk W s (s + 2) (s + 1) x k (M k) (v : Nat) _ _ (Hs k) rfl ?_ hpb (HP.out.mi W hbw k hk)
  unfold pkM
  by_cases e : (!Hs k || pointB (M k)) = true
  ·rw [if_pos e, if_neg (by rw [e]; simp)]
  ·rw [if_neg e, if_pos (by rw [(Bool.not_eq_true _).mp e]; rfl)]))
 clear hx4 hl4
 go_wp2_with fail
 refine HFi.out.mono ?_
 rintro e v4 ⟨g4, S4, rfl, hS, hT, hF, hJ⟩
 have HM4 := Lib.hid hS
 have HV := Lib.hid (HS3.out.fill hJ)
 have HTn := Lib.hid (And.intro hT (hF.mono hz3))
 have HU1 := Lib.hid (trie_kept HT1.out.1 HT1.out.2 hJ.1 (by omega))
 have HU2 := Lib.hid (trie_kept HT2.out.1 HT2.out.2 hJ.1 (by omega))
 have HU3 := Lib.hid (trie_kept HT3.out.1 HT3.out.2 hJ.1 (by omega))
 have hzn : s + 4 ≤ v4.heap.size := Nat.le_trans hz3 hJ.1.size
 clear hS hT hF hJ HFi HS3 HT1 HT2 HT3
 have y0 := cell_of_row v4 (s + 3) 3 _ _ (0, 0) HV.out.t
 have y1 := frozen_of_row v4 (s + 3) 3 _ _ HV.out.t
 simp at y0
 have HW := Lib.hid (HV.out.set 3 (.pointer (some ⟨g4, 0, none⟩)))
 have HTm := Lib.hid (trie_kept HTn.out.1 HTn.out.2 (grown_store v4 (s + 3) 3 (.pointer (some ⟨g4, 0, none⟩))) (by omega))
 have HX1 := Lib.hid (trie_kept HU1.out.1 HU1.out.2 (grown_store v4 (s + 3) 3 (.pointer (some ⟨g4, 0, none⟩))) (by omega))
 have HX2 := Lib.hid (trie_kept HU2.out.1 HU2.out.2 (grown_store v4 (s + 3) 3 (.pointer (some ⟨g4, 0, none⟩))) (by omega))
 have HX3 := Lib.hid (trie_kept HU3.out.1 HU3.out.2 (grown_store v4 (s + 3) 3 (.pointer (some ⟨g4, 0, none⟩))) (by omega))
 have hzm : s + 4 ≤ (v4.setCell ⟨s + 3, 3, none⟩ (.pointer (some ⟨g4, 0, none⟩))).heap.size := by simpa using hzn
 go_upto_region 10 with (fail)
 clear y0 y1 HV HTn HU1 HU2 HU3 hzn
 generalize v4.setCell ⟨s + 3, 3, none⟩ (.pointer (some ⟨g4, 0, none⟩)) = u4 at *
 have HS4 := HW
 have HT4 := HTm
 have hz4 := hzm
 clear HW HTm hz3 hzm
 have HT1 := HX1
 clear HX1
 have HT2 := HX2
 clear HX2
 have HT3 := HX3
 clear HX3
 obtain ⟨v, hv, hl⟩ := HS4.out.w
 have HLv := Lib.hid hl
 have qv := cell_of_row u4 (s + 1) 0 _ _ (0, 0) hv
 simp at qv
 have hvl := hl.le
 have HTab : Hid (HTab u4 (s + 3) C (bkW O S) (twW T) (miW M Hs) s) := Lib.hid ⟨g1, g2, g3, g4, S1, S2, S3, S4,
  ⟨⟨HS4.out.t, HM1.out.trie, HM2.out.trie, HM3.out.trie, HM4.out.trie, HM1.out.pos.1, HM2.out.pos.1, HM3.out.pos.1, HM4.out.pos.1, HT1.out.1, HT2.out.1, HT3.out.1, HT4.out.1⟩,
   fun r hr => HM1.out.look r hr, fun r hr => HM2.out.look r hr, fun r hr => HM3.out.look r hr, fun r hr => HM4.out.look r hr⟩,
  HM1.out, HM2.out, HM3.out, HM4.out, by omega, HT1.out.2.mono (by omega), HT2.out.2.mono (by omega), HT3.out.2.mono (by omega), HT4.out.2.mono (by omega)⟩
 have HB4 := Lib.hid HS4.out.bel
 have HBad : Hid (Least (packBad C O S T M Hs) 1114112 v) := Lib.hid (HLv.out.congr (fun r _ => by simp only [packBad, Bool.false_or]))
 clear hv hl HLv
 by_cases hc : v < 1114112
 ·have hci : (v : Int) < 1114112 := by omega
  have HC := Lib.hid hc
  clear hc
  go_wp2
  go_quiet (fail)
  go_wp2
  refine bodyPost_ret (v := .tuple #[.pointer none, .int .i32 (v : Nat), .int .i64 140]) (by simp [results, Tryz.results17, go_sem]) rfl ?_
  exact ⟨by rw [← Hs0.out]; exact below_drewN HB4.out _, v, HBad.out, .inl ⟨HC.out, rfl⟩⟩
 ·have HEq : Hid (v = 1114112) := Lib.hid (by omega)
  have hdc : decide ((v : Int) < 1114112) = false := decide_eq_false (by omega)
  clear hc hvl
  have hB := HBad.out
  rw [HEq.out] at hB
  have HTab2 := Lib.hid (HTab.out.congr (c' := C) (b' := bkF O S) (t' := twP T) (m' := miF M Hs) (fun r hr => ⟨rfl, (pack_eq hB r hr).1, (pack_eq hB r hr).2.1, (pack_eq hB r hr).2.2.1⟩))
  have HFit : Hid (Fit (bkF O S) (twP T) (miF M Hs)) := Lib.hid ⟨fun r hr => (pack_eq hB r hr).2.2.2.1, fun r hr => (pack_eq hB r hr).2.2.2.2.1, fun r hr => (pack_eq hB r hr).2.2.2.2.2⟩
  clear hB
  obtain ⟨q, hq⟩ := Least.exists (wrongF C (bkF O S) (twP T) (miF M Hs)) 1114112
  have HQ := Lib.hid hq; clear hq
  have HWh : Hid (Calls Tryz.prog 39 #[.pointer (some ⟨s + 3, 0, none⟩)] u4 fun e w' => e = .returned (wholeE (s + 3) q) ∧ Below u4.heap.size u4 w') := Lib.hid (by
   obtain ⟨x1, x2, x3, x4, x5, x6, x7, x8, ht, -⟩ := HTab2.out
   exact whole_walk ht HFit.out q HQ.out)
  have hsz : s ≤ u4.heap.size := HS4.out.le
  by_cases hq : q < 1114112
  ·have HE := Lib.hid (show wholeE (s + 3) q = .tuple #[.pointer none, .int .i32 (q : Nat), .int .i64 141] from if_pos hq)
   clear hq
   rw [HE.out] at HWh
   go_wp2_with fail
   refine HWh.out.mono ?_
   rintro e w18 ⟨rfl, b18⟩
   have HR := Lib.hid (show PackQ w C O S T M Hs (.returned (.tuple #[.pointer none, .int .i32 (q : Nat), .int .i64 141])) w18 from ⟨by rw [← Hs0.out]; exact HB4.out.trans (b18.mono hsz), v, HBad.out, .inr ⟨HEq.out, s + 3, q, HQ.out, by rw [HE.out], by rw [← Hs0.out]; exact HTab2.out.below b18⟩⟩)
   clear b18 HE
   go_wp2
   refine bodyPost_ret (v := .tuple #[.pointer none, .int .i32 (q : Nat), .int .i64 141]) (by simp [results, Tryz.results17, go_sem]) rfl ?_
   exact HR.out
  ·have HE := Lib.hid (show wholeE (s + 3) q = .tuple #[.pointer (some ⟨s + 3, 0, none⟩), .int .i32 0, .int .i64 0] from if_neg hq)
   clear hq
   rw [HE.out] at HWh
   go_wp2_with fail
   refine HWh.out.mono ?_
   rintro e w18 ⟨rfl, b18⟩
   have HR := Lib.hid (show PackQ w C O S T M Hs (.returned (.tuple #[.pointer (some ⟨s + 3, 0, none⟩), .int .i32 0, .int .i64 0])) w18 from ⟨by rw [← Hs0.out]; exact HB4.out.trans (b18.mono hsz), v, HBad.out, .inr ⟨HEq.out, s + 3, q, HQ.out, by rw [HE.out], by rw [← Hs0.out]; exact HTab2.out.below b18⟩⟩)
   clear b18 HE
   go_wp2
   refine bodyPost_ret (v := .tuple #[.pointer (some ⟨s + 3, 0, none⟩), .int .i32 0, .int .i64 0]) (by simp [results, Tryz.results17, go_sem]) rfl ?_
   exact HR.out
end Go.Proofs.YtbmphakfgoompaaGreat

/-
 Plain law: what tables that are not amiss say may be. The walk of 'fit'.
-/
namespace Go.Proofs.YtbmphakfgoompaaGreat
open Go.RowKit

structure Fine (c b t m : Nat → Int) : Prop where
 fit : Fit b t m
 no : ∀ r, r ≤ 1114111 → wrongF c b t m r = false
theorem Fine.odd {c b t m : Nat → Int} (h : Fine c b t m) {r : Nat} (hr : r ≤ 1114111) (hb : b r ≠ 0) : oddF c b r = false := by
 have := h.no r hr
 simp only [wrongF, Bool.or_eq_false_iff, Bool.and_eq_false_iff, bne_eq_false_iff_eq] at this
 exact this.1.1.resolve_left hb
theorem Fine.strange {c b t m : Nat → Int} (h : Fine c b t m) {r : Nat} (hr : r ≤ 1114111) (hb : t r ≠ 0) : strangeF b t r = false := by
 have := h.no r hr
 simp only [wrongF, Bool.or_eq_false_iff, Bool.and_eq_false_iff, bne_eq_false_iff_eq] at this
 exact this.1.2.resolve_left hb
theorem Fine.self {c b t m : Nat → Int} (h : Fine c b t m) {r : Nat} (hr : r ≤ 1114111) (hb : m r ≠ 0) : m r ≠ (r : Nat) + 1 := by
 have := h.no r hr
 simp only [wrongF, Bool.or_eq_false_iff, Bool.and_eq_false_iff, bne_eq_false_iff_eq] at this
 have h2 := this.2.resolve_left hb
 unfold selfF at h2
 exact beq_eq_false_iff_ne.1 h2
theorem brS_zero {v : Int} : brS v = 0 ↔ v = 0 := by
 unfold brS
 constructor
 ·intro h
  split at h
  ·cases h
  ·split at h
   ·cases h
   ·omega
 ·rintro rfl
  rfl
theorem brO_zero : brO 0 = 0 := rfl
/-- a bracket that is not amiss -/
theorem Fine.br {c b t m : Nat → Int} (h : Fine c b t m) {r : Nat} (hr : r ≤ 1114111) (hb : b r ≠ 0) :
  ∃ o : Nat, o ≤ 1114111 ∧ brO (b r) = (o : Nat) ∧ b o ≠ 0 ∧ brS (b o) ≠ brS (b r) ∧ brO (b o) = (r : Nat) ∧ c r = 14 := by
 have h1 := brO_le (h.fit.b r hr)
 obtain ⟨o, ho⟩ : ∃ o : Nat, brO (b r) = (o : Nat) := ⟨(brO (b r)).toNat, by omega⟩
 have h2 := h.odd hr hb
 unfold oddF at h2
 rw [ho, runeR_nat (by omega)] at h2
 simp only [Bool.or_eq_false_iff, beq_eq_false_iff_ne, bne_eq_false_iff_eq] at h2
 exact ⟨o, by omega, ho, fun e => h2.1.1.1 (brS_zero.2 e), h2.1.1.2, h2.1.2, h2.2⟩
/-- a twin that is not amiss -/
theorem Fine.tw {c b t m : Nat → Int} (h : Fine c b t m) {r : Nat} (hr : r ≤ 1114111) (ht : t r ≠ 0) :
  ∃ x : Nat, x ≤ 1114111 ∧ twF t r = (x : Nat) ∧ x ≠ r ∧ b r ≠ 0 ∧ brS (b x) = brS (b r) ∧ t x = 0 ∧ brO (b x) = twF t (runeR (brO (b r))) := by
 have h1 := twF_le (h.fit.t r hr).2 hr
 obtain ⟨x, hx⟩ : ∃ x : Nat, twF t r = (x : Nat) := ⟨(twF t r).toNat, by omega⟩
 have h2 := h.strange hr ht
 unfold strangeF at h2
 rw [hx, runeR_nat (by omega)] at h2
 simp only [Bool.or_eq_false_iff, beq_eq_false_iff_ne, bne_eq_false_iff_eq] at h2
 exact ⟨x, by omega, hx, fun e => h2.1.1.1.2 (by rw [e]), fun e => h2.1.1.1.1 (brS_zero.2 e), h2.1.1.2, h2.1.2, h2.2⟩
theorem twF_zero {t : Nat → Int} {r : Nat} (h : t r = 0) : twF t r = (r : Nat) := by unfold twF; rw [if_neg (by omega)]
/-- the partner of a bracket without a twin has none -/
theorem Fine.lone {c b t m : Nat → Int} (h : Fine c b t m) {r o : Nat} (hr : r ≤ 1114111) (hb : b r ≠ 0) (ho : o ≤ 1114111) (hbo : brO (b r) = (o : Nat)) (ht : t r = 0) : t o = 0 := by
 obtain ⟨o', h1, h2, h3, h4, h5, h6⟩ := h.br hr hb
 obtain rfl : o' = o := by have := h2.symm.trans hbo; omega
 refine Classical.byContradiction fun hto => ?_
 obtain ⟨x, k1, k2, k3, k4, k5, k6, k7⟩ := h.tw ho hto
 rw [h5, runeR_nat hr, twF_zero ht] at k7
 have hbx : b x ≠ 0 := fun e => by rw [brS_zero.2 e] at k5; exact k4 (brS_zero.1 k5.symm)
 obtain ⟨y, j1, j2, j3, j4, j5, j6⟩ := h.br k1 hbx
 obtain rfl : y = r := by have := j2.symm.trans k7; omega
 rw [hbo] at j5
 exact k3 (by omega)
/-- what a statement asks of a number: all is well -/
structure MayR (c b t m : Nat → Int) (R : Nat) : Prop where
 none : b R = 0 → brO (b R) = 0 ∧ twF t R = (R : Nat)
 some : b R ≠ 0 → ∃ o x : Nat, o ≤ 1114111 ∧ x ≤ 1114111 ∧ brO (b R) = (o : Nat) ∧ twF t R = (x : Nat) ∧ brO (b o) = (R : Nat) ∧ brS (b o) ≠ 0 ∧ brS (b o) ≠ brS (b R) ∧ c R = 14 ∧ twF t x = (x : Nat) ∧ brS (b x) = brS (b R) ∧ brO (b x) = twF t o
 mir : 0 < m R → m R - 1 ≠ (R : Nat)
theorem Fine.may {c b t m : Nat → Int} (h : Fine c b t m) {R : Nat} (hr : R ≤ 1114111) : MayR c b t m R := by
 refine ⟨fun hb => ⟨by rw [hb]; rfl, ?_⟩, fun hb => ?_, fun hm => by have := h.self hr (by omega); omega⟩
 ·by_cases ht : t R = 0
  ·exact twF_zero ht
  ·obtain ⟨x, -, -, -, k4, -⟩ := h.tw hr ht
   exact absurd hb k4
 ·obtain ⟨o, h1, h2, h3, h4, h5, h6⟩ := h.br hr hb
  by_cases ht : t R = 0
  ·have hto := h.lone hr hb h1 h2 ht
   exact ⟨o, R, h1, hr, h2, twF_zero ht, h5, fun e => h3 (brS_zero.1 e), h4, h6, twF_zero ht, rfl, by rw [h2, twF_zero hto]⟩
  ·obtain ⟨x, k1, k2, k3, k4, k5, k6, k7⟩ := h.tw hr ht
   rw [h2, runeR_nat h1] at k7
   exact ⟨o, x, h1, k1, h2, k2, h5, fun e => h3 (brS_zero.1 e), h4, h6, twF_zero k6, k5, k7⟩

theorem fit_walk (w : World) (fb : Bool) (rest : Int) (a1 : Option Addr) (n1 c1 : Nat) (a2 : Option Addr) (n2 c2 : Nat) (a3 : Option Addr) (n3 c3 : Nat) (a4 : Option Addr) (n4 c4 : Nat) (hfb : fb = decide (n1 ≤ 20 ∧ n2 ≤ 20 ∧ n3 ≤ 20 ∧ n4 ≤ 20)) :
  Calls Tryz.prog 6 #[.agg #[.int .u8 rest, .slice a1 n1 c1, .slice a2 n2 c2, .slice a3 n3 c3, .slice a4 n4 c4]] w fun e w' => e = .returned (.bool fb) ∧ Below w.heap.size w w' := by
 have HF := Lib.hid hfb; clear hfb
 have hA := heap_alloc_new w (.cells #[.int .u8 rest, .slice a1 n1 c1, .slice a2 n2 c2, .slice a3 n3 c3, .slice a4 n4 c4] 27)
 have HB := Lib.hid ((Below.refl _ w).alloc (Nat.le_refl _) (.cells #[.int .u8 rest, .slice a1 n1 c1, .slice a2 n2 c2, .slice a3 n3 c3, .slice a4 n4 c4] 27))
 have HA := Lib.hid hA; clear hA
 go_enter Tryz.func6, Tryz.ntmps6
 go_upto_region 1 with (fail)
 obtain ⟨bx, hbx⟩ : ∃ bx, bx = w.heap.size := ⟨_, rfl⟩
 rw [← hbx] at HA ⊢
 generalize w.alloc (.cells #[.int .u8 rest, .slice a1 n1 c1, .slice a2 n2 c2, .slice a3 n3 c3, .slice a4 n4 c4] 27) = w1 at *
 have q1 := cell_of_row w1 bx 1 _ _ (0, 0) HA.out
 have q2 := cell_of_row w1 bx 2 _ _ (0, 0) HA.out
 have q3 := cell_of_row w1 bx 3 _ _ (0, 0) HA.out
 have q4 := cell_of_row w1 bx 4 _ _ (0, 0) HA.out
 simp at q1 q2 q3 q4
 clear hbx
 by_cases h1 : (n1 : Int) ≤ 20
 ·by_cases h2 : (n2 : Int) ≤ 20
  ·by_cases h3 : (n3 : Int) ≤ 20
   ·by_cases h4 : (n4 : Int) ≤ 20
    ·have HX := Lib.hid (show fb = true from HF.out.trans (decide_eq_true (by omega)))
     go_wp2
     go_ret
     exact ⟨ret_eq (congrArg Value.bool HX.out.symm), HB.out⟩
    ·have HX := Lib.hid (show fb = false from HF.out.trans (decide_eq_false (by omega)))
     go_wp2
     go_ret
     exact ⟨ret_eq (congrArg Value.bool HX.out.symm), HB.out⟩
   ·have HX := Lib.hid (show fb = false from HF.out.trans (decide_eq_false (by omega)))
    go_wp2
    go_ret
    exact ⟨ret_eq (congrArg Value.bool HX.out.symm), HB.out⟩
  ·have HX := Lib.hid (show fb = false from HF.out.trans (decide_eq_false (by omega)))
   go_wp2
   go_ret
   exact ⟨ret_eq (congrArg Value.bool HX.out.symm), HB.out⟩
 ·have HX := Lib.hid (show fb = false from HF.out.trans (decide_eq_false (by omega)))
  go_wp2
  go_ret
  exact ⟨ret_eq (congrArg Value.bool HX.out.symm), HB.out⟩
theorem quick_props {w : World} {q pm gC gR N : Nat} {D : MadeD} (h : QuickAt w q pm gC gR N D) : PropsQ w q D.cls D.oth D.side D.twin D.mir D.has where
 cls := fun W hW r hr => by have := qClass_walk W q pm gC gR N D (h.below hW) (r : Nat); rwa [runeR_nat (by omega)] at this
 br := fun W hW r hr => by have := qBracket_walk W q pm gC gR N D (h.below hW) (r : Nat); rwa [runeR_nat (by omega)] at this
 tw := fun W hW r hr => by have := qTwin_walk W q pm gC gR N D (h.below hW) (r : Nat); rwa [runeR_nat (by omega)] at this
 mi := fun W hW r hr => by have := qMirror_walk W q pm gC gR N D (h.below hW) (r : Nat); rwa [runeR_nat (by omega)] at this
end Go.Proofs.YtbmphakfgoompaaGreat
