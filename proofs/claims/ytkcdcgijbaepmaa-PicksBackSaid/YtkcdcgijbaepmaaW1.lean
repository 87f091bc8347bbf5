/-
  Walks: the comparison, the test for an empty piece, a clone.
-/
import Derived.Test.YtkcdcgijbaepmaaK1
import Derived.Test.YtkcdcgijbaepmaaGS
import Derived.Sort.OwnSortedInts
import Derived.Lib.SliceRun
set_option linter.unusedVariables false
namespace Go.Proofs.Ytkcdcgijbaepmaa
open Go.RowKit
open Go.Sort (grow alloc_eq_grow grow_grow)

def cmpI (x y : Int) : Int := if x < y then -1 else if y < x then 1 else 0
theorem isNaN_walk (x : Int) (w : World) : Calls Try.prog 86 #[.int .i64 x] w fun e w' => e = .returned (.bool false) ∧ w = w' := by
  have h : (x != x) = false := by simp
  go_enter Try.func86, Try.ntmps86
  go_wp2
  go_ret
  exact ⟨rfl, rfl⟩
theorem Compare_walk (x y : Int) (w : World) : Calls Try.prog 69 #[.int .i64 x, .int .i64 y] w fun e w' => e = .returned (.int .i64 (cmpI x y)) ∧ w = w' := by
  by_cases h1 : x < y
  · have HR := Lib.hid (show cmpI x y = -1 from if_pos h1)
    rw [HR.out]
    go_enter Try.func69, Try.ntmps69
    go_wp2_with fail
    refine (isNaN_walk x w).mono ?_
    rintro e w' ⟨rfl, rfl⟩
    go_wp2_with fail
    refine (isNaN_walk y w).mono ?_
    rintro e w' ⟨rfl, rfl⟩
    go_wp2
    go_ret
    exact ⟨rfl, rfl⟩
  · by_cases h2 : y < x
    · have HR := Lib.hid (show cmpI x y = 1 by unfold cmpI; rw [if_neg h1, if_pos h2])
      rw [HR.out]
      go_enter Try.func69, Try.ntmps69
      go_wp2_with fail
      refine (isNaN_walk x w).mono ?_
      rintro e w' ⟨rfl, rfl⟩
      go_wp2_with fail
      refine (isNaN_walk y w).mono ?_
      rintro e w' ⟨rfl, rfl⟩
      go_wp2
      go_ret
      exact ⟨rfl, rfl⟩
    · have HR := Lib.hid (show cmpI x y = 0 by unfold cmpI; rw [if_neg h1, if_neg h2])
      rw [HR.out]
      go_enter Try.func69, Try.ntmps69
      go_wp2_with fail
      refine (isNaN_walk x w).mono ?_
      rintro e w' ⟨rfl, rfl⟩
      go_wp2_with fail
      refine (isNaN_walk y w).mono ?_
      rintro e w' ⟨rfl, rfl⟩
      go_wp2
      go_ret
      exact ⟨rfl, rfl⟩
theorem lower_walk (x y : PD) (W : World) : Calls Try.prog 52 #[.agg #[.int .i64 x.f, .int .i64 x.t], .agg #[.int .i64 y.f, .int .i64 y.t]] W fun e w' => e = .returned (.int .i64 (cmpI x.f y.f)) ∧ ∃ q os', w' = grow (W.drewN q) os' := by
  go_enter Try.func52, Try.ntmps52
  go_wp2_with fail
  refine (Compare_walk x.f y.f _).mono ?_
  rintro e w' ⟨rfl, rfl⟩
  go_wp2
  go_ret
  exact ⟨rfl, 0, _, by rw [alloc_eq_grow, alloc_eq_grow, grow_grow]; rfl⟩
theorem gone_walk (x : PD) (W : World) : Calls Try.prog 50 #[.agg #[.int .i64 x.f, .int .i64 x.t]] W fun e w' => e = .returned (.bool (decide (x.t ≤ x.f))) ∧ Below W.heap.size W w' := by
  by_cases h : x.t ≤ x.f
  · have HR := Lib.hid (decide_eq_true h)
    rw [HR.out]
    go_enter Try.func50, Try.ntmps50
    go_wp2
    go_ret
    exact ⟨rfl, by go_grown⟩
  · have HR := Lib.hid (decide_eq_false h)
    rw [HR.out]
    go_enter Try.func50, Try.ntmps50
    go_wp2
    go_ret
    exact ⟨rfl, by go_grown⟩
theorem Clone_walk (a : Option Addr) (n c : Nat) (ps : List PD) (w : World) (hn : ps.length = n) (hlt : n ≤ 1048576) (hc : PiecesAt w a ps) (hnone : a = none → c = 0) :
    Calls Try.prog 49 #[.slice a n c] w fun e w' => ∃ a' c', e = .returned (.slice a' n c') ∧ OwnP w.heap.size w' a' n c' ps ∧ Below w.heap.size w w' := by
  cases a with
  | none =>
    have h0 : ps = [] := by
      cases ps with
      | nil => rfl
      | cons p t => obtain ⟨b, o, e, _⟩ := hc 0 (by simp); simp at e
    subst h0
    obtain rfl : 0 = n := hn
    obtain rfl := hnone rfl
    have hnil : ∀ w : World, (binOp .eql 22 (.slice none 0 0) (.slice none 0 0)).run Try.prog w = .ok (.bool true) w := fun w => Lib.run_eql_slice_nil w _ _ _ _ _ _ _ Try.underlying22
    go_enter Try.func49, Try.ntmps49
    go_wp2
    go_ret
    exact ⟨_, _, rfl, OwnP.nil _ _, Below.refl _ _⟩
  | some ad =>
    have HC := Lib.hid hc; clear hc
    have HN := Lib.hid hn; clear hn
    clear hnone
    have hnil : ∀ w : World, (binOp .eql 22 (.slice (some ad) n c) (.slice none 0 0)).run Try.prog w = .ok (.bool false) w := fun w => Lib.run_eql_slice_nil w _ _ _ _ _ _ _ Try.underlying22
    have HO : Hid (OwnP w.heap.size (w.alloc (.cells #[] 45)) (some ⟨w.heap.size, 0, none⟩) 0 0 []) := Lib.hid ⟨by simp [flatP], .inr ⟨w.heap.size, 0, #[], rfl, Nat.le_refl _, heap_alloc_new w _, Nat.le_refl _, Nat.zero_le _, rfl, rfl⟩⟩
    have HV := Lib.hid (HC.out.below ((Below.refl _ w).alloc (Nat.le_refl _) (.cells #[] 45)) (Nat.le_refl _))
    go_enter Try.func49, Try.ntmps49
    go_wp2_with (at_builtin; refine wpList_appSN Try.elemPiece rfl (.tmp 5) (.tmp 6) rfl HO.out (by simp) (by rw [flatP_length, HN.out]) HV.out.src (by simp) (flatP_one _) (by omega) (by unfold maxLen; omega) rfl rfl ?_)
    intro a2 cap2 w2 hown2 hg hb
    have HB := Lib.hid (((Below.refl _ w).alloc (Nat.le_refl _) (.cells #[] 45)).trans (HO.out.app hg (by simp)))
    clear hg hb
    have HO2 : Hid (OwnP w.heap.size w2 a2 n cap2 ps) := by
      refine Lib.hid ?_
      unfold OwnP
      simpa [flatP] using hown2
    clear hown2
    go_wp2
    go_ret
    exact ⟨_, _, rfl, HO2.out, HB.out⟩

/-! ### a list cleared -/
theorem zeroCells_length (z : Array Value) (n : Nat) : (Builtin.zeroCells z n).toList.length = n * z.size := by simp [Builtin.zeroCells]
theorem run_clearN {P : Program} (w : World) (t e ty : TypeId) (z : Value) (ht : P.underlying t = some (.slice e)) (hv : ∀ w, (zeroValue e).run P w = .ok z w) (h1 : ∀ n, ∀ v ∈ (Builtin.zeroCells z.cells n).toList, v.oneCell' = true) (b o n c : Nat)
    (hc : ∀ j, j < n * z.cells.size → (w.cell? ⟨b, o + j, none⟩).isSome = true) (hf : ∀ j, j < n * z.cells.size → w.frozen? ⟨b, o + j, none⟩ = false) :
    (Builtin.clear_ #[t] ty #[.slice (some ⟨b, o, none⟩) n c]).run P w = .ok (.tuple #[]) (w.setCells b o (Builtin.zeroCells z.cells n).toList) := by
  cases n with
  | zero =>
    have e0 : (Builtin.zeroCells z.cells 0).toList = [] := List.length_eq_zero_iff.1 (by rw [zeroCells_length]; simp)
    rw [e0]
    simp [Builtin.clear_, run_underlying ht, World.setCells]
  | succ m =>
    have hst := run_storeCells_cells (P := P) b o (Builtin.zeroCells z.cells (m + 1)).toList 0 w (by rw [zeroCells_length]; simpa using hc) (by rw [zeroCells_length]; simpa using hf) (h1 _)
    simp only [Nat.add_zero] at hst
    simp [Builtin.clear_, run_underlying ht, hv, hst]
theorem wpList_clear {P : Program} {t e : TypeId} {z : Value} {w : World} {ops : Array Oper} {rest : List Oper} {o : Oper} {act : Act} {Q : Exit → Act → World → Prop} (hgd : o.guard = none) (x : Operand)
    (ho : o.op = .call { callee := .builtin .clear, args := #[x], argTypes := #[t] }) (ht : P.underlying t = some (.slice e)) (hv : ∀ w, (zeroValue e).run P w = .ok z w) (h1 : ∀ n, ∀ v ∈ (Builtin.zeroCells z.cells n).toList, v.oneCell' = true) (b off n c : Nat)
    (hc : ∀ j, j < n * z.cells.size → (w.cell? ⟨b, off + j, none⟩).isSome = true) (hf : ∀ j, j < n * z.cells.size → w.frozen? ⟨b, off + j, none⟩ = false)
    (hx : act.eval x = .slice (some ⟨b, off, none⟩) n c)
    (h : wpList P ops Q rest (act.put o.dst (.tuple #[])) (w.setCells b off (Builtin.zeroCells z.cells n).toList)) :
    wpList P ops Q (o :: rest) act w := by
  refine wpList_plain hgd fun K hK => ?_
  have hr := run_clearN (P := P) w t e o.type z ht hv h1 b off n c hc hf
  unfold Oper.wp execOp
  simp only [ho, resolve, invoke, builtin, Sem.run_bind, Sem.run_pure, Result.andThen_ok, List.map_toArray, List.map_cons, List.map_nil, hx, hr]
  exact hK _ _ h
end Go.Proofs.Ytkcdcgijbaepmaa
