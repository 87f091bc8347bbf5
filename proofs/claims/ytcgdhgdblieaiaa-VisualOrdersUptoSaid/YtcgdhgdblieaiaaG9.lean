/-
  Runs compared; levels that may not be; rows overwritten.
-/
import Derived.Test.YtcgdhgdblieaiaaG4
import Derived.Test.YtcgdhgdblieaiaaM1
import Derived.Laws.StructEq
set_option linter.unusedVariables false
namespace Go.Proofs.Ytcgdhgdblieaiaa
open Go.RowKit

theorem eqg_run (xs ys : Array Value) (x y : Operand) (w : World) : (eqGuard .neq 68 x y (.agg xs) (.agg ys)).run Try.prog w = .ok () w := run_eqGuard_agg w .neq 68 x y xs ys (by kernel_rfl)
theorem eqF_same {P : Program} (w : World) (d : Nat) (xs : Array Value) : ∀ fs : List Field, (∀ f ∈ fs, ∃ v, (part f.type xs f.offset).run P w = .ok v w ∧ (Op.equalIn d f.type v v).run P w = .ok true w) → (Op.eqFields d xs xs fs).run P w = .ok true w
  | [], _ => by simp [Op.eqFields, Sem.run_pure]
  | f :: fs, h => by
    have ih := eqF_same w d xs fs (fun g hg => h g (by simp [hg]))
    obtain ⟨v, h1, h2⟩ := h f (by simp)
    unfold Op.eqFields
    split
    · simp [Sem.run_bind, h1, h2, ih, Result.andThen]
    · exact ih
theorem part_plain {P : Program} (w : World) (t : TypeId) (xs : Array Value) (i : Nat) (v : Value) (k : IntKind) (hu : P.underlying t = some (.int k)) (hx : xs[i]? = some v) : (part t xs i).run P w = .ok v w := by
  simp [part, isAgg, run_underlying hu, hx]
theorem run_fields : (Try.prog.fieldsOf 68).toList.map (fun f => (f.type, f.offset)) = [(3, 0), (3, 1), (33, 2)] := by kernel_rfl
theorem neq_run (f t l : Int) (w : World) : (binOp .neq 68 (.agg #[.int .i64 f, .int .i64 t, .int .i8 l]) (.agg #[.int .i64 f, .int .i64 t, .int .i8 l])).run Try.prog w = .ok (.bool false) w := by
  rw [run_neq_struct, run_equalIn_agg w 9999 68 _ _ (by kernel_rfl) (by kernel_rfl)]
  rw [eqF_same w 9999 _ _ ?_]
  · rfl
  · intro g hg
    have hm : (g.type, g.offset) ∈ (Try.prog.fieldsOf 68).toList.map (fun f => (f.type, f.offset)) := List.mem_map.2 ⟨g, hg, rfl⟩
    rw [run_fields] at hm
    simp only [List.mem_cons, Prod.mk.injEq, List.not_mem_nil, or_false] at hm
    rcases hm with ⟨e1, e2⟩ | ⟨e1, e2⟩ | ⟨e1, e2⟩
    · rw [e1, e2]; exact ⟨.int .i64 f, part_plain w _ _ _ _ .i64 Try.underlying3 rfl, (run_equalIn_int w 9998 _ .i64 .i64 f f Try.underlying3).trans (by simp)⟩
    · rw [e1, e2]; exact ⟨.int .i64 t, part_plain w _ _ _ _ .i64 Try.underlying3 rfl, (run_equalIn_int w 9998 _ .i64 .i64 t t Try.underlying3).trans (by simp)⟩
    · rw [e1, e2]; exact ⟨.int .i8 l, part_plain w _ _ _ _ .i8 Try.underlying33 rfl, (run_equalIn_int w 9998 _ .i8 .i8 l l Try.underlying33).trans (by simp)⟩

/-- 'visual.Order' of levels that may not be -/
theorem Order_bad (a : Option Addr) (n cap : Nat) (zs : List Int) (w : World) (hn : zs.length = n) (hlt : n ≤ 1048576) (hok : okL zs = false) (hc : Ints .i8 w a zs) :
    Calls Try.prog 15 #[.slice a n cap] w fun e w' => e = .returned (.tuple #[.slice none 0 0, .int .i64 2]) ∧ w = w' := by
  have HN := Lib.hid hn; clear hn
  have hm : mayN zs = 2 := by unfold mayN; rw [hok]; rfl
  have HM := Lib.hid hm; clear hm hok
  go_enter Try.func15, Try.ntmps15
  go_wp2_with fail
  refine (vmay_walk a n cap zs _ HN.out hlt hc).mono ?_
  rintro e w' ⟨rfl, rfl⟩
  rw [HM.out]
  go_wp2
  go_ret2
  exact ⟨rfl, rfl⟩

/-! ### rows of any kind: what a call wrote into one of them, the others do not see -/
theorem rows_apart {B1 B2 s1 s2 : Nat} {E1 E2 : TypeId} {w1 w2 : World} {a1 a2 : Option Addr} {n1 c1 n2 c2 : Nat} {xs ys : List Value} (h1 : w1.ownsRow B1 E1 s1 (.slice a1 n1 c1) n1 xs) (h2 : w2.ownsRow B2 E2 s2 (.slice a2 n2 c2) n2 ys) (hs : w1.heap.size ≤ B2 ∨ w2.heap.size ≤ B1) :
    (Value.slice a2 n2 c2).ownBlock = none ∨ (Value.slice a2 n2 c2).ownBlock ≠ (Value.slice a1 n1 c1).ownBlock := by
  cases h : (Value.slice a2 n2 c2).ownBlock with
  | none => exact .inl rfl
  | some k =>
    refine .inr (fun e => ?_)
    have e1 := World.ownsRow.lt h2 k h
    have e2 := World.ownsRow.lt h1 k e.symm
    omega
def OvI (B : Nat) (a : Option Addr) (n c : Nat) (w0 : World) (v : Value) (wr : World) : Prop := ∃ (k : Nat) (ys : List Int), k ≤ n ∧ v = .int .i64 k ∧ Own B 3 wr a n c (ivs .i64 ys) ∧ w0.grownBy wr (Value.slice a n c).ownBlock
def OvS (B : Nat) (a : Option Addr) (n c : Nat) (rs : List RunD) (w0 : World) (v : Value) (wr : World) : Prop := ∃ (k : Nat) (xs : List Value), k ≤ n ∧ v = .int .i64 k ∧ wr.ownsRow B 68 3 (.slice a n c) n xs ∧ xs.drop (k * 3) = (flatR rs).drop (k * 3) ∧ w0.grownBy wr (Value.slice a n c).ownBlock
theorem drop_get {xs ys : List Value} {m : Nat} (h : xs.drop m = ys.drop m) (i : Nat) (hi : m ≤ i) : xs[i]? = ys[i]? := by
  have := congrArg (fun l => l[i - m]?) h
  simp only [List.getElem?_drop] at this
  rwa [show m + (i - m) = i by omega] at this
theorem drop_after {xs ys : List Value} {m k : Nat} (h : xs.drop m = ys.drop m) (hk : m ≤ k) : xs.drop k = ys.drop k := by
  have := congrArg (List.drop (k - m)) h
  simp only [List.drop_drop] at this
  rwa [show m + (k - m) = k by omega] at this
theorem drop_set3 (xs : List Value) (k : Nat) (v0 v1 v2 : Value) : ((((xs.set (k * 3) v0).set (k * 3 + 1) v1).set (k * 3 + 2) v2)).drop ((k + 1) * 3) = xs.drop ((k + 1) * 3) := by
  apply List.ext_getElem?
  intro i
  simp only [List.getElem?_drop, List.getElem?_set]
  rw [if_neg (by omega), if_neg (by omega), if_neg (by omega)]
theorem stored3 {B : Nat} {E : TypeId} {w : World} {g n c : Nat} {xs : List Value} (h : w.ownsRow B E 3 (.slice (some ⟨g, 0, none⟩) n c) n xs) (k : Nat) (v0 v1 v2 : Value) :
    (((w.setCell ⟨g, k * 3, none⟩ v0).setCell ⟨g, k * 3 + 1, none⟩ v1).setCell ⟨g, k * 3 + 2, none⟩ v2).ownsRow B E 3 (.slice (some ⟨g, 0, none⟩) n c) n ((((xs.set (k * 3) v0).set (k * 3 + 1) v1).set (k * 3 + 2) v2)) :=
  (World.ownsRow.stored (World.ownsRow.stored (World.ownsRow.stored h (k * 3) v0).1 (k * 3 + 1) v1).1 (k * 3 + 2) v2).1
theorem grown3 (w : World) (g k : Nat) (v0 v1 v2 : Value) : w.grownBy (((w.setCell ⟨g, k * 3, none⟩ v0).setCell ⟨g, k * 3 + 1, none⟩ v1).setCell ⟨g, k * 3 + 2, none⟩ v2) (some g) := grown_storeN g [v0, v1, v2] (k * 3) w
theorem grown_drewN' (w : World) (n : Nat) (row : Option Nat) : w.grownBy (w.drewN n) row := ⟨rfl, rfl, rfl, Nat.le_refl _, fun _ _ _ => rfl⟩
theorem grown_tr {w1 w2 w3 : World} {row : Option Nat} (h1 : w1.grownBy w2 row) (h2 : w2.grownBy w3 row) : w1.grownBy w3 row :=
  ⟨h2.os.trans h1.os, h2.tape.trans h1.tape, h2.output.trans h1.output, Nat.le_trans h1.size h2.size, fun k hk hne => by rw [h2.block k (Nat.lt_of_lt_of_le hk h1.size) hne, h1.block k hk hne]⟩
theorem Ints.leftG {k : IntKind} {w : World} {a : Option Addr} {xs ys : List Int} (h : Ints k w a (xs ++ ys)) : Ints k w a xs := by
  intro i hi
  obtain ⟨b, o, e, hc⟩ := h i (by rw [List.length_append]; omega)
  exact ⟨b, o, e, by rw [hc, List.getElem_append_left hi]⟩
theorem sameInts_self (a a2 : Option Addr) (n cap n2 cap2 : Nat) (xs : List Int) (w : World) (hn : xs.length = n) (hn2 : xs.length = n2) (hm : n ≤ 1048576) (hc : Ints .i64 w a xs) (hc2 : Ints .i64 w a2 xs) :
    Calls Try.prog 17 #[.slice a n cap, .slice a2 n2 cap2] w fun e w' => e = .returned (.bool true) ∧ Below w.heap.size w w' := by
  have h := sameInts_walk a a2 n cap n2 cap2 xs xs w hn hn2 hm hc hc2
  rwa [show decide (xs = xs) = true from decide_eq_true rfl] at h
end Go.Proofs.Ytcgdhgdblieaiaa
