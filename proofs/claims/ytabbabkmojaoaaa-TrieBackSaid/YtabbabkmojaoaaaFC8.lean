/-
  The closures of 'From' (uint8).
-/
import Derived.Test.YtabbabkmojaoaaaFB
import Derived.Test.YtabbabkmojaoaaaSP0
import Derived.Test.YtabbabkmojaoaaaTN
import Derived.Test.YtabbabkmojaoaaaTH8
set_option linter.unusedVariables false
set_option linter.unusedSimpArgs false
namespace Go.Proofs.Ytabbabkmojaoaaa
open Go.RowKit

theorem eqg_lowE (xs ys : Array Value) (x y : Operand) (w : World) : (eqGuard .eql 119 x y (.agg xs) (.agg ys)).run Try.prog w = .ok () w := run_eqGuard_agg w .eql 119 x y xs ys (by kernel_rfl)
theorem eql_agg {P : Program} (w : World) (t : TypeId) (xs ys : Array Value) (b : Bool) (h : (Op.equal t (.agg xs) (.agg ys)).run P w = .ok b w) : (binOp .eql t (.agg xs) (.agg ys)).run P w = .ok (.bool b) w := by
  simp [binOp, h]
theorem eql_low (l : List Int) (hl : l.length = 64) (w : World) : (binOp .eql 119 (.agg (blkC val8 l).toArray) (.agg (blkC val8 l).toArray)).run Try.prog w = .ok (.bool true) w := by
  have := Try.k8.equal w l l hl hl
  rw [eqL_low l l rfl] at this
  simpa using eql_agg w _ _ _ _ this
/-- what 'From' has laid: the trie, its own variable, the closure's -/
structure FrAt (w : World) (g bt : Nat) (T : TrieD Int) : Prop where
  tr : TrieAt val8 114 64 w g T
  tp : T.top.length = 272
  ml : ∀ m ∈ T.mid, m.length = 64
  ll : ∀ l ∈ T.low, l.length = 64
  mn : T.mid.length ≤ 1048576
  ln : T.low.length ≤ 1048576
  ct : w.cell? ⟨bt, 0, none⟩ = some (.pointer (some ⟨g, 0, none⟩))
theorem FrAt.below {w w' : World} {g bt : Nat} {T : TrieD Int} (h : FrAt w g bt T) (hb : Below w.heap.size w w') : FrAt w' g bt T :=
  ⟨h.tr.below hb (Nat.le_refl _), h.tp, h.ml, h.ll, h.mn, h.ln, (hb.cell (p := ⟨bt, 0, none⟩) (World.block_lt_of_cell? w _ h.ct)).trans h.ct⟩
theorem FrAt.low {w : World} {g bt : Nat} {T : TrieD Int} (h : FrAt w g bt T) : ∃ a c, w.cell? ⟨g, 273, none⟩ = some (.slice a T.low.length c) ∧ BlocksAt val8 64 w a T.low := by
  obtain ⟨am, cm, al, cl, h1, h2, h3⟩ := h.tr
  refine ⟨al, cl, ?_, h3⟩
  rw [cell_of_row w g 273 _ _ (0, 0) h1]
  simp [trieC, h.tp]
theorem FrAt.mid {w : World} {g bt : Nat} {T : TrieD Int} (h : FrAt w g bt T) : ∃ a c, w.cell? ⟨g, 272, none⟩ = some (.slice a T.mid.length c) ∧ BlocksAt num16 64 w a T.mid := by
  obtain ⟨am, cm, al, cl, h1, h2, h3⟩ := h.tr
  refine ⟨am, cm, ?_, h2⟩
  rw [cell_of_row w g 272 _ _ (0, 0) h1]
  simp [trieC, h.tp]

set_option maxRecDepth 100000 in
theorem same1_walk (w : World) (g bt : Nat) (T : TrieD Int) (h : FrAt w g bt T) (no : Nat) (hno : no < T.low.length) :
    Calls Try.prog 92 #[.int .u16 (no : Nat), .pointer (some ⟨bt, 0, none⟩)] w fun e w' => e = .returned (.bool true) ∧ Below w.heap.size w w' := by
  obtain ⟨a, c, c1, hbl⟩ := h.low
  obtain ⟨b, o, rfl⟩ := hbl.some (by omega)
  have HR := Lib.hid (hbl.get no hno)
  have hl := h.ll _ (List.getElem_mem hno)
  have c0 := h.ct
  have hln := h.ln
  clear h hbl
  generalize T.low[no] = l at *
  generalize T.low.length = nl at *
  have hs : (blkC val8 l).length = 64 := by rw [blkC_length (sz := 1) (fun _ => rfl), hl]
  have g1 : (0 : Int) ≤ (no : Int) := by omega
  have g2 : (no : Int) < (nl : Int) := by omega
  go_enter Try.func92, Try.ntmps92
  go_upto_region 1 with (fail)
  refine wp_region_still_lit (by kernel_rfl) (by kernel_rfl) ?_
  iterate 6 still_step
  refine wpStill_load rfl 119 (.tmp 9) rfl b (o + no * 64) rfl (blkC val8 l) _ (show w.drew.rangeAt b (o + no * 64) (blkC val8 l) from HR.out) Try.underlying119 rfl (by rw [hs]; kernel_rfl) ?_
  iterate 6 still_step
  refine wpStill_load rfl 119 (.tmp 16) rfl b (o + no * 64) rfl (blkC val8 l) _ (show w.drew.rangeAt b (o + no * 64) (blkC val8 l) from HR.out) Try.underlying119 rfl (by rw [hs]; kernel_rfl) ?_
  refine wpStill_bin rfl .eql 119 (.tmp 10) (.tmp 17) _ rfl (.agg (blkC val8 l).toArray) (.agg (blkC val8 l).toArray) _ rfl rfl (eqg_lowE _ _ _ _ _) (eql_low l hl _) ?_
  still_step
  refine wpStill_nil ?_
  go_wp2
  go_ret
  exact ⟨rfl, (Below.refl _ w).drew⟩
set_option maxRecDepth 100000 in
theorem same3_walk (w : World) (g bt b5 : Nat) (T : TrieD Int) (h : FrAt w g bt T) (no : Nat) (hno : no < T.low.length) (h5 : w.cell? ⟨b5, 0, none⟩ = some (.func (.func 92) #[] #[.pointer (some ⟨bt, 0, none⟩)])) :
    Calls Try.prog 95 #[.int .u16 (no : Nat), .pointer (some ⟨b5, 0, none⟩)] w fun e w' => e = .returned (.bool false) ∧ Below w.heap.size w w' := by
  have HS := Lib.hid (same1_walk w g bt T h no hno)
  clear h
  go_enter Try.func95, Try.ntmps95
  go_wp2_with fail
  refine HS.out.mono ?_
  rintro e w1 ⟨rfl, hb⟩
  have HB := Lib.hid hb; clear hb
  go_wp2
  go_ret
  exact ⟨rfl, HB.out⟩
set_option maxRecDepth 100000 in
theorem same2_walk (w : World) (g bt b5 : Nat) (T : TrieD Int) (h : FrAt w g bt T) (no : Nat) (hno : no < T.mid.length) (hmid : ∀ m ∈ T.mid, ∀ k ∈ m, k < T.low.length) (h5 : w.cell? ⟨b5, 0, none⟩ = some (.func (.func 92) #[] #[.pointer (some ⟨bt, 0, none⟩)])) :
    Calls Try.prog 93 #[.int .u16 (no : Nat), .pointer (some ⟨bt, 0, none⟩), .pointer (some ⟨b5, 0, none⟩)] w fun e w' => e = .returned (.bool true) ∧ Below w.heap.size w w' := by
  obtain ⟨a, c, c1, hbl⟩ := h.mid
  obtain ⟨b, o, rfl⟩ := hbl.some (by omega)
  have hl := h.ml _ (List.getElem_mem hno)
  have HNA : Hid (NumsAt w (some ⟨b, o + no * 64, none⟩) T.mid[no]) := Lib.hid (fun i hi => ⟨b, o + no * 64, rfl, hbl.cell num16_cells no hno i hi⟩)
  have HCf := Lib.hid (ContainsFunc_none w b (o + no * 64) 64 64 T.mid[no] 95 #[.pointer (some ⟨b5, 0, none⟩)] hl (by omega) HNA.out (enters_of Try.func95 (by kernel_rfl) rfl)
    (fun x W hx hb => same3_walk W g bt b5 T (h.below hb) x (hmid _ (List.getElem_mem hno) x hx) ((hb.cell (p := ⟨b5, 0, none⟩) (World.block_lt_of_cell? w _ h5)).trans h5)))
  have c0 := h.ct
  have hmn := h.mn
  clear h hbl hl hmid HNA
  generalize T.mid.length = nm at *
  have g1 : (0 : Int) ≤ (no : Int) := by omega
  have g2 : (no : Int) < (nm : Int) := by omega
  go_enter Try.func93, Try.ntmps93
  go_wp2_with fail
  refine HCf.out.mono ?_
  rintro e w1 ⟨rfl, hb⟩
  have HB := Lib.hid hb; clear hb
  go_wp2
  go_ret
  exact ⟨rfl, HB.out⟩
end Go.Proofs.Ytabbabkmojaoaaa
