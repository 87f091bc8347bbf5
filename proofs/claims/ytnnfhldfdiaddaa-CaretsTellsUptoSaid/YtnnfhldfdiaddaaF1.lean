/-
  What a statement is told of its argument, a struct of a base, levels, widths and questions.
-/
import Derived.Test.YtnnfhldfdiaddaaL8
import Derived.Test.YtnnfhldfdiaddaaRows
import Derived.ProofKit
import Derived.OpenShut
import Derived.ShutString
import Derived.ChangeOld
import Derived.Lib.SmallJoins
set_option linter.unusedVariables false
namespace Go.Proofs.Ytnnfhldfdiaddaa
open Go.ChangeShapes Go.WideShapes Go.ChangeAt Go.RowKit Go.Joins
open Go.ChangeMaps (open_string shut_string)

theorem Try.cellsIn : Try.prog.cellsOf 28 = 4 := by kernel_rfl

theorem ints_of {H : Type} {enc : TypeId × Value → H} {W : World} {t e : TypeId} {k : IntKind} {fuel : Nat} {v : Value} {y : DataW H × List MemPlace}
    (ht : Try.prog.underlying t = some (.slice e)) (he : Try.prog.underlying e = some (.int k)) (hc : Try.prog.cellsOf e = 1)
    (hf : DataW.trod enc Try.prog W 0 (fun _ => true) true fuel t [v] = some y) :
    ∃ a len cap zs, v = .slice a len cap ∧ IsRow k W a len cap zs := by
  rcases open_ints ht he hc hf with ⟨hcs, _⟩ | ⟨x, l, c, zs, hcs, _, hl, hm, hz, _, hcell, hwz⟩
  · simp at hcs
    exact ⟨none, 0, 0, [], hcs, .inl ⟨rfl, rfl, rfl, rfl⟩⟩
  · simp at hcs
    exact ⟨some x, l, c, zs, hcs, .inr ⟨_, rfl, hl, hm, by simpa using hz, hcell, hwz⟩⟩

theorem in_open {H : Type} {enc : TypeId × Value → H} {W : World} {b0 : Nat} {v : Value} {d : DataW H} {p : List MemPlace}
    (hv : Value.okWide Try.prog W .any b0 28 v) (h : DataW.Trod enc Try.prog W 0 (fun _ => true) true 28 v d p) :
    ∃ base a n cap a1 n1 cap1 a2 n2 cap2 lv ws, v = .agg #[.int .i8 base, .slice a n cap, .slice a1 n1 cap1, .slice a2 n2 cap2] ∧ InOk W base a n cap a1 n1 cap1 lv ws := by
  obtain ⟨v0, v1, v2, v3, y0, y1, y2, y3, m, rfl, _, _, h0, h1, h2, h3⟩ := open_agg4 Try.underlying28 (by kernel_rfl) Try.cellsIn hv h
  obtain ⟨x, e0, _, wx⟩ := DataW.trod_int Try.underlying23 h0
  simp at e0
  obtain ⟨a, n, cap, z, rfl, hr⟩ := ints_of Try.underlying24 Try.underlying23 (by kernel_rfl) h1
  obtain ⟨a1, n1, cap1, z1, rfl, hr1⟩ := ints_of Try.underlying25 Try.underlying3 (by kernel_rfl) h2
  obtain ⟨a2, n2, cap2, e3⟩ := slice_form Try.underlying26 h3
  simp at e3
  subst e0
  subst e3
  obtain ⟨i1, l1, m1, _⟩ := isRow_ints hr
  obtain ⟨i2, l2, m2, _⟩ := isRow_ints hr1
  exact ⟨x, a, n, cap, a1, n1, cap1, a2, n2, cap2, _, _, rfl, ⟨bounds_i8 wx, l1, l2, m1, m2, i1, i2⟩⟩
end Go.Proofs.Ytnnfhldfdiaddaa
