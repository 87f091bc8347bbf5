/-
  What a statement is told of lists of texts.
-/
import Derived.Test.YtcgdhgdblieaiaaF2
import Derived.Test.YtcgdhgdblieaiaaT1
import Derived.Deep.Strs
set_option linter.unusedVariables false
set_option maxRecDepth 100000
namespace Go.Proofs.Ytcgdhgdblieaiaa
open Go.ChangeShapes Go.WideShapes Go.ChangeAt Go.RowKit Go.Joins Go.Deep

theorem strs_open {H : Type} {enc : TypeId × Value → H} {W : World} {b0 : Nat} {v : Value} {d : DataW H} {p : List MemPlace}
    (hv : Value.okWide Try.prog W .any b0 39 v) (h : DataW.Trod enc Try.prog W 0 (fun _ => true) true 39 v d p) :
    ∃ a len cap ss, v = .slice a len cap ∧ (Strs W a ss ∧ ss.length = len ∧ (a = none → cap = 0)) ∧ len + 1 ≤ Rows.uptoBulk d := by
  obtain ⟨a, len, cap, rfl⟩ := okWide_slice Try.underlying39 hv
  obtain ⟨fuel, hf⟩ := h
  rcases Deep.open_strs Try.underlying39 Try.underlying9 (by kernel_rfl) hf with ⟨hcs, hx⟩ | ⟨x, l, c, m, Sx, hcs, _, hl, hm, hmm, hx, hcell⟩
  · simp [Value.cells] at hcs
    obtain ⟨rfl, rfl, rfl⟩ := hcs
    exact ⟨none, 0, 0, [], rfl, ⟨fun i hi => absurd hi (by simp [svs]), rfl, fun _ => rfl⟩, bulk_one d⟩
  · simp [Value.cells] at hcs
    obtain ⟨rfl, rfl, rfl⟩ := hcs
    have hm' : m = cap := by simpa using hmm
    refine ⟨some x, len, cap, (List.range len).map Sx, rfl, ⟨fun i hi => ?_, by simp, fun h => by cases h⟩, ?_⟩
    · have hi' : i < len := by simpa [svs] using hi
      have hc := (hcell i (by omega)).1
      have hsp : x.spot = none := by simpa [Addr.add] using World.cell?_spot (hcell 0 (by omega)).1
      obtain ⟨b, o, sp⟩ := x
      simp only at hsp
      subst hsp
      refine ⟨b, o, rfl, ?_⟩
      rw [Addr.add_lit] at hc
      rw [hc]
      simp [svs]
    · obtain rfl : d = _ := congrArg Prod.fst hx
      have := bulk_slice (H := H) ((List.range len).map fun i => .lit (.string (Sx i).data.toList)) ((List.range (m - len)).map fun j => .lit (.string (Sx (len + j)).data.toList))
      simpa using this
end Go.Proofs.Ytcgdhgdblieaiaa
