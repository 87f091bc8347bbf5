/-
  No cell of these rows narrows 'for every input' (looked for: loops, veiled, ifaces, maps, wideKeys, modest, calm, conditions, laid).
  DERIVED. THE GIVEN ROWS OF THIS SEAT. 9 by the template 'for every input the law returns true; each argument reads behind the call as it read before'; 0 by the template 'total and deterministic' (their statements: YtcgdhgdblieaiaaTotals.lean).
  GIVEN WITH THE SEED: the statements are not yours to turn. If you find one false, say at which input.
  Laid BY PROGRAM, IN A SANDBOX (cutbox-rows.mjs): the forced cells as the released guide's own fill.sh prints them over the translation 74926d52d567b40c… (all of the seat's roots in one cut). By AI agents, Wed Nov 11 2026. No macro, syntax, notation, axiom, sorry.
-/
import Derived.Test.YtcgdhgdblieaiaaChecked
import GoSem.Claim
import GoSem.ClaimJoined
import GoSem.ClaimMapViews
import Derived.JoinedTies
import Derived.KernelRfl
namespace Go.Proofs.Ytcgdhgdblieaiaa
/- THE CELL 'sum', in the pinned program and in every row, IS THE sha256 OF THE DUMP (.gsa) THAT YtcgdhgdblieaiaaProg.lean LOADS. Nothing in Lean hashes anything: it is a label: what it is worth is what the hold of that sum in a sandbox is worth. -/
noncomputable def Try.pinned : Pinned := { name := "ytcgdhgdblieaiaa", sum := "74926d52d567b40c2216707912d6c6f9caddb5ac23cf696907c957f07ba08021", checked := Try.checked }
namespace Rows
def none {H : Type} : Left H := { results := [], args := [] }

/-- 'furrowlaw22.VisualTwice': WHATEVER THE INPUT: true; the input reads as it did. -/
def visualTwiceSpec : ChangeSpec := { name := "visualTwice", fn := fun _ => fun
  | [d] => { results := [.lit (.bool true)], args := [d] }
  | _ => none }
def visualTwiceRow : OpenClaim := { program := "ytcgdhgdblieaiaa", sum := "74926d52d567b40c2216707912d6c6f9caddb5ac23cf696907c957f07ba08021", func := "furrow/furrowlaw22.VisualTwice", spec := "visualTwice", apart := false }
def VisualTwiceSaid : Prop := visualTwiceRow.holds Try.pinned (OpenSpec.ofChange visualTwiceSpec)

/-- ITS FALSE NEIGHBOUR: 'it returns false'. Refute it at one input. -/
def visualTwiceWrong : ChangeSpec := { name := "visualTwice", fn := fun _ => fun
  | [d] => { results := [.lit (.bool false)], args := [d] }
  | _ => none }
def VisualTwiceWrongFalsely : Prop := visualTwiceRow.holds Try.pinned (OpenSpec.ofChange visualTwiceWrong)

/-- 'furrowlaw22.VisualGone': WHATEVER THE INPUT: true; the input reads as it did. -/
def visualGoneSpec : ChangeSpec := { name := "visualGone", fn := fun _ => fun
  | [d1, d2] => { results := [.lit (.bool true)], args := [d1, d2] }
  | _ => none }
def visualGoneRow : OpenClaim := { program := "ytcgdhgdblieaiaa", sum := "74926d52d567b40c2216707912d6c6f9caddb5ac23cf696907c957f07ba08021", func := "furrow/furrowlaw22.VisualGone", spec := "visualGone", apart := false }
def VisualGoneSaid : Prop := visualGoneRow.holds Try.pinned (OpenSpec.ofChange visualGoneSpec)

/-- ITS FALSE NEIGHBOUR: 'it returns false'. Refute it at one input. -/
def visualGoneWrong : ChangeSpec := { name := "visualGone", fn := fun _ => fun
  | [d1, d2] => { results := [.lit (.bool false)], args := [d1, d2] }
  | _ => none }
def VisualGoneWrongFalsely : Prop := visualGoneRow.holds Try.pinned (OpenSpec.ofChange visualGoneWrong)

/-- 'furrowlaw22.VisualRaised': WHATEVER THE INPUT: true; the input reads as it did. -/
def visualRaisedSpec : ChangeSpec := { name := "visualRaised", fn := fun _ => fun
  | [d1, d2] => { results := [.lit (.bool true)], args := [d1, d2] }
  | _ => none }
def visualRaisedRow : OpenClaim := { program := "ytcgdhgdblieaiaa", sum := "74926d52d567b40c2216707912d6c6f9caddb5ac23cf696907c957f07ba08021", func := "furrow/furrowlaw22.VisualRaised", spec := "visualRaised", apart := false }
def VisualRaisedSaid : Prop := visualRaisedRow.holds Try.pinned (OpenSpec.ofChange visualRaisedSpec)

/-- ITS FALSE NEIGHBOUR: 'it returns false'. Refute it at one input. -/
def visualRaisedWrong : ChangeSpec := { name := "visualRaised", fn := fun _ => fun
  | [d1, d2] => { results := [.lit (.bool false)], args := [d1, d2] }
  | _ => none }
def VisualRaisedWrongFalsely : Prop := visualRaisedRow.holds Try.pinned (OpenSpec.ofChange visualRaisedWrong)

/-- 'furrowlaw22.VisualNames': WHATEVER THE INPUT: true; the input reads as it did. -/
def visualNamesSpec : ChangeSpec := { name := "visualNames", fn := fun _ => fun
  | [] => { results := [.lit (.bool true)], args := [] }
  | _ => none }
def visualNamesRow : OpenClaim := { program := "ytcgdhgdblieaiaa", sum := "74926d52d567b40c2216707912d6c6f9caddb5ac23cf696907c957f07ba08021", func := "furrow/furrowlaw22.VisualNames", spec := "visualNames", apart := false }
def VisualNamesSaid : Prop := visualNamesRow.holds Try.pinned (OpenSpec.ofChange visualNamesSpec)

/-- ITS FALSE NEIGHBOUR: 'it returns false'. Refute it at one input. -/
def visualNamesWrong : ChangeSpec := { name := "visualNames", fn := fun _ => fun
  | [] => { results := [.lit (.bool false)], args := [] }
  | _ => none }
def VisualNamesWrongFalsely : Prop := visualNamesRow.holds Try.pinned (OpenSpec.ofChange visualNamesWrong)

/-- 'furrowlaw22.VisualOnce': WHATEVER THE INPUT: true; the input reads as it did. -/
def visualOnceSpec : ChangeSpec := { name := "visualOnce", fn := fun _ => fun
  | [d] => { results := [.lit (.bool true)], args := [d] }
  | _ => none }
def visualOnceRow : OpenClaim := { program := "ytcgdhgdblieaiaa", sum := "74926d52d567b40c2216707912d6c6f9caddb5ac23cf696907c957f07ba08021", func := "furrow/furrowlaw22.VisualOnce", spec := "visualOnce", apart := false }
def VisualOnceSaid : Prop := visualOnceRow.holds Try.pinned (OpenSpec.ofChange visualOnceSpec)

/-- ITS FALSE NEIGHBOUR: 'it returns false'. Refute it at one input. -/
def visualOnceWrong : ChangeSpec := { name := "visualOnce", fn := fun _ => fun
  | [d] => { results := [.lit (.bool false)], args := [d] }
  | _ => none }
def VisualOnceWrongFalsely : Prop := visualOnceRow.holds Try.pinned (OpenSpec.ofChange visualOnceWrong)

/-- 'furrowlaw22.VisualTurns': WHATEVER THE INPUT: true; the input reads as it did. -/
def visualTurnsSpec : ChangeSpec := { name := "visualTurns", fn := fun _ => fun
  | [d1, d2, d3, d4] => { results := [.lit (.bool true)], args := [d1, d2, d3, d4] }
  | _ => none }
def visualTurnsRow : OpenClaim := { program := "ytcgdhgdblieaiaa", sum := "74926d52d567b40c2216707912d6c6f9caddb5ac23cf696907c957f07ba08021", func := "furrow/furrowlaw22.VisualTurns", spec := "visualTurns", unfollowed := true, recurses := true, apart := false }
def VisualTurnsSaid : Prop := visualTurnsRow.holds Try.pinned (OpenSpec.ofChange visualTurnsSpec)

/-- ITS FALSE NEIGHBOUR: 'it returns false'. Refute it at one input. -/
def visualTurnsWrong : ChangeSpec := { name := "visualTurns", fn := fun _ => fun
  | [d1, d2, d3, d4] => { results := [.lit (.bool false)], args := [d1, d2, d3, d4] }
  | _ => none }
def VisualTurnsWrongFalsely : Prop := visualTurnsRow.holds Try.pinned (OpenSpec.ofChange visualTurnsWrong)

/-- 'furrowlaw22.VisualMirrors': WHATEVER THE INPUT: true; the input reads as it did. -/
def visualMirrorsSpec : ChangeSpec := { name := "visualMirrors", fn := fun _ => fun
  | [d1, d2, d3] => { results := [.lit (.bool true)], args := [d1, d2, d3] }
  | _ => none }
def visualMirrorsRow : OpenClaim := { program := "ytcgdhgdblieaiaa", sum := "74926d52d567b40c2216707912d6c6f9caddb5ac23cf696907c957f07ba08021", func := "furrow/furrowlaw22.VisualMirrors", spec := "visualMirrors", unfollowed := true, recurses := true, apart := false }
def VisualMirrorsSaid : Prop := visualMirrorsRow.holds Try.pinned (OpenSpec.ofChange visualMirrorsSpec)

/-- ITS FALSE NEIGHBOUR: 'it returns false'. Refute it at one input. -/
def visualMirrorsWrong : ChangeSpec := { name := "visualMirrors", fn := fun _ => fun
  | [d1, d2, d3] => { results := [.lit (.bool false)], args := [d1, d2, d3] }
  | _ => none }
def VisualMirrorsWrongFalsely : Prop := visualMirrorsRow.holds Try.pinned (OpenSpec.ofChange visualMirrorsWrong)

/-- 'furrowlaw22.VisualOrders': WHATEVER THE INPUT: true; the input reads as it did. -/
def visualOrdersSpec : ChangeSpec := { name := "visualOrders", fn := fun _ => fun
  | [d] => { results := [.lit (.bool true)], args := [d] }
  | _ => none }
def visualOrdersRow : OpenClaim := { program := "ytcgdhgdblieaiaa", sum := "74926d52d567b40c2216707912d6c6f9caddb5ac23cf696907c957f07ba08021", func := "furrow/furrowlaw22.VisualOrders", spec := "visualOrders", unfollowed := true, recurses := true, apart := false }
def VisualOrdersSaid : Prop := visualOrdersRow.holds Try.pinned (OpenSpec.ofChange visualOrdersSpec)

/-- ITS FALSE NEIGHBOUR: 'it returns false'. Refute it at one input. -/
def visualOrdersWrong : ChangeSpec := { name := "visualOrders", fn := fun _ => fun
  | [d] => { results := [.lit (.bool false)], args := [d] }
  | _ => none }
def VisualOrdersWrongFalsely : Prop := visualOrdersRow.holds Try.pinned (OpenSpec.ofChange visualOrdersWrong)

/-- 'furrowlaw22.VisualRuns': WHATEVER THE INPUT: true; the input reads as it did. -/
def visualRunsSpec : ChangeSpec := { name := "visualRuns", fn := fun _ => fun
  | [d] => { results := [.lit (.bool true)], args := [d] }
  | _ => none }
def visualRunsRow : OpenClaim := { program := "ytcgdhgdblieaiaa", sum := "74926d52d567b40c2216707912d6c6f9caddb5ac23cf696907c957f07ba08021", func := "furrow/furrowlaw22.VisualRuns", spec := "visualRuns", unfollowed := true, recurses := true, apart := false }
def VisualRunsSaid : Prop := visualRunsRow.holds Try.pinned (OpenSpec.ofChange visualRunsSpec)

/-- ITS FALSE NEIGHBOUR: 'it returns false'. Refute it at one input. -/
def visualRunsWrong : ChangeSpec := { name := "visualRuns", fn := fun _ => fun
  | [d] => { results := [.lit (.bool false)], args := [d] }
  | _ => none }
def VisualRunsWrongFalsely : Prop := visualRunsRow.holds Try.pinned (OpenSpec.ofChange visualRunsWrong)

/- THE SECOND FORM. 'bulk': how many values and letters a reading holds, each counted each time it is reached (what is shared counts as often as it is met; a slice's spare places count too). A statement '..UptoSaid' is the law's where the arguments, and the package variables that the reading takes, are together of bulk at most 1048576: NARROWER than '..Said'. Prove '..Said' where nothing that the law and all that it calls make is longer than what came in: it says more and counts as full. Else prove '..UptoSaid'. A law counts once. -/
mutual
def uptoBulk {H : Type} : DataW H → Nat
  | .lit (.string bytes) => bytes.length + 1
  | .lit _ => 1
  | .nil => 1
  | .ptr d => uptoBulk d + 1
  | .slice elems spare => uptoBulkAll elems + uptoBulkAll spare + 1
  | .agg parts => uptoBulkAll parts + 1
  | .iface _ d => uptoBulk d + 1
  | .map entries => uptoBulkEntries entries + 1
  | .held _ => 1
def uptoBulkAll {H : Type} : List (DataW H) → Nat
  | [] => 0
  | d :: r => uptoBulk d + uptoBulkAll r
def uptoBulkEntries {H : Type} : List (Lit × DataW H) → Nat
  | [] => 0
  | x :: r => uptoBulkEntry x + uptoBulkEntries r
def uptoBulkEntry {H : Type} : Lit × DataW H → Nat
  | (.string bytes, d) => bytes.length + uptoBulk d + 1
  | (_, d) => uptoBulk d + 1
 end
def uptoSmall : (H : Type) → List (DataW H) → Bool := fun _ ds => decide (uptoBulkAll ds ≤ 1048576)
def OpenSpec.upto (s : _root_.Go.ChangeSpec) : _root_.Go.OpenSpec := { _root_.Go.OpenSpec.ofChange s with cond := some uptoSmall }

/-- 'furrowlaw22.VisualTwice', WHERE WHAT IT READS IS OF BULK AT MOST 1048576: true; the input reads as it did. -/
def visualTwiceUptoRow : OpenClaim := { program := "ytcgdhgdblieaiaa", sum := "74926d52d567b40c2216707912d6c6f9caddb5ac23cf696907c957f07ba08021", func := "furrow/furrowlaw22.VisualTwice", spec := "visualTwice", apart := false, narrowed := true }
def VisualTwiceUptoSaid : Prop := visualTwiceUptoRow.holds Try.pinned (OpenSpec.upto visualTwiceSpec)

/-- 'furrowlaw22.VisualGone', WHERE WHAT IT READS IS OF BULK AT MOST 1048576: true; the input reads as it did. -/
def visualGoneUptoRow : OpenClaim := { program := "ytcgdhgdblieaiaa", sum := "74926d52d567b40c2216707912d6c6f9caddb5ac23cf696907c957f07ba08021", func := "furrow/furrowlaw22.VisualGone", spec := "visualGone", apart := false, narrowed := true }
def VisualGoneUptoSaid : Prop := visualGoneUptoRow.holds Try.pinned (OpenSpec.upto visualGoneSpec)

/-- 'furrowlaw22.VisualRaised', WHERE WHAT IT READS IS OF BULK AT MOST 1048576: true; the input reads as it did. -/
def visualRaisedUptoRow : OpenClaim := { program := "ytcgdhgdblieaiaa", sum := "74926d52d567b40c2216707912d6c6f9caddb5ac23cf696907c957f07ba08021", func := "furrow/furrowlaw22.VisualRaised", spec := "visualRaised", apart := false, narrowed := true }
def VisualRaisedUptoSaid : Prop := visualRaisedUptoRow.holds Try.pinned (OpenSpec.upto visualRaisedSpec)

/-- 'furrowlaw22.VisualNames', WHERE WHAT IT READS IS OF BULK AT MOST 1048576: true; the input reads as it did. -/
def visualNamesUptoRow : OpenClaim := { program := "ytcgdhgdblieaiaa", sum := "74926d52d567b40c2216707912d6c6f9caddb5ac23cf696907c957f07ba08021", func := "furrow/furrowlaw22.VisualNames", spec := "visualNames", apart := false, narrowed := true }
def VisualNamesUptoSaid : Prop := visualNamesUptoRow.holds Try.pinned (OpenSpec.upto visualNamesSpec)

/-- 'furrowlaw22.VisualOnce', WHERE WHAT IT READS IS OF BULK AT MOST 1048576: true; the input reads as it did. -/
def visualOnceUptoRow : OpenClaim := { program := "ytcgdhgdblieaiaa", sum := "74926d52d567b40c2216707912d6c6f9caddb5ac23cf696907c957f07ba08021", func := "furrow/furrowlaw22.VisualOnce", spec := "visualOnce", apart := false, narrowed := true }
def VisualOnceUptoSaid : Prop := visualOnceUptoRow.holds Try.pinned (OpenSpec.upto visualOnceSpec)

/-- 'furrowlaw22.VisualTurns', WHERE WHAT IT READS IS OF BULK AT MOST 1048576: true; the input reads as it did. -/
def visualTurnsUptoRow : OpenClaim := { program := "ytcgdhgdblieaiaa", sum := "74926d52d567b40c2216707912d6c6f9caddb5ac23cf696907c957f07ba08021", func := "furrow/furrowlaw22.VisualTurns", spec := "visualTurns", unfollowed := true, recurses := true, apart := false, narrowed := true }
def VisualTurnsUptoSaid : Prop := visualTurnsUptoRow.holds Try.pinned (OpenSpec.upto visualTurnsSpec)

/-- 'furrowlaw22.VisualMirrors', WHERE WHAT IT READS IS OF BULK AT MOST 1048576: true; the input reads as it did. -/
def visualMirrorsUptoRow : OpenClaim := { program := "ytcgdhgdblieaiaa", sum := "74926d52d567b40c2216707912d6c6f9caddb5ac23cf696907c957f07ba08021", func := "furrow/furrowlaw22.VisualMirrors", spec := "visualMirrors", unfollowed := true, recurses := true, apart := false, narrowed := true }
def VisualMirrorsUptoSaid : Prop := visualMirrorsUptoRow.holds Try.pinned (OpenSpec.upto visualMirrorsSpec)

/-- 'furrowlaw22.VisualOrders', WHERE WHAT IT READS IS OF BULK AT MOST 1048576: true; the input reads as it did. -/
def visualOrdersUptoRow : OpenClaim := { program := "ytcgdhgdblieaiaa", sum := "74926d52d567b40c2216707912d6c6f9caddb5ac23cf696907c957f07ba08021", func := "furrow/furrowlaw22.VisualOrders", spec := "visualOrders", unfollowed := true, recurses := true, apart := false, narrowed := true }
def VisualOrdersUptoSaid : Prop := visualOrdersUptoRow.holds Try.pinned (OpenSpec.upto visualOrdersSpec)

/-- 'furrowlaw22.VisualRuns', WHERE WHAT IT READS IS OF BULK AT MOST 1048576: true; the input reads as it did. -/
def visualRunsUptoRow : OpenClaim := { program := "ytcgdhgdblieaiaa", sum := "74926d52d567b40c2216707912d6c6f9caddb5ac23cf696907c957f07ba08021", func := "furrow/furrowlaw22.VisualRuns", spec := "visualRuns", unfollowed := true, recurses := true, apart := false, narrowed := true }
def VisualRunsUptoSaid : Prop := visualRunsUptoRow.holds Try.pinned (OpenSpec.upto visualRunsSpec)

end Rows
end Go.Proofs.Ytcgdhgdblieaiaa
