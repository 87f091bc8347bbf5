/-
  No cell of these rows narrows 'for every input' (looked for: loops, veiled, ifaces, maps, wideKeys, modest, calm, conditions, laid).
  DERIVED. THE GIVEN ROWS OF THIS SEAT. 7 by the template 'for every input the law returns true; each argument reads behind the call as it read before'; 0 by the template 'total and deterministic' (their statements: YtkcdcgijbaepmaaTotals.lean).
  GIVEN WITH THE SEED: the statements are not yours to turn. If you find one false, say at which input.
  Laid BY PROGRAM, IN A SANDBOX (cutbox-rows.mjs): the forced cells as the released guide's own fill.sh prints them over the translation a035d15b38d96068… (all of the seat's roots in one cut). By AI agents, Wed Nov 11 2026. No macro, syntax, notation, axiom, sorry.
-/
import Derived.Test.YtkcdcgijbaepmaaChecked
import GoSem.Claim
import GoSem.ClaimJoined
import GoSem.ClaimMapViews
import Derived.JoinedTies
import Derived.KernelRfl
namespace Go.Proofs.Ytkcdcgijbaepmaa
/- THE CELL 'sum', in the pinned program and in every row, IS THE sha256 OF THE DUMP (.gsa) THAT YtkcdcgijbaepmaaProg.lean LOADS. Nothing in Lean hashes anything: it is a label: what it is worth is what the hold of that sum in a sandbox is worth. -/
noncomputable def Try.pinned : Pinned := { name := "ytkcdcgijbaepmaa", sum := "a035d15b38d960681fb9cd6f372833b82b55d2d607fb793ea01bf3e9e6c4d57a", checked := Try.checked }
namespace Rows
def none {H : Type} : Left H := { results := [], args := [] }

/-- 'furrowlaw26.PicksText': WHATEVER THE INPUT: true; the input reads as it did. -/
def picksTextSpec : ChangeSpec := { name := "picksText", fn := fun _ => fun
  | [d1, d2] => { results := [.lit (.bool true)], args := [d1, d2] }
  | _ => none }
def picksTextRow : OpenClaim := { program := "ytkcdcgijbaepmaa", sum := "a035d15b38d960681fb9cd6f372833b82b55d2d607fb793ea01bf3e9e6c4d57a", func := "furrow/furrowlaw26.PicksText", spec := "picksText", inPlace := ["internal/abi.NoEscape"], unfollowed := true, recurses := true, apart := false }
def PicksTextSaid : Prop := picksTextRow.holds Try.pinned (OpenSpec.ofChange picksTextSpec)

/-- ITS FALSE NEIGHBOUR: 'it returns false'. Refute it at one input. -/
def picksTextWrong : ChangeSpec := { name := "picksText", fn := fun _ => fun
  | [d1, d2] => { results := [.lit (.bool false)], args := [d1, d2] }
  | _ => none }
def PicksTextWrongFalsely : Prop := picksTextRow.holds Try.pinned (OpenSpec.ofChange picksTextWrong)

/-- 'furrowlaw26.PicksShown': WHATEVER THE INPUT: true; the input reads as it did. -/
def picksShownSpec : ChangeSpec := { name := "picksShown", fn := fun _ => fun
  | [d1, d2, d3] => { results := [.lit (.bool true)], args := [d1, d2, d3] }
  | _ => none }
def picksShownRow : OpenClaim := { program := "ytkcdcgijbaepmaa", sum := "a035d15b38d960681fb9cd6f372833b82b55d2d607fb793ea01bf3e9e6c4d57a", func := "furrow/furrowlaw26.PicksShown", spec := "picksShown", inPlace := ["internal/abi.NoEscape"], unfollowed := true, recurses := true, apart := false }
def PicksShownSaid : Prop := picksShownRow.holds Try.pinned (OpenSpec.ofChange picksShownSpec)

/-- ITS FALSE NEIGHBOUR: 'it returns false'. Refute it at one input. -/
def picksShownWrong : ChangeSpec := { name := "picksShown", fn := fun _ => fun
  | [d1, d2, d3] => { results := [.lit (.bool false)], args := [d1, d2, d3] }
  | _ => none }
def PicksShownWrongFalsely : Prop := picksShownRow.holds Try.pinned (OpenSpec.ofChange picksShownWrong)

/-- 'furrowlaw26.PicksJoin': WHATEVER THE INPUT: true; the input reads as it did. -/
def picksJoinSpec : ChangeSpec := { name := "picksJoin", fn := fun _ => fun
  | [d1, d2, d3] => { results := [.lit (.bool true)], args := [d1, d2, d3] }
  | _ => none }
def picksJoinRow : OpenClaim := { program := "ytkcdcgijbaepmaa", sum := "a035d15b38d960681fb9cd6f372833b82b55d2d607fb793ea01bf3e9e6c4d57a", func := "furrow/furrowlaw26.PicksJoin", spec := "picksJoin", inPlace := ["internal/abi.NoEscape"], unfollowed := true, recurses := true, apart := false }
def PicksJoinSaid : Prop := picksJoinRow.holds Try.pinned (OpenSpec.ofChange picksJoinSpec)

/-- ITS FALSE NEIGHBOUR: 'it returns false'. Refute it at one input. -/
def picksJoinWrong : ChangeSpec := { name := "picksJoin", fn := fun _ => fun
  | [d1, d2, d3] => { results := [.lit (.bool false)], args := [d1, d2, d3] }
  | _ => none }
def PicksJoinWrongFalsely : Prop := picksJoinRow.holds Try.pinned (OpenSpec.ofChange picksJoinWrong)

/-- 'furrowlaw26.PicksTurns': WHATEVER THE INPUT: true; the input reads as it did. -/
def picksTurnsSpec : ChangeSpec := { name := "picksTurns", fn := fun _ => fun
  | [d1, d2] => { results := [.lit (.bool true)], args := [d1, d2] }
  | _ => none }
def picksTurnsRow : OpenClaim := { program := "ytkcdcgijbaepmaa", sum := "a035d15b38d960681fb9cd6f372833b82b55d2d607fb793ea01bf3e9e6c4d57a", func := "furrow/furrowlaw26.PicksTurns", spec := "picksTurns", inPlace := ["internal/abi.NoEscape"], unfollowed := true, recurses := true, apart := false }
def PicksTurnsSaid : Prop := picksTurnsRow.holds Try.pinned (OpenSpec.ofChange picksTurnsSpec)

/-- ITS FALSE NEIGHBOUR: 'it returns false'. Refute it at one input. -/
def picksTurnsWrong : ChangeSpec := { name := "picksTurns", fn := fun _ => fun
  | [d1, d2] => { results := [.lit (.bool false)], args := [d1, d2] }
  | _ => none }
def PicksTurnsWrongFalsely : Prop := picksTurnsRow.holds Try.pinned (OpenSpec.ofChange picksTurnsWrong)

/-- 'furrowlaw26.PicksBytes': WHATEVER THE INPUT: true; the input reads as it did. -/
def picksBytesSpec : ChangeSpec := { name := "picksBytes", fn := fun _ => fun
  | [d1, d2] => { results := [.lit (.bool true)], args := [d1, d2] }
  | _ => none }
def picksBytesRow : OpenClaim := { program := "ytkcdcgijbaepmaa", sum := "a035d15b38d960681fb9cd6f372833b82b55d2d607fb793ea01bf3e9e6c4d57a", func := "furrow/furrowlaw26.PicksBytes", spec := "picksBytes", inPlace := ["internal/abi.NoEscape"], unfollowed := true, recurses := true, apart := false }
def PicksBytesSaid : Prop := picksBytesRow.holds Try.pinned (OpenSpec.ofChange picksBytesSpec)

/-- ITS FALSE NEIGHBOUR: 'it returns false'. Refute it at one input. -/
def picksBytesWrong : ChangeSpec := { name := "picksBytes", fn := fun _ => fun
  | [d1, d2] => { results := [.lit (.bool false)], args := [d1, d2] }
  | _ => none }
def PicksBytesWrongFalsely : Prop := picksBytesRow.holds Try.pinned (OpenSpec.ofChange picksBytesWrong)

/-- 'furrowlaw26.PicksBack': WHATEVER THE INPUT: true; the input reads as it did. -/
def picksBackSpec : ChangeSpec := { name := "picksBack", fn := fun _ => fun
  | [d1, d2] => { results := [.lit (.bool true)], args := [d1, d2] }
  | _ => none }
def picksBackRow : OpenClaim := { program := "ytkcdcgijbaepmaa", sum := "a035d15b38d960681fb9cd6f372833b82b55d2d607fb793ea01bf3e9e6c4d57a", func := "furrow/furrowlaw26.PicksBack", spec := "picksBack", inPlace := ["internal/abi.NoEscape"], unfollowed := true, recurses := true, apart := false }
def PicksBackSaid : Prop := picksBackRow.holds Try.pinned (OpenSpec.ofChange picksBackSpec)

/-- ITS FALSE NEIGHBOUR: 'it returns false'. Refute it at one input. -/
def picksBackWrong : ChangeSpec := { name := "picksBack", fn := fun _ => fun
  | [d1, d2] => { results := [.lit (.bool false)], args := [d1, d2] }
  | _ => none }
def PicksBackWrongFalsely : Prop := picksBackRow.holds Try.pinned (OpenSpec.ofChange picksBackWrong)

/-- 'furrowlaw26.PicksKnown': WHATEVER THE INPUT: true; the input reads as it did. -/
def picksKnownSpec : ChangeSpec := { name := "picksKnown", fn := fun _ => fun
  | [] => { results := [.lit (.bool true)], args := [] }
  | _ => none }
def picksKnownRow : OpenClaim := { program := "ytkcdcgijbaepmaa", sum := "a035d15b38d960681fb9cd6f372833b82b55d2d607fb793ea01bf3e9e6c4d57a", func := "furrow/furrowlaw26.PicksKnown", spec := "picksKnown", inPlace := ["internal/abi.NoEscape"], unfollowed := true, recurses := true, apart := false }
def PicksKnownSaid : Prop := picksKnownRow.holds Try.pinned (OpenSpec.ofChange picksKnownSpec)

/-- ITS FALSE NEIGHBOUR: 'it returns false'. Refute it at one input. -/
def picksKnownWrong : ChangeSpec := { name := "picksKnown", fn := fun _ => fun
  | [] => { results := [.lit (.bool false)], args := [] }
  | _ => none }
def PicksKnownWrongFalsely : Prop := picksKnownRow.holds Try.pinned (OpenSpec.ofChange picksKnownWrong)

/- THE SECOND FORM. 'bulk': how many values and letters a reading holds, each counted each time it is reached (what is shared counts as often as it is met; a slice's spare places count too). A statement '..UptoSaid' is the law's where the arguments, and the package variables that the reading takes, are together of bulk at most 1048576: NARROWER than '..Said'. Prove '..Said' where nothing that the law and all that it calls make is longer than what came in: it says more and counts as full. Else prove '..UptoSaid'. A law counts once. -/
mutual
def uptoBulk {H : Type} : DataW H → Nat
  | .lit (.string bytes) => bytes.length + 1
  | .lit _ => 1
  | .nil => 1
  | .ptr d => uptoBulk d + 1
  | .slice elems spare => uptoBulkAll elems + uptoBulkAll spare + 1
  | .agg parts => uptoBulkAll parts + 1
  | .iface _ d => uptoBulk d + 1
  | .map entries => uptoBulkEntries entries + 1
  | .held _ => 1
def uptoBulkAll {H : Type} : List (DataW H) → Nat
  | [] => 0
  | d :: r => uptoBulk d + uptoBulkAll r
def uptoBulkEntries {H : Type} : List (Lit × DataW H) → Nat
  | [] => 0
  | x :: r => uptoBulkEntry x + uptoBulkEntries r
def uptoBulkEntry {H : Type} : Lit × DataW H → Nat
  | (.string bytes, d) => bytes.length + uptoBulk d + 1
  | (_, d) => uptoBulk d + 1
 end
def uptoSmall : (H : Type) → List (DataW H) → Bool := fun _ ds => decide (uptoBulkAll ds ≤ 1048576)
def OpenSpec.upto (s : _root_.Go.ChangeSpec) : _root_.Go.OpenSpec := { _root_.Go.OpenSpec.ofChange s with cond := some uptoSmall }

/-- 'furrowlaw26.PicksText', WHERE WHAT IT READS IS OF BULK AT MOST 1048576: true; the input reads as it did. -/
def picksTextUptoRow : OpenClaim := { program := "ytkcdcgijbaepmaa", sum := "a035d15b38d960681fb9cd6f372833b82b55d2d607fb793ea01bf3e9e6c4d57a", func := "furrow/furrowlaw26.PicksText", spec := "picksText", inPlace := ["internal/abi.NoEscape"], unfollowed := true, recurses := true, apart := false, narrowed := true }
def PicksTextUptoSaid : Prop := picksTextUptoRow.holds Try.pinned (OpenSpec.upto picksTextSpec)

/-- 'furrowlaw26.PicksShown', WHERE WHAT IT READS IS OF BULK AT MOST 1048576: true; the input reads as it did. -/
def picksShownUptoRow : OpenClaim := { program := "ytkcdcgijbaepmaa", sum := "a035d15b38d960681fb9cd6f372833b82b55d2d607fb793ea01bf3e9e6c4d57a", func := "furrow/furrowlaw26.PicksShown", spec := "picksShown", inPlace := ["internal/abi.NoEscape"], unfollowed := true, recurses := true, apart := false, narrowed := true }
def PicksShownUptoSaid : Prop := picksShownUptoRow.holds Try.pinned (OpenSpec.upto picksShownSpec)

/-- 'furrowlaw26.PicksJoin', WHERE WHAT IT READS IS OF BULK AT MOST 1048576: true; the input reads as it did. -/
def picksJoinUptoRow : OpenClaim := { program := "ytkcdcgijbaepmaa", sum := "a035d15b38d960681fb9cd6f372833b82b55d2d607fb793ea01bf3e9e6c4d57a", func := "furrow/furrowlaw26.PicksJoin", spec := "picksJoin", inPlace := ["internal/abi.NoEscape"], unfollowed := true, recurses := true, apart := false, narrowed := true }
def PicksJoinUptoSaid : Prop := picksJoinUptoRow.holds Try.pinned (OpenSpec.upto picksJoinSpec)

/-- 'furrowlaw26.PicksTurns', WHERE WHAT IT READS IS OF BULK AT MOST 1048576: true; the input reads as it did. -/
def picksTurnsUptoRow : OpenClaim := { program := "ytkcdcgijbaepmaa", sum := "a035d15b38d960681fb9cd6f372833b82b55d2d607fb793ea01bf3e9e6c4d57a", func := "furrow/furrowlaw26.PicksTurns", spec := "picksTurns", inPlace := ["internal/abi.NoEscape"], unfollowed := true, recurses := true, apart := false, narrowed := true }
def PicksTurnsUptoSaid : Prop := picksTurnsUptoRow.holds Try.pinned (OpenSpec.upto picksTurnsSpec)

/-- 'furrowlaw26.PicksBytes', WHERE WHAT IT READS IS OF BULK AT MOST 1048576: true; the input reads as it did. -/
def picksBytesUptoRow : OpenClaim := { program := "ytkcdcgijbaepmaa", sum := "a035d15b38d960681fb9cd6f372833b82b55d2d607fb793ea01bf3e9e6c4d57a", func := "furrow/furrowlaw26.PicksBytes", spec := "picksBytes", inPlace := ["internal/abi.NoEscape"], unfollowed := true, recurses := true, apart := false, narrowed := true }
def PicksBytesUptoSaid : Prop := picksBytesUptoRow.holds Try.pinned (OpenSpec.upto picksBytesSpec)

/-- 'furrowlaw26.PicksBack', WHERE WHAT IT READS IS OF BULK AT MOST 1048576: true; the input reads as it did. -/
def picksBackUptoRow : OpenClaim := { program := "ytkcdcgijbaepmaa", sum := "a035d15b38d960681fb9cd6f372833b82b55d2d607fb793ea01bf3e9e6c4d57a", func := "furrow/furrowlaw26.PicksBack", spec := "picksBack", inPlace := ["internal/abi.NoEscape"], unfollowed := true, recurses := true, apart := false, narrowed := true }
def PicksBackUptoSaid : Prop := picksBackUptoRow.holds Try.pinned (OpenSpec.upto picksBackSpec)

/-- 'furrowlaw26.PicksKnown', WHERE WHAT IT READS IS OF BULK AT MOST 1048576: true; the input reads as it did. -/
def picksKnownUptoRow : OpenClaim := { program := "ytkcdcgijbaepmaa", sum := "a035d15b38d960681fb9cd6f372833b82b55d2d607fb793ea01bf3e9e6c4d57a", func := "furrow/furrowlaw26.PicksKnown", spec := "picksKnown", inPlace := ["internal/abi.NoEscape"], unfollowed := true, recurses := true, apart := false, narrowed := true }
def PicksKnownUptoSaid : Prop := picksKnownUptoRow.holds Try.pinned (OpenSpec.upto picksKnownSpec)

end Rows
end Go.Proofs.Ytkcdcgijbaepmaa
