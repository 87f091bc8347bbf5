/-
  No cell of these rows narrows 'for every input' (looked for: loops, veiled, ifaces, maps, wideKeys, modest, calm, conditions, laid).
  DERIVED. THE GIVEN ROWS OF THIS SEAT. 10 by the template 'for every input the law returns true; each argument reads behind the call as it read before'; 0 by the template 'total and deterministic' (their statements: YtabbabkmojaoaaaTotals.lean).
  GIVEN WITH THE SEED: the statements are not yours to turn. If you find one false, say at which input.
  Laid BY PROGRAM, IN A SANDBOX (cutbox-rows.mjs): the forced cells as the released guide's own fill.sh prints them over the translation 76a264f85a51d963… (all of the seat's roots in one cut). By AI agents, Wed Nov 11 2026. No macro, syntax, notation, axiom, sorry.
-/
import Derived.Test.YtabbabkmojaoaaaChecked
import GoSem.Claim
import GoSem.ClaimJoined
import GoSem.ClaimMapViews
import Derived.JoinedTies
import Derived.KernelRfl
namespace Go.Proofs.Ytabbabkmojaoaaa
/- THE CELL 'sum', in the pinned program and in every row, IS THE sha256 OF THE DUMP (.gsa) THAT YtabbabkmojaoaaaProg.lean LOADS. Nothing in Lean hashes anything: it is a label: what it is worth is what the hold of that sum in a sandbox is worth. -/
noncomputable def Try.pinned : Pinned := { name := "ytabbabkmojaoaaa", sum := "76a264f85a51d9633339999c1c6473b785f789298d8b0ce54d2389a4e312b165", checked := Try.checked }
namespace Rows
def none {H : Type} : Left H := { results := [], args := [] }

/-- 'furrowlaw11.TrieSmall': WHATEVER THE INPUT: true; the input reads as it did. -/
def trieSmallSpec : ChangeSpec := { name := "trieSmall", fn := fun _ => fun
  | [d1, d2, d3] => { results := [.lit (.bool true)], args := [d1, d2, d3] }
  | _ => none }
def trieSmallRow : OpenClaim := { program := "ytabbabkmojaoaaa", sum := "76a264f85a51d9633339999c1c6473b785f789298d8b0ce54d2389a4e312b165", func := "furrow/furrowlaw11.TrieSmall", spec := "trieSmall", unfollowed := true, recurses := true, plainKeys := false, apart := false }
def TrieSmallSaid : Prop := trieSmallRow.holds Try.pinned (OpenSpec.ofChange trieSmallSpec)

/-- ITS FALSE NEIGHBOUR: 'it returns false'. Refute it at one input. -/
def trieSmallWrong : ChangeSpec := { name := "trieSmall", fn := fun _ => fun
  | [d1, d2, d3] => { results := [.lit (.bool false)], args := [d1, d2, d3] }
  | _ => none }
def TrieSmallWrongFalsely : Prop := trieSmallRow.holds Try.pinned (OpenSpec.ofChange trieSmallWrong)

/-- 'furrowlaw11.TriePoints': WHATEVER THE INPUT: true; the input reads as it did. -/
def triePointsSpec : ChangeSpec := { name := "triePoints", fn := fun _ => fun
  | [d1, d2, d3] => { results := [.lit (.bool true)], args := [d1, d2, d3] }
  | _ => none }
def triePointsRow : OpenClaim := { program := "ytabbabkmojaoaaa", sum := "76a264f85a51d9633339999c1c6473b785f789298d8b0ce54d2389a4e312b165", func := "furrow/furrowlaw11.TriePoints", spec := "triePoints", unfollowed := true, recurses := true, plainKeys := false, apart := false }
def TriePointsSaid : Prop := triePointsRow.holds Try.pinned (OpenSpec.ofChange triePointsSpec)

/-- ITS FALSE NEIGHBOUR: 'it returns false'. Refute it at one input. -/
def triePointsWrong : ChangeSpec := { name := "triePoints", fn := fun _ => fun
  | [d1, d2, d3] => { results := [.lit (.bool false)], args := [d1, d2, d3] }
  | _ => none }
def TriePointsWrongFalsely : Prop := triePointsRow.holds Try.pinned (OpenSpec.ofChange triePointsWrong)

/-- 'furrowlaw11.TrieTurns': WHATEVER THE INPUT: true; the input reads as it did. -/
def trieTurnsSpec : ChangeSpec := { name := "trieTurns", fn := fun _ => fun
  | [d1, d2, d3, d4] => { results := [.lit (.bool true)], args := [d1, d2, d3, d4] }
  | _ => none }
def trieTurnsRow : OpenClaim := { program := "ytabbabkmojaoaaa", sum := "76a264f85a51d9633339999c1c6473b785f789298d8b0ce54d2389a4e312b165", func := "furrow/furrowlaw11.TrieTurns", spec := "trieTurns", unfollowed := true, recurses := true, plainKeys := false, apart := false }
def TrieTurnsSaid : Prop := trieTurnsRow.holds Try.pinned (OpenSpec.ofChange trieTurnsSpec)

/-- ITS FALSE NEIGHBOUR: 'it returns false'. Refute it at one input. -/
def trieTurnsWrong : ChangeSpec := { name := "trieTurns", fn := fun _ => fun
  | [d1, d2, d3, d4] => { results := [.lit (.bool false)], args := [d1, d2, d3, d4] }
  | _ => none }
def TrieTurnsWrongFalsely : Prop := trieTurnsRow.holds Try.pinned (OpenSpec.ofChange trieTurnsWrong)

/-- 'furrowlaw11.TrieFloats': WHATEVER THE INPUT: true; the input reads as it did. -/
def trieFloatsSpec : ChangeSpec := { name := "trieFloats", fn := fun _ => fun
  | [d1, d2, d3] => { results := [.lit (.bool true)], args := [d1, d2, d3] }
  | _ => none }
def trieFloatsRow : OpenClaim := { program := "ytabbabkmojaoaaa", sum := "76a264f85a51d9633339999c1c6473b785f789298d8b0ce54d2389a4e312b165", func := "furrow/furrowlaw11.TrieFloats", spec := "trieFloats", unfollowed := true, recurses := true, plainKeys := false, apart := false }
def TrieFloatsSaid : Prop := trieFloatsRow.holds Try.pinned (OpenSpec.ofChange trieFloatsSpec)

/-- ITS FALSE NEIGHBOUR: 'it returns false'. Refute it at one input. -/
def trieFloatsWrong : ChangeSpec := { name := "trieFloats", fn := fun _ => fun
  | [d1, d2, d3] => { results := [.lit (.bool false)], args := [d1, d2, d3] }
  | _ => none }
def TrieFloatsWrongFalsely : Prop := trieFloatsRow.holds Try.pinned (OpenSpec.ofChange trieFloatsWrong)

/-- 'furrowlaw11.TrieMaps': WHATEVER THE INPUT: true; the input reads as it did. -/
def trieMapsSpec : ChangeSpec := { name := "trieMaps", fn := fun _ => fun
  | [d1, d2, d3, d4] => { results := [.lit (.bool true)], args := [d1, d2, d3, d4] }
  | _ => none }
def trieMapsRow : OpenClaim := { program := "ytabbabkmojaoaaa", sum := "76a264f85a51d9633339999c1c6473b785f789298d8b0ce54d2389a4e312b165", func := "furrow/furrowlaw11.TrieMaps", spec := "trieMaps", unfollowed := true, recurses := true, plainKeys := false, apart := false }
def TrieMapsSaid : Prop := trieMapsRow.holds Try.pinned (OpenSpec.ofChange trieMapsSpec)

/-- ITS FALSE NEIGHBOUR: 'it returns false'. Refute it at one input. -/
def trieMapsWrong : ChangeSpec := { name := "trieMaps", fn := fun _ => fun
  | [d1, d2, d3, d4] => { results := [.lit (.bool false)], args := [d1, d2, d3, d4] }
  | _ => none }
def TrieMapsWrongFalsely : Prop := trieMapsRow.holds Try.pinned (OpenSpec.ofChange trieMapsWrong)

/-- 'furrowlaw11.TrieNil': WHATEVER THE INPUT: true; the input reads as it did. -/
def trieNilSpec : ChangeSpec := { name := "trieNil", fn := fun _ => fun
  | [d1, d2] => { results := [.lit (.bool true)], args := [d1, d2] }
  | _ => none }
def trieNilRow : OpenClaim := { program := "ytabbabkmojaoaaa", sum := "76a264f85a51d9633339999c1c6473b785f789298d8b0ce54d2389a4e312b165", func := "furrow/furrowlaw11.TrieNil", spec := "trieNil", unfollowed := true, recurses := true, plainKeys := false, apart := false }
def TrieNilSaid : Prop := trieNilRow.holds Try.pinned (OpenSpec.ofChange trieNilSpec)

/-- ITS FALSE NEIGHBOUR: 'it returns false'. Refute it at one input. -/
def trieNilWrong : ChangeSpec := { name := "trieNil", fn := fun _ => fun
  | [d1, d2] => { results := [.lit (.bool false)], args := [d1, d2] }
  | _ => none }
def TrieNilWrongFalsely : Prop := trieNilRow.holds Try.pinned (OpenSpec.ofChange trieNilWrong)

/-- 'furrowlaw11.TrieKnown': WHATEVER THE INPUT: true; the input reads as it did. -/
def trieKnownSpec : ChangeSpec := { name := "trieKnown", fn := fun _ => fun
  | [] => { results := [.lit (.bool true)], args := [] }
  | _ => none }
def trieKnownRow : OpenClaim := { program := "ytabbabkmojaoaaa", sum := "76a264f85a51d9633339999c1c6473b785f789298d8b0ce54d2389a4e312b165", func := "furrow/furrowlaw11.TrieKnown", spec := "trieKnown", unfollowed := true, recurses := true, plainKeys := false, apart := false }
def TrieKnownSaid : Prop := trieKnownRow.holds Try.pinned (OpenSpec.ofChange trieKnownSpec)

/-- ITS FALSE NEIGHBOUR: 'it returns false'. Refute it at one input. -/
def trieKnownWrong : ChangeSpec := { name := "trieKnown", fn := fun _ => fun
  | [] => { results := [.lit (.bool false)], args := [] }
  | _ => none }
def TrieKnownWrongFalsely : Prop := trieKnownRow.holds Try.pinned (OpenSpec.ofChange trieKnownWrong)

/-- 'furrowlaw11.TrieReads': WHATEVER THE INPUT: true; the input reads as it did. -/
def trieReadsSpec : ChangeSpec := { name := "trieReads", fn := fun _ => fun
  | [d1, d2, d3] => { results := [.lit (.bool true)], args := [d1, d2, d3] }
  | _ => none }
def trieReadsRow : OpenClaim := { program := "ytabbabkmojaoaaa", sum := "76a264f85a51d9633339999c1c6473b785f789298d8b0ce54d2389a4e312b165", func := "furrow/furrowlaw11.TrieReads", spec := "trieReads", unfollowed := true, recurses := true, plainKeys := false, apart := false }
def TrieReadsSaid : Prop := trieReadsRow.holds Try.pinned (OpenSpec.ofChange trieReadsSpec)

/-- ITS FALSE NEIGHBOUR: 'it returns false'. Refute it at one input. -/
def trieReadsWrong : ChangeSpec := { name := "trieReads", fn := fun _ => fun
  | [d1, d2, d3] => { results := [.lit (.bool false)], args := [d1, d2, d3] }
  | _ => none }
def TrieReadsWrongFalsely : Prop := trieReadsRow.holds Try.pinned (OpenSpec.ofChange trieReadsWrong)

/-- 'furrowlaw11.TrieBuilds': WHATEVER THE INPUT: true; the input reads as it did. -/
def trieBuildsSpec : ChangeSpec := { name := "trieBuilds", fn := fun _ => fun
  | [d1, d2, d3] => { results := [.lit (.bool true)], args := [d1, d2, d3] }
  | _ => none }
def trieBuildsRow : OpenClaim := { program := "ytabbabkmojaoaaa", sum := "76a264f85a51d9633339999c1c6473b785f789298d8b0ce54d2389a4e312b165", func := "furrow/furrowlaw11.TrieBuilds", spec := "trieBuilds", unfollowed := true, recurses := true, plainKeys := false, apart := false }
def TrieBuildsSaid : Prop := trieBuildsRow.holds Try.pinned (OpenSpec.ofChange trieBuildsSpec)

/-- ITS FALSE NEIGHBOUR: 'it returns false'. Refute it at one input. -/
def trieBuildsWrong : ChangeSpec := { name := "trieBuilds", fn := fun _ => fun
  | [d1, d2, d3] => { results := [.lit (.bool false)], args := [d1, d2, d3] }
  | _ => none }
def TrieBuildsWrongFalsely : Prop := trieBuildsRow.holds Try.pinned (OpenSpec.ofChange trieBuildsWrong)

/-- 'furrowlaw11.TrieBack': WHATEVER THE INPUT: true; the input reads as it did. -/
def trieBackSpec : ChangeSpec := { name := "trieBack", fn := fun _ => fun
  | [d1, d2, d3] => { results := [.lit (.bool true)], args := [d1, d2, d3] }
  | _ => none }
def trieBackRow : OpenClaim := { program := "ytabbabkmojaoaaa", sum := "76a264f85a51d9633339999c1c6473b785f789298d8b0ce54d2389a4e312b165", func := "furrow/furrowlaw11.TrieBack", spec := "trieBack", unfollowed := true, recurses := true, plainKeys := false, apart := false }
def TrieBackSaid : Prop := trieBackRow.holds Try.pinned (OpenSpec.ofChange trieBackSpec)

/-- ITS FALSE NEIGHBOUR: 'it returns false'. Refute it at one input. -/
def trieBackWrong : ChangeSpec := { name := "trieBack", fn := fun _ => fun
  | [d1, d2, d3] => { results := [.lit (.bool false)], args := [d1, d2, d3] }
  | _ => none }
def TrieBackWrongFalsely : Prop := trieBackRow.holds Try.pinned (OpenSpec.ofChange trieBackWrong)

/- THE SECOND FORM. 'bulk': how many values and letters a reading holds, each counted each time it is reached (what is shared counts as often as it is met; a slice's spare places count too). A statement '..UptoSaid' is the law's where the arguments, and the package variables that the reading takes, are together of bulk at most 1048576: NARROWER than '..Said'. Prove '..Said' where nothing that the law and all that it calls make is longer than what came in: it says more and counts as full. Else prove '..UptoSaid'. A law counts once. -/
mutual
def uptoBulk {H : Type} : DataW H → Nat
  | .lit (.string bytes) => bytes.length + 1
  | .lit _ => 1
  | .nil => 1
  | .ptr d => uptoBulk d + 1
  | .slice elems spare => uptoBulkAll elems + uptoBulkAll spare + 1
  | .agg parts => uptoBulkAll parts + 1
  | .iface _ d => uptoBulk d + 1
  | .map entries => uptoBulkEntries entries + 1
  | .held _ => 1
def uptoBulkAll {H : Type} : List (DataW H) → Nat
  | [] => 0
  | d :: r => uptoBulk d + uptoBulkAll r
def uptoBulkEntries {H : Type} : List (Lit × DataW H) → Nat
  | [] => 0
  | x :: r => uptoBulkEntry x + uptoBulkEntries r
def uptoBulkEntry {H : Type} : Lit × DataW H → Nat
  | (.string bytes, d) => bytes.length + uptoBulk d + 1
  | (_, d) => uptoBulk d + 1
 end
def uptoSmall : (H : Type) → List (DataW H) → Bool := fun _ ds => decide (uptoBulkAll ds ≤ 1048576)
def OpenSpec.upto (s : _root_.Go.ChangeSpec) : _root_.Go.OpenSpec := { _root_.Go.OpenSpec.ofChange s with cond := some uptoSmall }

/-- 'furrowlaw11.TrieSmall', WHERE WHAT IT READS IS OF BULK AT MOST 1048576: true; the input reads as it did. -/
def trieSmallUptoRow : OpenClaim := { program := "ytabbabkmojaoaaa", sum := "76a264f85a51d9633339999c1c6473b785f789298d8b0ce54d2389a4e312b165", func := "furrow/furrowlaw11.TrieSmall", spec := "trieSmall", unfollowed := true, recurses := true, plainKeys := false, apart := false, narrowed := true }
def TrieSmallUptoSaid : Prop := trieSmallUptoRow.holds Try.pinned (OpenSpec.upto trieSmallSpec)

/-- 'furrowlaw11.TriePoints', WHERE WHAT IT READS IS OF BULK AT MOST 1048576: true; the input reads as it did. -/
def triePointsUptoRow : OpenClaim := { program := "ytabbabkmojaoaaa", sum := "76a264f85a51d9633339999c1c6473b785f789298d8b0ce54d2389a4e312b165", func := "furrow/furrowlaw11.TriePoints", spec := "triePoints", unfollowed := true, recurses := true, plainKeys := false, apart := false, narrowed := true }
def TriePointsUptoSaid : Prop := triePointsUptoRow.holds Try.pinned (OpenSpec.upto triePointsSpec)

/-- 'furrowlaw11.TrieTurns', WHERE WHAT IT READS IS OF BULK AT MOST 1048576: true; the input reads as it did. -/
def trieTurnsUptoRow : OpenClaim := { program := "ytabbabkmojaoaaa", sum := "76a264f85a51d9633339999c1c6473b785f789298d8b0ce54d2389a4e312b165", func := "furrow/furrowlaw11.TrieTurns", spec := "trieTurns", unfollowed := true, recurses := true, plainKeys := false, apart := false, narrowed := true }
def TrieTurnsUptoSaid : Prop := trieTurnsUptoRow.holds Try.pinned (OpenSpec.upto trieTurnsSpec)

/-- 'furrowlaw11.TrieFloats', WHERE WHAT IT READS IS OF BULK AT MOST 1048576: true; the input reads as it did. -/
def trieFloatsUptoRow : OpenClaim := { program := "ytabbabkmojaoaaa", sum := "76a264f85a51d9633339999c1c6473b785f789298d8b0ce54d2389a4e312b165", func := "furrow/furrowlaw11.TrieFloats", spec := "trieFloats", unfollowed := true, recurses := true, plainKeys := false, apart := false, narrowed := true }
def TrieFloatsUptoSaid : Prop := trieFloatsUptoRow.holds Try.pinned (OpenSpec.upto trieFloatsSpec)

/-- 'furrowlaw11.TrieMaps', WHERE WHAT IT READS IS OF BULK AT MOST 1048576: true; the input reads as it did. -/
def trieMapsUptoRow : OpenClaim := { program := "ytabbabkmojaoaaa", sum := "76a264f85a51d9633339999c1c6473b785f789298d8b0ce54d2389a4e312b165", func := "furrow/furrowlaw11.TrieMaps", spec := "trieMaps", unfollowed := true, recurses := true, plainKeys := false, apart := false, narrowed := true }
def TrieMapsUptoSaid : Prop := trieMapsUptoRow.holds Try.pinned (OpenSpec.upto trieMapsSpec)

/-- 'furrowlaw11.TrieNil', WHERE WHAT IT READS IS OF BULK AT MOST 1048576: true; the input reads as it did. -/
def trieNilUptoRow : OpenClaim := { program := "ytabbabkmojaoaaa", sum := "76a264f85a51d9633339999c1c6473b785f789298d8b0ce54d2389a4e312b165", func := "furrow/furrowlaw11.TrieNil", spec := "trieNil", unfollowed := true, recurses := true, plainKeys := false, apart := false, narrowed := true }
def TrieNilUptoSaid : Prop := trieNilUptoRow.holds Try.pinned (OpenSpec.upto trieNilSpec)

/-- 'furrowlaw11.TrieKnown', WHERE WHAT IT READS IS OF BULK AT MOST 1048576: true; the input reads as it did. -/
def trieKnownUptoRow : OpenClaim := { program := "ytabbabkmojaoaaa", sum := "76a264f85a51d9633339999c1c6473b785f789298d8b0ce54d2389a4e312b165", func := "furrow/furrowlaw11.TrieKnown", spec := "trieKnown", unfollowed := true, recurses := true, plainKeys := false, apart := false, narrowed := true }
def TrieKnownUptoSaid : Prop := trieKnownUptoRow.holds Try.pinned (OpenSpec.upto trieKnownSpec)

/-- 'furrowlaw11.TrieReads', WHERE WHAT IT READS IS OF BULK AT MOST 1048576: true; the input reads as it did. -/
def trieReadsUptoRow : OpenClaim := { program := "ytabbabkmojaoaaa", sum := "76a264f85a51d9633339999c1c6473b785f789298d8b0ce54d2389a4e312b165", func := "furrow/furrowlaw11.TrieReads", spec := "trieReads", unfollowed := true, recurses := true, plainKeys := false, apart := false, narrowed := true }
def TrieReadsUptoSaid : Prop := trieReadsUptoRow.holds Try.pinned (OpenSpec.upto trieReadsSpec)

/-- 'furrowlaw11.TrieBuilds', WHERE WHAT IT READS IS OF BULK AT MOST 1048576: true; the input reads as it did. -/
def trieBuildsUptoRow : OpenClaim := { program := "ytabbabkmojaoaaa", sum := "76a264f85a51d9633339999c1c6473b785f789298d8b0ce54d2389a4e312b165", func := "furrow/furrowlaw11.TrieBuilds", spec := "trieBuilds", unfollowed := true, recurses := true, plainKeys := false, apart := false, narrowed := true }
def TrieBuildsUptoSaid : Prop := trieBuildsUptoRow.holds Try.pinned (OpenSpec.upto trieBuildsSpec)

/-- 'furrowlaw11.TrieBack', WHERE WHAT IT READS IS OF BULK AT MOST 1048576: true; the input reads as it did. -/
def trieBackUptoRow : OpenClaim := { program := "ytabbabkmojaoaaa", sum := "76a264f85a51d9633339999c1c6473b785f789298d8b0ce54d2389a4e312b165", func := "furrow/furrowlaw11.TrieBack", spec := "trieBack", unfollowed := true, recurses := true, plainKeys := false, apart := false, narrowed := true }
def TrieBackUptoSaid : Prop := trieBackUptoRow.holds Try.pinned (OpenSpec.upto trieBackSpec)

end Rows
end Go.Proofs.Ytabbabkmojaoaaa
