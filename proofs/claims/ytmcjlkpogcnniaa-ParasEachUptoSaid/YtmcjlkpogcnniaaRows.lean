/-
  No cell of these rows narrows 'for every input' (looked for: loops, veiled, ifaces, maps, wideKeys, modest, calm, conditions, laid).
  DERIVED. THE GIVEN ROWS OF THIS SEAT. 11 by the template 'for every input the law returns true; each argument reads behind the call as it read before'; 0 by the template 'total and deterministic' (their statements: YtmcjlkpogcnniaaTotals.lean).
  GIVEN WITH THE SEED: the statements are not yours to turn. If you find one false, say at which input.
  Laid BY PROGRAM, IN A SANDBOX (cutbox-rows.mjs): the forced cells as the released guide's own fill.sh prints them over the translation 2e64d3e84378b319… (all of the seat's roots in one cut). By AI agents, Wed Nov 11 2026. No macro, syntax, notation, axiom, sorry.
-/
import Derived.Test.YtmcjlkpogcnniaaChecked
import GoSem.Claim
import GoSem.ClaimJoined
import GoSem.ClaimMapViews
import Derived.JoinedTies
import Derived.KernelRfl
namespace Go.Proofs.Ytmcjlkpogcnniaa
/- THE CELL 'sum', in the pinned program and in every row, IS THE sha256 OF THE DUMP (.gsa) THAT YtmcjlkpogcnniaaProg.lean LOADS. Nothing in Lean hashes anything: it is a label: what it is worth is what the hold of that sum in a sandbox is worth. -/
noncomputable def Try.pinned : Pinned := { name := "ytmcjlkpogcnniaa", sum := "2e64d3e84378b319284984ea6bbb2eff396b15ff886b87cb6edf5222b45faa6c", checked := Try.checked }
namespace Rows
def none {H : Type} : Left H := { results := [], args := [] }

/-- 'furrowlaw15.ParasClasses': WHATEVER THE INPUT: true; the input reads as it did. -/
def parasClassesSpec : ChangeSpec := { name := "parasClasses", fn := fun _ => fun
  | [d1, d2, d3] => { results := [.lit (.bool true)], args := [d1, d2, d3] }
  | _ => none }
def parasClassesRow : OpenClaim := { program := "ytmcjlkpogcnniaa", sum := "2e64d3e84378b319284984ea6bbb2eff396b15ff886b87cb6edf5222b45faa6c", func := "furrow/furrowlaw15.ParasClasses", spec := "parasClasses", unfollowed := true, recurses := true, apart := false }
def ParasClassesSaid : Prop := parasClassesRow.holds Try.pinned (OpenSpec.ofChange parasClassesSpec)

/-- ITS FALSE NEIGHBOUR: 'it returns false'. Refute it at one input. -/
def parasClassesWrong : ChangeSpec := { name := "parasClasses", fn := fun _ => fun
  | [d1, d2, d3] => { results := [.lit (.bool false)], args := [d1, d2, d3] }
  | _ => none }
def ParasClassesWrongFalsely : Prop := parasClassesRow.holds Try.pinned (OpenSpec.ofChange parasClassesWrong)

/-- 'furrowlaw15.ParasSplits': WHATEVER THE INPUT: true; the input reads as it did. -/
def parasSplitsSpec : ChangeSpec := { name := "parasSplits", fn := fun _ => fun
  | [d1, d2] => { results := [.lit (.bool true)], args := [d1, d2] }
  | _ => none }
def parasSplitsRow : OpenClaim := { program := "ytmcjlkpogcnniaa", sum := "2e64d3e84378b319284984ea6bbb2eff396b15ff886b87cb6edf5222b45faa6c", func := "furrow/furrowlaw15.ParasSplits", spec := "parasSplits", unfollowed := true, recurses := true, apart := false }
def ParasSplitsSaid : Prop := parasSplitsRow.holds Try.pinned (OpenSpec.ofChange parasSplitsSpec)

/-- ITS FALSE NEIGHBOUR: 'it returns false'. Refute it at one input. -/
def parasSplitsWrong : ChangeSpec := { name := "parasSplits", fn := fun _ => fun
  | [d1, d2] => { results := [.lit (.bool false)], args := [d1, d2] }
  | _ => none }
def ParasSplitsWrongFalsely : Prop := parasSplitsRow.holds Try.pinned (OpenSpec.ofChange parasSplitsWrong)

/-- 'furrowlaw15.ParasMatches': WHATEVER THE INPUT: true; the input reads as it did. -/
def parasMatchesSpec : ChangeSpec := { name := "parasMatches", fn := fun _ => fun
  | [d] => { results := [.lit (.bool true)], args := [d] }
  | _ => none }
def parasMatchesRow : OpenClaim := { program := "ytmcjlkpogcnniaa", sum := "2e64d3e84378b319284984ea6bbb2eff396b15ff886b87cb6edf5222b45faa6c", func := "furrow/furrowlaw15.ParasMatches", spec := "parasMatches", unfollowed := true, recurses := true, apart := false }
def ParasMatchesSaid : Prop := parasMatchesRow.holds Try.pinned (OpenSpec.ofChange parasMatchesSpec)

/-- ITS FALSE NEIGHBOUR: 'it returns false'. Refute it at one input. -/
def parasMatchesWrong : ChangeSpec := { name := "parasMatches", fn := fun _ => fun
  | [d] => { results := [.lit (.bool false)], args := [d] }
  | _ => none }
def ParasMatchesWrongFalsely : Prop := parasMatchesRow.holds Try.pinned (OpenSpec.ofChange parasMatchesWrong)

/-- 'furrowlaw15.ParasFirsts': WHATEVER THE INPUT: true; the input reads as it did. -/
def parasFirstsSpec : ChangeSpec := { name := "parasFirsts", fn := fun _ => fun
  | [d1, d2] => { results := [.lit (.bool true)], args := [d1, d2] }
  | _ => none }
def parasFirstsRow : OpenClaim := { program := "ytmcjlkpogcnniaa", sum := "2e64d3e84378b319284984ea6bbb2eff396b15ff886b87cb6edf5222b45faa6c", func := "furrow/furrowlaw15.ParasFirsts", spec := "parasFirsts", unfollowed := true, recurses := true, apart := false }
def ParasFirstsSaid : Prop := parasFirstsRow.holds Try.pinned (OpenSpec.ofChange parasFirstsSpec)

/-- ITS FALSE NEIGHBOUR: 'it returns false'. Refute it at one input. -/
def parasFirstsWrong : ChangeSpec := { name := "parasFirsts", fn := fun _ => fun
  | [d1, d2] => { results := [.lit (.bool false)], args := [d1, d2] }
  | _ => none }
def ParasFirstsWrongFalsely : Prop := parasFirstsRow.holds Try.pinned (OpenSpec.ofChange parasFirstsWrong)

/-- 'furrowlaw15.ParasLevels': WHATEVER THE INPUT: true; the input reads as it did. -/
def parasLevelsSpec : ChangeSpec := { name := "parasLevels", fn := fun _ => fun
  | [d1, d2] => { results := [.lit (.bool true)], args := [d1, d2] }
  | _ => none }
def parasLevelsRow : OpenClaim := { program := "ytmcjlkpogcnniaa", sum := "2e64d3e84378b319284984ea6bbb2eff396b15ff886b87cb6edf5222b45faa6c", func := "furrow/furrowlaw15.ParasLevels", spec := "parasLevels", unfollowed := true, recurses := true, apart := false }
def ParasLevelsSaid : Prop := parasLevelsRow.holds Try.pinned (OpenSpec.ofChange parasLevelsSpec)

/-- ITS FALSE NEIGHBOUR: 'it returns false'. Refute it at one input. -/
def parasLevelsWrong : ChangeSpec := { name := "parasLevels", fn := fun _ => fun
  | [d1, d2] => { results := [.lit (.bool false)], args := [d1, d2] }
  | _ => none }
def ParasLevelsWrongFalsely : Prop := parasLevelsRow.holds Try.pinned (OpenSpec.ofChange parasLevelsWrong)

/-- 'furrowlaw15.ParasCut': WHATEVER THE INPUT: true; the input reads as it did. -/
def parasCutSpec : ChangeSpec := { name := "parasCut", fn := fun _ => fun
  | [d1, d2] => { results := [.lit (.bool true)], args := [d1, d2] }
  | _ => none }
def parasCutRow : OpenClaim := { program := "ytmcjlkpogcnniaa", sum := "2e64d3e84378b319284984ea6bbb2eff396b15ff886b87cb6edf5222b45faa6c", func := "furrow/furrowlaw15.ParasCut", spec := "parasCut", unfollowed := true, recurses := true, apart := false }
def ParasCutSaid : Prop := parasCutRow.holds Try.pinned (OpenSpec.ofChange parasCutSpec)

/-- ITS FALSE NEIGHBOUR: 'it returns false'. Refute it at one input. -/
def parasCutWrong : ChangeSpec := { name := "parasCut", fn := fun _ => fun
  | [d1, d2] => { results := [.lit (.bool false)], args := [d1, d2] }
  | _ => none }
def ParasCutWrongFalsely : Prop := parasCutRow.holds Try.pinned (OpenSpec.ofChange parasCutWrong)

/-- 'furrowlaw15.ParasPairs': WHATEVER THE INPUT: true; the input reads as it did. -/
def parasPairsSpec : ChangeSpec := { name := "parasPairs", fn := fun _ => fun
  | [d] => { results := [.lit (.bool true)], args := [d] }
  | _ => none }
def parasPairsRow : OpenClaim := { program := "ytmcjlkpogcnniaa", sum := "2e64d3e84378b319284984ea6bbb2eff396b15ff886b87cb6edf5222b45faa6c", func := "furrow/furrowlaw15.ParasPairs", spec := "parasPairs", unfollowed := true, recurses := true, apart := false }
def ParasPairsSaid : Prop := parasPairsRow.holds Try.pinned (OpenSpec.ofChange parasPairsSpec)

/-- ITS FALSE NEIGHBOUR: 'it returns false'. Refute it at one input. -/
def parasPairsWrong : ChangeSpec := { name := "parasPairs", fn := fun _ => fun
  | [d] => { results := [.lit (.bool false)], args := [d] }
  | _ => none }
def ParasPairsWrongFalsely : Prop := parasPairsRow.holds Try.pinned (OpenSpec.ofChange parasPairsWrong)

/-- 'furrowlaw15.ParasWithin': WHATEVER THE INPUT: true; the input reads as it did. -/
def parasWithinSpec : ChangeSpec := { name := "parasWithin", fn := fun _ => fun
  | [d1, d2, d3, d4, d5, d6] => { results := [.lit (.bool true)], args := [d1, d2, d3, d4, d5, d6] }
  | _ => none }
def parasWithinRow : OpenClaim := { program := "ytmcjlkpogcnniaa", sum := "2e64d3e84378b319284984ea6bbb2eff396b15ff886b87cb6edf5222b45faa6c", func := "furrow/furrowlaw15.ParasWithin", spec := "parasWithin", unfollowed := true, recurses := true, apart := false }
def ParasWithinSaid : Prop := parasWithinRow.holds Try.pinned (OpenSpec.ofChange parasWithinSpec)

/-- ITS FALSE NEIGHBOUR: 'it returns false'. Refute it at one input. -/
def parasWithinWrong : ChangeSpec := { name := "parasWithin", fn := fun _ => fun
  | [d1, d2, d3, d4, d5, d6] => { results := [.lit (.bool false)], args := [d1, d2, d3, d4, d5, d6] }
  | _ => none }
def ParasWithinWrongFalsely : Prop := parasWithinRow.holds Try.pinned (OpenSpec.ofChange parasWithinWrong)

/-- 'furrowlaw15.ParasNames': WHATEVER THE INPUT: true; the input reads as it did. -/
def parasNamesSpec : ChangeSpec := { name := "parasNames", fn := fun _ => fun
  | [] => { results := [.lit (.bool true)], args := [] }
  | _ => none }
def parasNamesRow : OpenClaim := { program := "ytmcjlkpogcnniaa", sum := "2e64d3e84378b319284984ea6bbb2eff396b15ff886b87cb6edf5222b45faa6c", func := "furrow/furrowlaw15.ParasNames", spec := "parasNames", unfollowed := true, recurses := true, apart := false }
def ParasNamesSaid : Prop := parasNamesRow.holds Try.pinned (OpenSpec.ofChange parasNamesSpec)

/-- ITS FALSE NEIGHBOUR: 'it returns false'. Refute it at one input. -/
def parasNamesWrong : ChangeSpec := { name := "parasNames", fn := fun _ => fun
  | [] => { results := [.lit (.bool false)], args := [] }
  | _ => none }
def ParasNamesWrongFalsely : Prop := parasNamesRow.holds Try.pinned (OpenSpec.ofChange parasNamesWrong)

/-- 'furrowlaw15.ParasEach': WHATEVER THE INPUT: true; the input reads as it did. -/
def parasEachSpec : ChangeSpec := { name := "parasEach", fn := fun _ => fun
  | [d1, d2, d3] => { results := [.lit (.bool true)], args := [d1, d2, d3] }
  | _ => none }
def parasEachRow : OpenClaim := { program := "ytmcjlkpogcnniaa", sum := "2e64d3e84378b319284984ea6bbb2eff396b15ff886b87cb6edf5222b45faa6c", func := "furrow/furrowlaw15.ParasEach", spec := "parasEach", unfollowed := true, recurses := true, apart := false }
def ParasEachSaid : Prop := parasEachRow.holds Try.pinned (OpenSpec.ofChange parasEachSpec)

/-- ITS FALSE NEIGHBOUR: 'it returns false'. Refute it at one input. -/
def parasEachWrong : ChangeSpec := { name := "parasEach", fn := fun _ => fun
  | [d1, d2, d3] => { results := [.lit (.bool false)], args := [d1, d2, d3] }
  | _ => none }
def ParasEachWrongFalsely : Prop := parasEachRow.holds Try.pinned (OpenSpec.ofChange parasEachWrong)

/-- 'furrowlaw15.ParasBytes': WHATEVER THE INPUT: true; the input reads as it did. -/
def parasBytesSpec : ChangeSpec := { name := "parasBytes", fn := fun _ => fun
  | [d1, d2] => { results := [.lit (.bool true)], args := [d1, d2] }
  | _ => none }
def parasBytesRow : OpenClaim := { program := "ytmcjlkpogcnniaa", sum := "2e64d3e84378b319284984ea6bbb2eff396b15ff886b87cb6edf5222b45faa6c", func := "furrow/furrowlaw15.ParasBytes", spec := "parasBytes", unfollowed := true, recurses := true, apart := false }
def ParasBytesSaid : Prop := parasBytesRow.holds Try.pinned (OpenSpec.ofChange parasBytesSpec)

/-- ITS FALSE NEIGHBOUR: 'it returns false'. Refute it at one input. -/
def parasBytesWrong : ChangeSpec := { name := "parasBytes", fn := fun _ => fun
  | [d1, d2] => { results := [.lit (.bool false)], args := [d1, d2] }
  | _ => none }
def ParasBytesWrongFalsely : Prop := parasBytesRow.holds Try.pinned (OpenSpec.ofChange parasBytesWrong)

/- THE SECOND FORM. 'bulk': how many values and letters a reading holds, each counted each time it is reached (what is shared counts as often as it is met; a slice's spare places count too). A statement '..UptoSaid' is the law's where the arguments, and the package variables that the reading takes, are together of bulk at most 1048576: NARROWER than '..Said'. Prove '..Said' where nothing that the law and all that it calls make is longer than what came in: it says more and counts as full. Else prove '..UptoSaid'. A law counts once. -/
mutual
def uptoBulk {H : Type} : DataW H → Nat
  | .lit (.string bytes) => bytes.length + 1
  | .lit _ => 1
  | .nil => 1
  | .ptr d => uptoBulk d + 1
  | .slice elems spare => uptoBulkAll elems + uptoBulkAll spare + 1
  | .agg parts => uptoBulkAll parts + 1
  | .iface _ d => uptoBulk d + 1
  | .map entries => uptoBulkEntries entries + 1
  | .held _ => 1
def uptoBulkAll {H : Type} : List (DataW H) → Nat
  | [] => 0
  | d :: r => uptoBulk d + uptoBulkAll r
def uptoBulkEntries {H : Type} : List (Lit × DataW H) → Nat
  | [] => 0
  | x :: r => uptoBulkEntry x + uptoBulkEntries r
def uptoBulkEntry {H : Type} : Lit × DataW H → Nat
  | (.string bytes, d) => bytes.length + uptoBulk d + 1
  | (_, d) => uptoBulk d + 1
 end
def uptoSmall : (H : Type) → List (DataW H) → Bool := fun _ ds => decide (uptoBulkAll ds ≤ 1048576)
def OpenSpec.upto (s : _root_.Go.ChangeSpec) : _root_.Go.OpenSpec := { _root_.Go.OpenSpec.ofChange s with cond := some uptoSmall }

/-- 'furrowlaw15.ParasClasses', WHERE WHAT IT READS IS OF BULK AT MOST 1048576: true; the input reads as it did. -/
def parasClassesUptoRow : OpenClaim := { program := "ytmcjlkpogcnniaa", sum := "2e64d3e84378b319284984ea6bbb2eff396b15ff886b87cb6edf5222b45faa6c", func := "furrow/furrowlaw15.ParasClasses", spec := "parasClasses", unfollowed := true, recurses := true, apart := false, narrowed := true }
def ParasClassesUptoSaid : Prop := parasClassesUptoRow.holds Try.pinned (OpenSpec.upto parasClassesSpec)

/-- 'furrowlaw15.ParasSplits', WHERE WHAT IT READS IS OF BULK AT MOST 1048576: true; the input reads as it did. -/
def parasSplitsUptoRow : OpenClaim := { program := "ytmcjlkpogcnniaa", sum := "2e64d3e84378b319284984ea6bbb2eff396b15ff886b87cb6edf5222b45faa6c", func := "furrow/furrowlaw15.ParasSplits", spec := "parasSplits", unfollowed := true, recurses := true, apart := false, narrowed := true }
def ParasSplitsUptoSaid : Prop := parasSplitsUptoRow.holds Try.pinned (OpenSpec.upto parasSplitsSpec)

/-- 'furrowlaw15.ParasMatches', WHERE WHAT IT READS IS OF BULK AT MOST 1048576: true; the input reads as it did. -/
def parasMatchesUptoRow : OpenClaim := { program := "ytmcjlkpogcnniaa", sum := "2e64d3e84378b319284984ea6bbb2eff396b15ff886b87cb6edf5222b45faa6c", func := "furrow/furrowlaw15.ParasMatches", spec := "parasMatches", unfollowed := true, recurses := true, apart := false, narrowed := true }
def ParasMatchesUptoSaid : Prop := parasMatchesUptoRow.holds Try.pinned (OpenSpec.upto parasMatchesSpec)

/-- 'furrowlaw15.ParasFirsts', WHERE WHAT IT READS IS OF BULK AT MOST 1048576: true; the input reads as it did. -/
def parasFirstsUptoRow : OpenClaim := { program := "ytmcjlkpogcnniaa", sum := "2e64d3e84378b319284984ea6bbb2eff396b15ff886b87cb6edf5222b45faa6c", func := "furrow/furrowlaw15.ParasFirsts", spec := "parasFirsts", unfollowed := true, recurses := true, apart := false, narrowed := true }
def ParasFirstsUptoSaid : Prop := parasFirstsUptoRow.holds Try.pinned (OpenSpec.upto parasFirstsSpec)

/-- 'furrowlaw15.ParasLevels', WHERE WHAT IT READS IS OF BULK AT MOST 1048576: true; the input reads as it did. -/
def parasLevelsUptoRow : OpenClaim := { program := "ytmcjlkpogcnniaa", sum := "2e64d3e84378b319284984ea6bbb2eff396b15ff886b87cb6edf5222b45faa6c", func := "furrow/furrowlaw15.ParasLevels", spec := "parasLevels", unfollowed := true, recurses := true, apart := false, narrowed := true }
def ParasLevelsUptoSaid : Prop := parasLevelsUptoRow.holds Try.pinned (OpenSpec.upto parasLevelsSpec)

/-- 'furrowlaw15.ParasCut', WHERE WHAT IT READS IS OF BULK AT MOST 1048576: true; the input reads as it did. -/
def parasCutUptoRow : OpenClaim := { program := "ytmcjlkpogcnniaa", sum := "2e64d3e84378b319284984ea6bbb2eff396b15ff886b87cb6edf5222b45faa6c", func := "furrow/furrowlaw15.ParasCut", spec := "parasCut", unfollowed := true, recurses := true, apart := false, narrowed := true }
def ParasCutUptoSaid : Prop := parasCutUptoRow.holds Try.pinned (OpenSpec.upto parasCutSpec)

/-- 'furrowlaw15.ParasPairs', WHERE WHAT IT READS IS OF BULK AT MOST 1048576: true; the input reads as it did. -/
def parasPairsUptoRow : OpenClaim := { program := "ytmcjlkpogcnniaa", sum := "2e64d3e84378b319284984ea6bbb2eff396b15ff886b87cb6edf5222b45faa6c", func := "furrow/furrowlaw15.ParasPairs", spec := "parasPairs", unfollowed := true, recurses := true, apart := false, narrowed := true }
def ParasPairsUptoSaid : Prop := parasPairsUptoRow.holds Try.pinned (OpenSpec.upto parasPairsSpec)

/-- 'furrowlaw15.ParasWithin', WHERE WHAT IT READS IS OF BULK AT MOST 1048576: true; the input reads as it did. -/
def parasWithinUptoRow : OpenClaim := { program := "ytmcjlkpogcnniaa", sum := "2e64d3e84378b319284984ea6bbb2eff396b15ff886b87cb6edf5222b45faa6c", func := "furrow/furrowlaw15.ParasWithin", spec := "parasWithin", unfollowed := true, recurses := true, apart := false, narrowed := true }
def ParasWithinUptoSaid : Prop := parasWithinUptoRow.holds Try.pinned (OpenSpec.upto parasWithinSpec)

/-- 'furrowlaw15.ParasNames', WHERE WHAT IT READS IS OF BULK AT MOST 1048576: true; the input reads as it did. -/
def parasNamesUptoRow : OpenClaim := { program := "ytmcjlkpogcnniaa", sum := "2e64d3e84378b319284984ea6bbb2eff396b15ff886b87cb6edf5222b45faa6c", func := "furrow/furrowlaw15.ParasNames", spec := "parasNames", unfollowed := true, recurses := true, apart := false, narrowed := true }
def ParasNamesUptoSaid : Prop := parasNamesUptoRow.holds Try.pinned (OpenSpec.upto parasNamesSpec)

/-- 'furrowlaw15.ParasEach', WHERE WHAT IT READS IS OF BULK AT MOST 1048576: true; the input reads as it did. -/
def parasEachUptoRow : OpenClaim := { program := "ytmcjlkpogcnniaa", sum := "2e64d3e84378b319284984ea6bbb2eff396b15ff886b87cb6edf5222b45faa6c", func := "furrow/furrowlaw15.ParasEach", spec := "parasEach", unfollowed := true, recurses := true, apart := false, narrowed := true }
def ParasEachUptoSaid : Prop := parasEachUptoRow.holds Try.pinned (OpenSpec.upto parasEachSpec)

/-- 'furrowlaw15.ParasBytes', WHERE WHAT IT READS IS OF BULK AT MOST 1048576: true; the input reads as it did. -/
def parasBytesUptoRow : OpenClaim := { program := "ytmcjlkpogcnniaa", sum := "2e64d3e84378b319284984ea6bbb2eff396b15ff886b87cb6edf5222b45faa6c", func := "furrow/furrowlaw15.ParasBytes", spec := "parasBytes", unfollowed := true, recurses := true, apart := false, narrowed := true }
def ParasBytesUptoSaid : Prop := parasBytesUptoRow.holds Try.pinned (OpenSpec.upto parasBytesSpec)

end Rows
end Go.Proofs.Ytmcjlkpogcnniaa
