/-
  No cell of these rows narrows 'for every input' (looked for: loops, veiled, ifaces, maps, wideKeys, modest, calm, conditions, laid).
  DERIVED. THE GIVEN ROWS OF THIS SEAT. 8 by the template 'for every input the law returns true; each argument reads behind the call as it read before'; 0 by the template 'total and deterministic' (their statements: YtnnfhldfdiaddaaTotals.lean).
  GIVEN WITH THE SEED: the statements are not yours to turn. If you find one false, say at which input.
  Laid BY PROGRAM, IN A SANDBOX (cutbox-rows.mjs): the forced cells as the released guide's own fill.sh prints them over the translation 5262479ef8bdc117… (all of the seat's roots in one cut). By AI agents, Wed Nov 11 2026. No macro, syntax, notation, axiom, sorry.
-/
import Derived.Test.YtnnfhldfdiaddaaChecked
import GoSem.Claim
import GoSem.ClaimJoined
import GoSem.ClaimMapViews
import Derived.JoinedTies
import Derived.KernelRfl
namespace Go.Proofs.Ytnnfhldfdiaddaa
/- THE CELL 'sum', in the pinned program and in every row, IS THE sha256 OF THE DUMP (.gsa) THAT YtnnfhldfdiaddaaProg.lean LOADS. Nothing in Lean hashes anything: it is a label: what it is worth is what the hold of that sum in a sandbox is worth. -/
noncomputable def Try.pinned : Pinned := { name := "ytnnfhldfdiaddaa", sum := "5262479ef8bdc11706fdb2afc16242106e2ce621fe19af5b159f1cc2c47b34e0", checked := Try.checked }
namespace Rows
def none {H : Type} : Left H := { results := [], args := [] }

/-- 'furrowlaw25.CaretsLeads': WHATEVER THE INPUT: true; the input reads as it did. -/
def caretsLeadsSpec : ChangeSpec := { name := "caretsLeads", fn := fun _ => fun
  | [d] => { results := [.lit (.bool true)], args := [d] }
  | _ => none }
def caretsLeadsRow : OpenClaim := { program := "ytnnfhldfdiaddaa", sum := "5262479ef8bdc11706fdb2afc16242106e2ce621fe19af5b159f1cc2c47b34e0", func := "furrow/furrowlaw25.CaretsLeads", spec := "caretsLeads", apart := false }
def CaretsLeadsSaid : Prop := caretsLeadsRow.holds Try.pinned (OpenSpec.ofChange caretsLeadsSpec)

/-- ITS FALSE NEIGHBOUR: 'it returns false'. Refute it at one input. -/
def caretsLeadsWrong : ChangeSpec := { name := "caretsLeads", fn := fun _ => fun
  | [d] => { results := [.lit (.bool false)], args := [d] }
  | _ => none }
def CaretsLeadsWrongFalsely : Prop := caretsLeadsRow.holds Try.pinned (OpenSpec.ofChange caretsLeadsWrong)

/-- 'furrowlaw25.CaretsEnds': WHATEVER THE INPUT: true; the input reads as it did. -/
def caretsEndsSpec : ChangeSpec := { name := "caretsEnds", fn := fun _ => fun
  | [d] => { results := [.lit (.bool true)], args := [d] }
  | _ => none }
def caretsEndsRow : OpenClaim := { program := "ytnnfhldfdiaddaa", sum := "5262479ef8bdc11706fdb2afc16242106e2ce621fe19af5b159f1cc2c47b34e0", func := "furrow/furrowlaw25.CaretsEnds", spec := "caretsEnds", apart := false }
def CaretsEndsSaid : Prop := caretsEndsRow.holds Try.pinned (OpenSpec.ofChange caretsEndsSpec)

/-- ITS FALSE NEIGHBOUR: 'it returns false'. Refute it at one input. -/
def caretsEndsWrong : ChangeSpec := { name := "caretsEnds", fn := fun _ => fun
  | [d] => { results := [.lit (.bool false)], args := [d] }
  | _ => none }
def CaretsEndsWrongFalsely : Prop := caretsEndsRow.holds Try.pinned (OpenSpec.ofChange caretsEndsWrong)

/-- 'furrowlaw25.CaretsHit': WHATEVER THE INPUT: true; the input reads as it did. -/
def caretsHitSpec : ChangeSpec := { name := "caretsHit", fn := fun _ => fun
  | [d1, d2] => { results := [.lit (.bool true)], args := [d1, d2] }
  | _ => none }
def caretsHitRow : OpenClaim := { program := "ytnnfhldfdiaddaa", sum := "5262479ef8bdc11706fdb2afc16242106e2ce621fe19af5b159f1cc2c47b34e0", func := "furrow/furrowlaw25.CaretsHit", spec := "caretsHit", apart := false }
def CaretsHitSaid : Prop := caretsHitRow.holds Try.pinned (OpenSpec.ofChange caretsHitSpec)

/-- ITS FALSE NEIGHBOUR: 'it returns false'. Refute it at one input. -/
def caretsHitWrong : ChangeSpec := { name := "caretsHit", fn := fun _ => fun
  | [d1, d2] => { results := [.lit (.bool false)], args := [d1, d2] }
  | _ => none }
def CaretsHitWrongFalsely : Prop := caretsHitRow.holds Try.pinned (OpenSpec.ofChange caretsHitWrong)

/-- 'furrowlaw25.CaretsNames': WHATEVER THE INPUT: true; the input reads as it did. -/
def caretsNamesSpec : ChangeSpec := { name := "caretsNames", fn := fun _ => fun
  | [] => { results := [.lit (.bool true)], args := [] }
  | _ => none }
def caretsNamesRow : OpenClaim := { program := "ytnnfhldfdiaddaa", sum := "5262479ef8bdc11706fdb2afc16242106e2ce621fe19af5b159f1cc2c47b34e0", func := "furrow/furrowlaw25.CaretsNames", spec := "caretsNames", apart := false }
def CaretsNamesSaid : Prop := caretsNamesRow.holds Try.pinned (OpenSpec.ofChange caretsNamesSpec)

/-- ITS FALSE NEIGHBOUR: 'it returns false'. Refute it at one input. -/
def caretsNamesWrong : ChangeSpec := { name := "caretsNames", fn := fun _ => fun
  | [] => { results := [.lit (.bool false)], args := [] }
  | _ => none }
def CaretsNamesWrongFalsely : Prop := caretsNamesRow.holds Try.pinned (OpenSpec.ofChange caretsNamesWrong)

/-- 'furrowlaw25.CaretsGone': WHATEVER THE INPUT: true; the input reads as it did. -/
def caretsGoneSpec : ChangeSpec := { name := "caretsGone", fn := fun _ => fun
  | [d1, d2] => { results := [.lit (.bool true)], args := [d1, d2] }
  | _ => none }
def caretsGoneRow : OpenClaim := { program := "ytnnfhldfdiaddaa", sum := "5262479ef8bdc11706fdb2afc16242106e2ce621fe19af5b159f1cc2c47b34e0", func := "furrow/furrowlaw25.CaretsGone", spec := "caretsGone", apart := false }
def CaretsGoneSaid : Prop := caretsGoneRow.holds Try.pinned (OpenSpec.ofChange caretsGoneSpec)

/-- ITS FALSE NEIGHBOUR: 'it returns false'. Refute it at one input. -/
def caretsGoneWrong : ChangeSpec := { name := "caretsGone", fn := fun _ => fun
  | [d1, d2] => { results := [.lit (.bool false)], args := [d1, d2] }
  | _ => none }
def CaretsGoneWrongFalsely : Prop := caretsGoneRow.holds Try.pinned (OpenSpec.ofChange caretsGoneWrong)

/-- 'furrowlaw25.CaretsAcross': WHATEVER THE INPUT: true; the input reads as it did. -/
def caretsAcrossSpec : ChangeSpec := { name := "caretsAcross", fn := fun _ => fun
  | [d] => { results := [.lit (.bool true)], args := [d] }
  | _ => none }
def caretsAcrossRow : OpenClaim := { program := "ytnnfhldfdiaddaa", sum := "5262479ef8bdc11706fdb2afc16242106e2ce621fe19af5b159f1cc2c47b34e0", func := "furrow/furrowlaw25.CaretsAcross", spec := "caretsAcross", apart := false }
def CaretsAcrossSaid : Prop := caretsAcrossRow.holds Try.pinned (OpenSpec.ofChange caretsAcrossSpec)

/-- ITS FALSE NEIGHBOUR: 'it returns false'. Refute it at one input. -/
def caretsAcrossWrong : ChangeSpec := { name := "caretsAcross", fn := fun _ => fun
  | [d] => { results := [.lit (.bool false)], args := [d] }
  | _ => none }
def CaretsAcrossWrongFalsely : Prop := caretsAcrossRow.holds Try.pinned (OpenSpec.ofChange caretsAcrossWrong)

/-- 'furrowlaw25.CaretsTells': WHATEVER THE INPUT: true; the input reads as it did. -/
def caretsTellsSpec : ChangeSpec := { name := "caretsTells", fn := fun _ => fun
  | [d] => { results := [.lit (.bool true)], args := [d] }
  | _ => none }
def caretsTellsRow : OpenClaim := { program := "ytnnfhldfdiaddaa", sum := "5262479ef8bdc11706fdb2afc16242106e2ce621fe19af5b159f1cc2c47b34e0", func := "furrow/furrowlaw25.CaretsTells", spec := "caretsTells", unfollowed := true, recurses := true, apart := false }
def CaretsTellsSaid : Prop := caretsTellsRow.holds Try.pinned (OpenSpec.ofChange caretsTellsSpec)

/-- ITS FALSE NEIGHBOUR: 'it returns false'. Refute it at one input. -/
def caretsTellsWrong : ChangeSpec := { name := "caretsTells", fn := fun _ => fun
  | [d] => { results := [.lit (.bool false)], args := [d] }
  | _ => none }
def CaretsTellsWrongFalsely : Prop := caretsTellsRow.holds Try.pinned (OpenSpec.ofChange caretsTellsWrong)

/-- 'furrowlaw25.CaretsNone': WHATEVER THE INPUT: true; the input reads as it did. -/
def caretsNoneSpec : ChangeSpec := { name := "caretsNone", fn := fun _ => fun
  | [d1, d2] => { results := [.lit (.bool true)], args := [d1, d2] }
  | _ => none }
def caretsNoneRow : OpenClaim := { program := "ytnnfhldfdiaddaa", sum := "5262479ef8bdc11706fdb2afc16242106e2ce621fe19af5b159f1cc2c47b34e0", func := "furrow/furrowlaw25.CaretsNone", spec := "caretsNone", unfollowed := true, recurses := true, apart := false }
def CaretsNoneSaid : Prop := caretsNoneRow.holds Try.pinned (OpenSpec.ofChange caretsNoneSpec)

/-- ITS FALSE NEIGHBOUR: 'it returns false'. Refute it at one input. -/
def caretsNoneWrong : ChangeSpec := { name := "caretsNone", fn := fun _ => fun
  | [d1, d2] => { results := [.lit (.bool false)], args := [d1, d2] }
  | _ => none }
def CaretsNoneWrongFalsely : Prop := caretsNoneRow.holds Try.pinned (OpenSpec.ofChange caretsNoneWrong)

/- THE SECOND FORM. 'bulk': how many values and letters a reading holds, each counted each time it is reached (what is shared counts as often as it is met; a slice's spare places count too). A statement '..UptoSaid' is the law's where the arguments, and the package variables that the reading takes, are together of bulk at most 1048576: NARROWER than '..Said'. Prove '..Said' where nothing that the law and all that it calls make is longer than what came in: it says more and counts as full. Else prove '..UptoSaid'. A law counts once. -/
mutual
def uptoBulk {H : Type} : DataW H → Nat
  | .lit (.string bytes) => bytes.length + 1
  | .lit _ => 1
  | .nil => 1
  | .ptr d => uptoBulk d + 1
  | .slice elems spare => uptoBulkAll elems + uptoBulkAll spare + 1
  | .agg parts => uptoBulkAll parts + 1
  | .iface _ d => uptoBulk d + 1
  | .map entries => uptoBulkEntries entries + 1
  | .held _ => 1
def uptoBulkAll {H : Type} : List (DataW H) → Nat
  | [] => 0
  | d :: r => uptoBulk d + uptoBulkAll r
def uptoBulkEntries {H : Type} : List (Lit × DataW H) → Nat
  | [] => 0
  | x :: r => uptoBulkEntry x + uptoBulkEntries r
def uptoBulkEntry {H : Type} : Lit × DataW H → Nat
  | (.string bytes, d) => bytes.length + uptoBulk d + 1
  | (_, d) => uptoBulk d + 1
 end
def uptoSmall : (H : Type) → List (DataW H) → Bool := fun _ ds => decide (uptoBulkAll ds ≤ 1048576)
def OpenSpec.upto (s : _root_.Go.ChangeSpec) : _root_.Go.OpenSpec := { _root_.Go.OpenSpec.ofChange s with cond := some uptoSmall }

/-- 'furrowlaw25.CaretsLeads', WHERE WHAT IT READS IS OF BULK AT MOST 1048576: true; the input reads as it did. -/
def caretsLeadsUptoRow : OpenClaim := { program := "ytnnfhldfdiaddaa", sum := "5262479ef8bdc11706fdb2afc16242106e2ce621fe19af5b159f1cc2c47b34e0", func := "furrow/furrowlaw25.CaretsLeads", spec := "caretsLeads", apart := false, narrowed := true }
def CaretsLeadsUptoSaid : Prop := caretsLeadsUptoRow.holds Try.pinned (OpenSpec.upto caretsLeadsSpec)

/-- 'furrowlaw25.CaretsEnds', WHERE WHAT IT READS IS OF BULK AT MOST 1048576: true; the input reads as it did. -/
def caretsEndsUptoRow : OpenClaim := { program := "ytnnfhldfdiaddaa", sum := "5262479ef8bdc11706fdb2afc16242106e2ce621fe19af5b159f1cc2c47b34e0", func := "furrow/furrowlaw25.CaretsEnds", spec := "caretsEnds", apart := false, narrowed := true }
def CaretsEndsUptoSaid : Prop := caretsEndsUptoRow.holds Try.pinned (OpenSpec.upto caretsEndsSpec)

/-- 'furrowlaw25.CaretsHit', WHERE WHAT IT READS IS OF BULK AT MOST 1048576: true; the input reads as it did. -/
def caretsHitUptoRow : OpenClaim := { program := "ytnnfhldfdiaddaa", sum := "5262479ef8bdc11706fdb2afc16242106e2ce621fe19af5b159f1cc2c47b34e0", func := "furrow/furrowlaw25.CaretsHit", spec := "caretsHit", apart := false, narrowed := true }
def CaretsHitUptoSaid : Prop := caretsHitUptoRow.holds Try.pinned (OpenSpec.upto caretsHitSpec)

/-- 'furrowlaw25.CaretsNames', WHERE WHAT IT READS IS OF BULK AT MOST 1048576: true; the input reads as it did. -/
def caretsNamesUptoRow : OpenClaim := { program := "ytnnfhldfdiaddaa", sum := "5262479ef8bdc11706fdb2afc16242106e2ce621fe19af5b159f1cc2c47b34e0", func := "furrow/furrowlaw25.CaretsNames", spec := "caretsNames", apart := false, narrowed := true }
def CaretsNamesUptoSaid : Prop := caretsNamesUptoRow.holds Try.pinned (OpenSpec.upto caretsNamesSpec)

/-- 'furrowlaw25.CaretsGone', WHERE WHAT IT READS IS OF BULK AT MOST 1048576: true; the input reads as it did. -/
def caretsGoneUptoRow : OpenClaim := { program := "ytnnfhldfdiaddaa", sum := "5262479ef8bdc11706fdb2afc16242106e2ce621fe19af5b159f1cc2c47b34e0", func := "furrow/furrowlaw25.CaretsGone", spec := "caretsGone", apart := false, narrowed := true }
def CaretsGoneUptoSaid : Prop := caretsGoneUptoRow.holds Try.pinned (OpenSpec.upto caretsGoneSpec)

/-- 'furrowlaw25.CaretsAcross', WHERE WHAT IT READS IS OF BULK AT MOST 1048576: true; the input reads as it did. -/
def caretsAcrossUptoRow : OpenClaim := { program := "ytnnfhldfdiaddaa", sum := "5262479ef8bdc11706fdb2afc16242106e2ce621fe19af5b159f1cc2c47b34e0", func := "furrow/furrowlaw25.CaretsAcross", spec := "caretsAcross", apart := false, narrowed := true }
def CaretsAcrossUptoSaid : Prop := caretsAcrossUptoRow.holds Try.pinned (OpenSpec.upto caretsAcrossSpec)

/-- 'furrowlaw25.CaretsTells', WHERE WHAT IT READS IS OF BULK AT MOST 1048576: true; the input reads as it did. -/
def caretsTellsUptoRow : OpenClaim := { program := "ytnnfhldfdiaddaa", sum := "5262479ef8bdc11706fdb2afc16242106e2ce621fe19af5b159f1cc2c47b34e0", func := "furrow/furrowlaw25.CaretsTells", spec := "caretsTells", unfollowed := true, recurses := true, apart := false, narrowed := true }
def CaretsTellsUptoSaid : Prop := caretsTellsUptoRow.holds Try.pinned (OpenSpec.upto caretsTellsSpec)

/-- 'furrowlaw25.CaretsNone', WHERE WHAT IT READS IS OF BULK AT MOST 1048576: true; the input reads as it did. -/
def caretsNoneUptoRow : OpenClaim := { program := "ytnnfhldfdiaddaa", sum := "5262479ef8bdc11706fdb2afc16242106e2ce621fe19af5b159f1cc2c47b34e0", func := "furrow/furrowlaw25.CaretsNone", spec := "caretsNone", unfollowed := true, recurses := true, apart := false, narrowed := true }
def CaretsNoneUptoSaid : Prop := caretsNoneUptoRow.holds Try.pinned (OpenSpec.upto caretsNoneSpec)

end Rows
end Go.Proofs.Ytnnfhldfdiaddaa
