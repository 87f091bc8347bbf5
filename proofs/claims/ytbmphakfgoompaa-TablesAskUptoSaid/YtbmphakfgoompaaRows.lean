/-
  No cell of these rows narrows 'for every input' (looked for: loops, veiled, ifaces, maps, wideKeys, modest, calm, conditions, laid).
  DERIVED. THE GIVEN ROWS OF THIS SEAT. 5 by the template 'for every input the law returns true; each argument reads behind the call as it read before'; 0 by the template 'total and deterministic' (their statements: YtbmphakfgoompaaTotals.lean).
  GIVEN WITH THE SEED: the statements are not yours to turn. If you find one false, say at which input.
  Laid BY PROGRAM, IN A SANDBOX (cutbox-rows.mjs): the forced cells as the released guide's own fill.sh prints them over the translation 698b6f731dd9261c… (all of the seat's roots in one cut). By AI agents, Wed Nov 11 2026. No macro, syntax, notation, axiom, sorry.
-/
import Derived.Test.YtbmphakfgoompaaChecked
import GoSem.Claim
import GoSem.ClaimJoined
import GoSem.ClaimMapViews
import Derived.JoinedTies
import Derived.KernelRfl
namespace Go.Proofs.Ytbmphakfgoompaa
/- THE CELL 'sum', in the pinned program and in every row, IS THE sha256 OF THE DUMP (.gsa) THAT YtbmphakfgoompaaProg.lean LOADS. Nothing in Lean hashes anything: it is a label: what it is worth is what the hold of that sum in a sandbox is worth. -/
noncomputable def Try.pinned : Pinned := { name := "ytbmphakfgoompaa", sum := "698b6f731dd9261c303f8c47a88cd37d97a6829eb453c58d4fb0818301467711", checked := Try.checked }
namespace Rows
def none {H : Type} : Left H := { results := [], args := [] }

/-- 'furrowlaw14.TablesKnown': WHATEVER THE INPUT: true; the input reads as it did. -/
def tablesKnownSpec : ChangeSpec := { name := "tablesKnown", fn := fun _ => fun
  | [] => { results := [.lit (.bool true)], args := [] }
  | _ => none }
def tablesKnownRow : OpenClaim := { program := "ytbmphakfgoompaa", sum := "698b6f731dd9261c303f8c47a88cd37d97a6829eb453c58d4fb0818301467711", func := "furrow/furrowlaw14.TablesKnown", spec := "tablesKnown", unfollowed := true, recurses := true, plainKeys := false, apart := false }
def TablesKnownSaid : Prop := tablesKnownRow.holds Try.pinned (OpenSpec.ofChange tablesKnownSpec)

/-- ITS FALSE NEIGHBOUR: 'it returns false'. Refute it at one input. -/
def tablesKnownWrong : ChangeSpec := { name := "tablesKnown", fn := fun _ => fun
  | [] => { results := [.lit (.bool false)], args := [] }
  | _ => none }
def TablesKnownWrongFalsely : Prop := tablesKnownRow.holds Try.pinned (OpenSpec.ofChange tablesKnownWrong)

/-- 'furrowlaw14.TablesAsk': WHATEVER THE INPUT: true; the input reads as it did. -/
def tablesAskSpec : ChangeSpec := { name := "tablesAsk", fn := fun _ => fun
  | [d1, d2, d3] => { results := [.lit (.bool true)], args := [d1, d2, d3] }
  | _ => none }
def tablesAskRow : OpenClaim := { program := "ytbmphakfgoompaa", sum := "698b6f731dd9261c303f8c47a88cd37d97a6829eb453c58d4fb0818301467711", func := "furrow/furrowlaw14.TablesAsk", spec := "tablesAsk", unfollowed := true, recurses := true, plainKeys := false, apart := false }
def TablesAskSaid : Prop := tablesAskRow.holds Try.pinned (OpenSpec.ofChange tablesAskSpec)

/-- ITS FALSE NEIGHBOUR: 'it returns false'. Refute it at one input. -/
def tablesAskWrong : ChangeSpec := { name := "tablesAsk", fn := fun _ => fun
  | [d1, d2, d3] => { results := [.lit (.bool false)], args := [d1, d2, d3] }
  | _ => none }
def TablesAskWrongFalsely : Prop := tablesAskRow.holds Try.pinned (OpenSpec.ofChange tablesAskWrong)

/-- 'furrowlaw14.TablesMay': WHATEVER THE INPUT: true; the input reads as it did. -/
def tablesMaySpec : ChangeSpec := { name := "tablesMay", fn := fun _ => fun
  | [d1, d2] => { results := [.lit (.bool true)], args := [d1, d2] }
  | _ => none }
def tablesMayRow : OpenClaim := { program := "ytbmphakfgoompaa", sum := "698b6f731dd9261c303f8c47a88cd37d97a6829eb453c58d4fb0818301467711", func := "furrow/furrowlaw14.TablesMay", spec := "tablesMay", unfollowed := true, recurses := true, plainKeys := false, apart := false }
def TablesMaySaid : Prop := tablesMayRow.holds Try.pinned (OpenSpec.ofChange tablesMaySpec)

/-- ITS FALSE NEIGHBOUR: 'it returns false'. Refute it at one input. -/
def tablesMayWrong : ChangeSpec := { name := "tablesMay", fn := fun _ => fun
  | [d1, d2] => { results := [.lit (.bool false)], args := [d1, d2] }
  | _ => none }
def TablesMayWrongFalsely : Prop := tablesMayRow.holds Try.pinned (OpenSpec.ofChange tablesMayWrong)

/-- 'furrowlaw14.TablesOne': WHATEVER THE INPUT: true; the input reads as it did. -/
def tablesOneSpec : ChangeSpec := { name := "tablesOne", fn := fun _ => fun
  | [d] => { results := [.lit (.bool true)], args := [d] }
  | _ => none }
def tablesOneRow : OpenClaim := { program := "ytbmphakfgoompaa", sum := "698b6f731dd9261c303f8c47a88cd37d97a6829eb453c58d4fb0818301467711", func := "furrow/furrowlaw14.TablesOne", spec := "tablesOne", unfollowed := true, recurses := true, plainKeys := false, apart := false }
def TablesOneSaid : Prop := tablesOneRow.holds Try.pinned (OpenSpec.ofChange tablesOneSpec)

/-- ITS FALSE NEIGHBOUR: 'it returns false'. Refute it at one input. -/
def tablesOneWrong : ChangeSpec := { name := "tablesOne", fn := fun _ => fun
  | [d] => { results := [.lit (.bool false)], args := [d] }
  | _ => none }
def TablesOneWrongFalsely : Prop := tablesOneRow.holds Try.pinned (OpenSpec.ofChange tablesOneWrong)

/-- 'furrowlaw14.TablesNil': WHATEVER THE INPUT: true; the input reads as it did. -/
def tablesNilSpec : ChangeSpec := { name := "tablesNil", fn := fun _ => fun
  | [d1, d2] => { results := [.lit (.bool true)], args := [d1, d2] }
  | _ => none }
def tablesNilRow : OpenClaim := { program := "ytbmphakfgoompaa", sum := "698b6f731dd9261c303f8c47a88cd37d97a6829eb453c58d4fb0818301467711", func := "furrow/furrowlaw14.TablesNil", spec := "tablesNil", unfollowed := true, recurses := true, plainKeys := false, apart := false }
def TablesNilSaid : Prop := tablesNilRow.holds Try.pinned (OpenSpec.ofChange tablesNilSpec)

/-- ITS FALSE NEIGHBOUR: 'it returns false'. Refute it at one input. -/
def tablesNilWrong : ChangeSpec := { name := "tablesNil", fn := fun _ => fun
  | [d1, d2] => { results := [.lit (.bool false)], args := [d1, d2] }
  | _ => none }
def TablesNilWrongFalsely : Prop := tablesNilRow.holds Try.pinned (OpenSpec.ofChange tablesNilWrong)

/- THE SECOND FORM. 'bulk': how many values and letters a reading holds, each counted each time it is reached (what is shared counts as often as it is met; a slice's spare places count too). A statement '..UptoSaid' is the law's where the arguments, and the package variables that the reading takes, are together of bulk at most 1048576: NARROWER than '..Said'. Prove '..Said' where nothing that the law and all that it calls make is longer than what came in: it says more and counts as full. Else prove '..UptoSaid'. A law counts once. -/
mutual
def uptoBulk {H : Type} : DataW H → Nat
  | .lit (.string bytes) => bytes.length + 1
  | .lit _ => 1
  | .nil => 1
  | .ptr d => uptoBulk d + 1
  | .slice elems spare => uptoBulkAll elems + uptoBulkAll spare + 1
  | .agg parts => uptoBulkAll parts + 1
  | .iface _ d => uptoBulk d + 1
  | .map entries => uptoBulkEntries entries + 1
  | .held _ => 1
def uptoBulkAll {H : Type} : List (DataW H) → Nat
  | [] => 0
  | d :: r => uptoBulk d + uptoBulkAll r
def uptoBulkEntries {H : Type} : List (Lit × DataW H) → Nat
  | [] => 0
  | x :: r => uptoBulkEntry x + uptoBulkEntries r
def uptoBulkEntry {H : Type} : Lit × DataW H → Nat
  | (.string bytes, d) => bytes.length + uptoBulk d + 1
  | (_, d) => uptoBulk d + 1
 end
def uptoSmall : (H : Type) → List (DataW H) → Bool := fun _ ds => decide (uptoBulkAll ds ≤ 1048576)
def OpenSpec.upto (s : _root_.Go.ChangeSpec) : _root_.Go.OpenSpec := { _root_.Go.OpenSpec.ofChange s with cond := some uptoSmall }

/-- 'furrowlaw14.TablesKnown', WHERE WHAT IT READS IS OF BULK AT MOST 1048576: true; the input reads as it did. -/
def tablesKnownUptoRow : OpenClaim := { program := "ytbmphakfgoompaa", sum := "698b6f731dd9261c303f8c47a88cd37d97a6829eb453c58d4fb0818301467711", func := "furrow/furrowlaw14.TablesKnown", spec := "tablesKnown", unfollowed := true, recurses := true, plainKeys := false, apart := false, narrowed := true }
def TablesKnownUptoSaid : Prop := tablesKnownUptoRow.holds Try.pinned (OpenSpec.upto tablesKnownSpec)

/-- 'furrowlaw14.TablesAsk', WHERE WHAT IT READS IS OF BULK AT MOST 1048576: true; the input reads as it did. -/
def tablesAskUptoRow : OpenClaim := { program := "ytbmphakfgoompaa", sum := "698b6f731dd9261c303f8c47a88cd37d97a6829eb453c58d4fb0818301467711", func := "furrow/furrowlaw14.TablesAsk", spec := "tablesAsk", unfollowed := true, recurses := true, plainKeys := false, apart := false, narrowed := true }
def TablesAskUptoSaid : Prop := tablesAskUptoRow.holds Try.pinned (OpenSpec.upto tablesAskSpec)

/-- 'furrowlaw14.TablesMay', WHERE WHAT IT READS IS OF BULK AT MOST 1048576: true; the input reads as it did. -/
def tablesMayUptoRow : OpenClaim := { program := "ytbmphakfgoompaa", sum := "698b6f731dd9261c303f8c47a88cd37d97a6829eb453c58d4fb0818301467711", func := "furrow/furrowlaw14.TablesMay", spec := "tablesMay", unfollowed := true, recurses := true, plainKeys := false, apart := false, narrowed := true }
def TablesMayUptoSaid : Prop := tablesMayUptoRow.holds Try.pinned (OpenSpec.upto tablesMaySpec)

/-- 'furrowlaw14.TablesOne', WHERE WHAT IT READS IS OF BULK AT MOST 1048576: true; the input reads as it did. -/
def tablesOneUptoRow : OpenClaim := { program := "ytbmphakfgoompaa", sum := "698b6f731dd9261c303f8c47a88cd37d97a6829eb453c58d4fb0818301467711", func := "furrow/furrowlaw14.TablesOne", spec := "tablesOne", unfollowed := true, recurses := true, plainKeys := false, apart := false, narrowed := true }
def TablesOneUptoSaid : Prop := tablesOneUptoRow.holds Try.pinned (OpenSpec.upto tablesOneSpec)

/-- 'furrowlaw14.TablesNil', WHERE WHAT IT READS IS OF BULK AT MOST 1048576: true; the input reads as it did. -/
def tablesNilUptoRow : OpenClaim := { program := "ytbmphakfgoompaa", sum := "698b6f731dd9261c303f8c47a88cd37d97a6829eb453c58d4fb0818301467711", func := "furrow/furrowlaw14.TablesNil", spec := "tablesNil", unfollowed := true, recurses := true, plainKeys := false, apart := false, narrowed := true }
def TablesNilUptoSaid : Prop := tablesNilUptoRow.holds Try.pinned (OpenSpec.upto tablesNilSpec)

end Rows
end Go.Proofs.Ytbmphakfgoompaa
