/-
  No cell of these rows narrows 'for every input' (looked for: loops, veiled, ifaces, maps, wideKeys, modest, calm, conditions, laid).
  DERIVED. THE GIVEN ROWS OF THIS SEAT. 5 by the template 'for every input the law returns true; each argument reads behind the call as it read before'; 0 by the template 'total and deterministic' (their statements: YtgjmhbjdhihgaaaTotals.lean).
  GIVEN WITH THE SEED: the statements are not yours to turn. If you find one false, say at which input.
  Laid BY PROGRAM, IN A SANDBOX (cutbox-rows.mjs): the forced cells as the released guide's own fill.sh prints them over the translation c08ef158cad1ed5f… (all of the seat's roots in one cut). By AI agents, Wed Nov 11 2026. No macro, syntax, notation, axiom, sorry.
-/
import Derived.Test.YtgjmhbjdhihgaaaChecked
import GoSem.Claim
import GoSem.ClaimJoined
import GoSem.ClaimMapViews
import Derived.JoinedTies
import Derived.KernelRfl
namespace Go.Proofs.Ytgjmhbjdhihgaaa
/- THE CELL 'sum', in the pinned program and in every row, IS THE sha256 OF THE DUMP (.gsa) THAT YtgjmhbjdhihgaaaProg.lean LOADS. Nothing in Lean hashes anything: it is a label: what it is worth is what the hold of that sum in a sandbox is worth. -/
noncomputable def Try.pinned : Pinned := { name := "ytgjmhbjdhihgaaa", sum := "c08ef158cad1ed5fc7fb09e645f75f5c73a5820983d3b126581e89c4fa15f7df", checked := Try.checked }
namespace Rows
def none {H : Type} : Left H := { results := [], args := [] }

/-- 'laws.FnChances': WHATEVER THE INPUT: true; the input reads as it did. -/
def fnChancesSpec : ChangeSpec := { name := "fnChances", fn := fun _ => fun
  | [d1, d2] => { results := [.lit (.bool true)], args := [d1, d2] }
  | _ => none }
def fnChancesRow : OpenClaim := { program := "ytgjmhbjdhihgaaa", sum := "c08ef158cad1ed5fc7fb09e645f75f5c73a5820983d3b126581e89c4fa15f7df", func := "loop.example/g00942/laws.FnChances", spec := "fnChances", apart := false }
def FnChancesSaid : Prop := fnChancesRow.holds Try.pinned (OpenSpec.ofChange fnChancesSpec)

/-- ITS FALSE NEIGHBOUR: 'it returns false'. Refute it at one input. -/
def fnChancesWrong : ChangeSpec := { name := "fnChances", fn := fun _ => fun
  | [d1, d2] => { results := [.lit (.bool false)], args := [d1, d2] }
  | _ => none }
def FnChancesWrongFalsely : Prop := fnChancesRow.holds Try.pinned (OpenSpec.ofChange fnChancesWrong)

/-- 'laws.FnVotes': WHATEVER THE INPUT: true; the input reads as it did. -/
def fnVotesSpec : ChangeSpec := { name := "fnVotes", fn := fun _ => fun
  | [d1, d2] => { results := [.lit (.bool true)], args := [d1, d2] }
  | _ => none }
def fnVotesRow : OpenClaim := { program := "ytgjmhbjdhihgaaa", sum := "c08ef158cad1ed5fc7fb09e645f75f5c73a5820983d3b126581e89c4fa15f7df", func := "loop.example/g00942/laws.FnVotes", spec := "fnVotes", apart := false }
def FnVotesSaid : Prop := fnVotesRow.holds Try.pinned (OpenSpec.ofChange fnVotesSpec)

/-- ITS FALSE NEIGHBOUR: 'it returns false'. Refute it at one input. -/
def fnVotesWrong : ChangeSpec := { name := "fnVotes", fn := fun _ => fun
  | [d1, d2] => { results := [.lit (.bool false)], args := [d1, d2] }
  | _ => none }
def FnVotesWrongFalsely : Prop := fnVotesRow.holds Try.pinned (OpenSpec.ofChange fnVotesWrong)

/-- 'laws.FnFaultyRuns': WHATEVER THE INPUT: true; the input reads as it did. -/
def fnFaultyRunsSpec : ChangeSpec := { name := "fnFaultyRuns", fn := fun _ => fun
  | [d1, d2] => { results := [.lit (.bool true)], args := [d1, d2] }
  | _ => none }
def fnFaultyRunsRow : OpenClaim := { program := "ytgjmhbjdhihgaaa", sum := "c08ef158cad1ed5fc7fb09e645f75f5c73a5820983d3b126581e89c4fa15f7df", func := "loop.example/g00942/laws.FnFaultyRuns", spec := "fnFaultyRuns", apart := false }
def FnFaultyRunsSaid : Prop := fnFaultyRunsRow.holds Try.pinned (OpenSpec.ofChange fnFaultyRunsSpec)

/-- ITS FALSE NEIGHBOUR: 'it returns false'. Refute it at one input. -/
def fnFaultyRunsWrong : ChangeSpec := { name := "fnFaultyRuns", fn := fun _ => fun
  | [d1, d2] => { results := [.lit (.bool false)], args := [d1, d2] }
  | _ => none }
def FnFaultyRunsWrongFalsely : Prop := fnFaultyRunsRow.holds Try.pinned (OpenSpec.ofChange fnFaultyRunsWrong)

/-- 'laws.FnCauses': WHATEVER THE INPUT: true; the input reads as it did. -/
def fnCausesSpec : ChangeSpec := { name := "fnCauses", fn := fun _ => fun
  | [d1, d2] => { results := [.lit (.bool true)], args := [d1, d2] }
  | _ => none }
def fnCausesRow : OpenClaim := { program := "ytgjmhbjdhihgaaa", sum := "c08ef158cad1ed5fc7fb09e645f75f5c73a5820983d3b126581e89c4fa15f7df", func := "loop.example/g00942/laws.FnCauses", spec := "fnCauses", apart := false }
def FnCausesSaid : Prop := fnCausesRow.holds Try.pinned (OpenSpec.ofChange fnCausesSpec)

/-- ITS FALSE NEIGHBOUR: 'it returns false'. Refute it at one input. -/
def fnCausesWrong : ChangeSpec := { name := "fnCauses", fn := fun _ => fun
  | [d1, d2] => { results := [.lit (.bool false)], args := [d1, d2] }
  | _ => none }
def FnCausesWrongFalsely : Prop := fnCausesRow.holds Try.pinned (OpenSpec.ofChange fnCausesWrong)

/-- 'laws.FnTestsOfFaults': WHATEVER THE INPUT: true; the input reads as it did. -/
def fnTestsOfFaultsSpec : ChangeSpec := { name := "fnTestsOfFaults", fn := fun _ => fun
  | [d1, d2] => { results := [.lit (.bool true)], args := [d1, d2] }
  | _ => none }
def fnTestsOfFaultsRow : OpenClaim := { program := "ytgjmhbjdhihgaaa", sum := "c08ef158cad1ed5fc7fb09e645f75f5c73a5820983d3b126581e89c4fa15f7df", func := "loop.example/g00942/laws.FnTestsOfFaults", spec := "fnTestsOfFaults", apart := false }
def FnTestsOfFaultsSaid : Prop := fnTestsOfFaultsRow.holds Try.pinned (OpenSpec.ofChange fnTestsOfFaultsSpec)

/-- ITS FALSE NEIGHBOUR: 'it returns false'. Refute it at one input. -/
def fnTestsOfFaultsWrong : ChangeSpec := { name := "fnTestsOfFaults", fn := fun _ => fun
  | [d1, d2] => { results := [.lit (.bool false)], args := [d1, d2] }
  | _ => none }
def FnTestsOfFaultsWrongFalsely : Prop := fnTestsOfFaultsRow.holds Try.pinned (OpenSpec.ofChange fnTestsOfFaultsWrong)

/- THE SECOND FORM. 'bulk': how many values and letters a reading holds, each counted each time it is reached (what is shared counts as often as it is met; a slice's spare places count too). A statement '..UptoSaid' is the law's where the arguments, and the package variables that the reading takes, are together of bulk at most 1048576: NARROWER than '..Said'. Prove '..Said' where nothing that the law and all that it calls make is longer than what came in: it says more and counts as full. Else prove '..UptoSaid'. A law counts once. -/
mutual
def uptoBulk {H : Type} : DataW H → Nat
  | .lit (.string bytes) => bytes.length + 1
  | .lit _ => 1
  | .nil => 1
  | .ptr d => uptoBulk d + 1
  | .slice elems spare => uptoBulkAll elems + uptoBulkAll spare + 1
  | .agg parts => uptoBulkAll parts + 1
  | .iface _ d => uptoBulk d + 1
  | .map entries => uptoBulkEntries entries + 1
  | .held _ => 1
def uptoBulkAll {H : Type} : List (DataW H) → Nat
  | [] => 0
  | d :: r => uptoBulk d + uptoBulkAll r
def uptoBulkEntries {H : Type} : List (Lit × DataW H) → Nat
  | [] => 0
  | x :: r => uptoBulkEntry x + uptoBulkEntries r
def uptoBulkEntry {H : Type} : Lit × DataW H → Nat
  | (.string bytes, d) => bytes.length + uptoBulk d + 1
  | (_, d) => uptoBulk d + 1
 end
def uptoSmall : (H : Type) → List (DataW H) → Bool := fun _ ds => decide (uptoBulkAll ds ≤ 1048576)
def OpenSpec.upto (s : _root_.Go.ChangeSpec) : _root_.Go.OpenSpec := { _root_.Go.OpenSpec.ofChange s with cond := some uptoSmall }

/-- 'laws.FnChances', WHERE WHAT IT READS IS OF BULK AT MOST 1048576: true; the input reads as it did. -/
def fnChancesUptoRow : OpenClaim := { program := "ytgjmhbjdhihgaaa", sum := "c08ef158cad1ed5fc7fb09e645f75f5c73a5820983d3b126581e89c4fa15f7df", func := "loop.example/g00942/laws.FnChances", spec := "fnChances", apart := false, narrowed := true }
def FnChancesUptoSaid : Prop := fnChancesUptoRow.holds Try.pinned (OpenSpec.upto fnChancesSpec)

/-- 'laws.FnVotes', WHERE WHAT IT READS IS OF BULK AT MOST 1048576: true; the input reads as it did. -/
def fnVotesUptoRow : OpenClaim := { program := "ytgjmhbjdhihgaaa", sum := "c08ef158cad1ed5fc7fb09e645f75f5c73a5820983d3b126581e89c4fa15f7df", func := "loop.example/g00942/laws.FnVotes", spec := "fnVotes", apart := false, narrowed := true }
def FnVotesUptoSaid : Prop := fnVotesUptoRow.holds Try.pinned (OpenSpec.upto fnVotesSpec)

/-- 'laws.FnFaultyRuns', WHERE WHAT IT READS IS OF BULK AT MOST 1048576: true; the input reads as it did. -/
def fnFaultyRunsUptoRow : OpenClaim := { program := "ytgjmhbjdhihgaaa", sum := "c08ef158cad1ed5fc7fb09e645f75f5c73a5820983d3b126581e89c4fa15f7df", func := "loop.example/g00942/laws.FnFaultyRuns", spec := "fnFaultyRuns", apart := false, narrowed := true }
def FnFaultyRunsUptoSaid : Prop := fnFaultyRunsUptoRow.holds Try.pinned (OpenSpec.upto fnFaultyRunsSpec)

/-- 'laws.FnCauses', WHERE WHAT IT READS IS OF BULK AT MOST 1048576: true; the input reads as it did. -/
def fnCausesUptoRow : OpenClaim := { program := "ytgjmhbjdhihgaaa", sum := "c08ef158cad1ed5fc7fb09e645f75f5c73a5820983d3b126581e89c4fa15f7df", func := "loop.example/g00942/laws.FnCauses", spec := "fnCauses", apart := false, narrowed := true }
def FnCausesUptoSaid : Prop := fnCausesUptoRow.holds Try.pinned (OpenSpec.upto fnCausesSpec)

/-- 'laws.FnTestsOfFaults', WHERE WHAT IT READS IS OF BULK AT MOST 1048576: true; the input reads as it did. -/
def fnTestsOfFaultsUptoRow : OpenClaim := { program := "ytgjmhbjdhihgaaa", sum := "c08ef158cad1ed5fc7fb09e645f75f5c73a5820983d3b126581e89c4fa15f7df", func := "loop.example/g00942/laws.FnTestsOfFaults", spec := "fnTestsOfFaults", apart := false, narrowed := true }
def FnTestsOfFaultsUptoSaid : Prop := fnTestsOfFaultsUptoRow.holds Try.pinned (OpenSpec.upto fnTestsOfFaultsSpec)

end Rows
end Go.Proofs.Ytgjmhbjdhihgaaa
