/-
  No cell of these rows narrows 'for every input' (looked for: loops, veiled, ifaces, maps, wideKeys, modest, calm, conditions, laid).
  DERIVED. THE GIVEN ROWS OF THIS SEAT. 12 by the template 'for every input the law returns true; each argument reads behind the call as it read before'; 0 by the template 'total and deterministic' (their statements: YtkefbmaagdaodaaTotals.lean).
  GIVEN WITH THE SEED: the statements are not yours to turn. If you find one false, say at which input.
  Laid BY PROGRAM, IN A SANDBOX (cutbox-rows.mjs): the forced cells as the released guide's own fill.sh prints them over the translation f4933e8064975f15… (all of the seat's roots in one cut). By AI agents, Wed Nov 11 2026. No macro, syntax, notation, axiom, sorry.
-/
import Derived.Test.YtkefbmaagdaodaaChecked
import GoSem.Claim
import GoSem.ClaimJoined
import GoSem.ClaimMapViews
import Derived.JoinedTies
import Derived.KernelRfl
namespace Go.Proofs.Ytkefbmaagdaodaa
/- THE CELL 'sum', in the pinned program and in every row, IS THE sha256 OF THE DUMP (.gsa) THAT YtkefbmaagdaodaaProg.lean LOADS. Nothing in Lean hashes anything: it is a label: what it is worth is what the hold of that sum in a sandbox is worth. -/
noncomputable def Try.pinned : Pinned := { name := "ytkefbmaagdaodaa", sum := "f4933e8064975f153a7983ef47d61d33a16386866a7def24762651bee27ce23c", checked := Try.checked }
namespace Rows
def none {H : Type} : Left H := { results := [], args := [] }

/-- 'laws.FnExactAreFaults': WHATEVER THE INPUT: true; the input reads as it did. -/
def fnExactAreFaultsSpec : ChangeSpec := { name := "fnExactAreFaults", fn := fun _ => fun
  | [d1, d2] => { results := [.lit (.bool true)], args := [d1, d2] }
  | _ => none }
def fnExactAreFaultsRow : OpenClaim := { program := "ytkefbmaagdaodaa", sum := "f4933e8064975f153a7983ef47d61d33a16386866a7def24762651bee27ce23c", func := "loop.example/g00942/laws.FnExactAreFaults", spec := "fnExactAreFaults", apart := false }
def FnExactAreFaultsSaid : Prop := fnExactAreFaultsRow.holds Try.pinned (OpenSpec.ofChange fnExactAreFaultsSpec)

/-- ITS FALSE NEIGHBOUR: 'it returns false'. Refute it at one input. -/
def fnExactAreFaultsWrong : ChangeSpec := { name := "fnExactAreFaults", fn := fun _ => fun
  | [d1, d2] => { results := [.lit (.bool false)], args := [d1, d2] }
  | _ => none }
def FnExactAreFaultsWrongFalsely : Prop := fnExactAreFaultsRow.holds Try.pinned (OpenSpec.ofChange fnExactAreFaultsWrong)

/-- 'laws.FnExactPossibleFaults': WHATEVER THE INPUT: true; the input reads as it did. -/
def fnExactPossibleFaultsSpec : ChangeSpec := { name := "fnExactPossibleFaults", fn := fun _ => fun
  | [d] => { results := [.lit (.bool true)], args := [d] }
  | _ => none }
def fnExactPossibleFaultsRow : OpenClaim := { program := "ytkefbmaagdaodaa", sum := "f4933e8064975f153a7983ef47d61d33a16386866a7def24762651bee27ce23c", func := "loop.example/g00942/laws.FnExactPossibleFaults", spec := "fnExactPossibleFaults", apart := false }
def FnExactPossibleFaultsSaid : Prop := fnExactPossibleFaultsRow.holds Try.pinned (OpenSpec.ofChange fnExactPossibleFaultsSpec)

/-- ITS FALSE NEIGHBOUR: 'it returns false'. Refute it at one input. -/
def fnExactPossibleFaultsWrong : ChangeSpec := { name := "fnExactPossibleFaults", fn := fun _ => fun
  | [d] => { results := [.lit (.bool false)], args := [d] }
  | _ => none }
def FnExactPossibleFaultsWrongFalsely : Prop := fnExactPossibleFaultsRow.holds Try.pinned (OpenSpec.ofChange fnExactPossibleFaultsWrong)

/-- 'laws.FnExactFaultyFall': WHATEVER THE INPUT: true; the input reads as it did. -/
def fnExactFaultyFallSpec : ChangeSpec := { name := "fnExactFaultyFall", fn := fun _ => fun
  | [d1, d2, d3] => { results := [.lit (.bool true)], args := [d1, d2, d3] }
  | _ => none }
def fnExactFaultyFallRow : OpenClaim := { program := "ytkefbmaagdaodaa", sum := "f4933e8064975f153a7983ef47d61d33a16386866a7def24762651bee27ce23c", func := "loop.example/g00942/laws.FnExactFaultyFall", spec := "fnExactFaultyFall", apart := false }
def FnExactFaultyFallSaid : Prop := fnExactFaultyFallRow.holds Try.pinned (OpenSpec.ofChange fnExactFaultyFallSpec)

/-- ITS FALSE NEIGHBOUR: 'it returns false'. Refute it at one input. -/
def fnExactFaultyFallWrong : ChangeSpec := { name := "fnExactFaultyFall", fn := fun _ => fun
  | [d1, d2, d3] => { results := [.lit (.bool false)], args := [d1, d2, d3] }
  | _ => none }
def FnExactFaultyFallWrongFalsely : Prop := fnExactFaultyFallRow.holds Try.pinned (OpenSpec.ofChange fnExactFaultyFallWrong)

/-- 'laws.FnExactSurprisesOf': WHATEVER THE INPUT: true; the input reads as it did. -/
def fnExactSurprisesOfSpec : ChangeSpec := { name := "fnExactSurprisesOf", fn := fun _ => fun
  | [d1, d2, d3] => { results := [.lit (.bool true)], args := [d1, d2, d3] }
  | _ => none }
def fnExactSurprisesOfRow : OpenClaim := { program := "ytkefbmaagdaodaa", sum := "f4933e8064975f153a7983ef47d61d33a16386866a7def24762651bee27ce23c", func := "loop.example/g00942/laws.FnExactSurprisesOf", spec := "fnExactSurprisesOf", apart := false }
def FnExactSurprisesOfSaid : Prop := fnExactSurprisesOfRow.holds Try.pinned (OpenSpec.ofChange fnExactSurprisesOfSpec)

/-- ITS FALSE NEIGHBOUR: 'it returns false'. Refute it at one input. -/
def fnExactSurprisesOfWrong : ChangeSpec := { name := "fnExactSurprisesOf", fn := fun _ => fun
  | [d1, d2, d3] => { results := [.lit (.bool false)], args := [d1, d2, d3] }
  | _ => none }
def FnExactSurprisesOfWrongFalsely : Prop := fnExactSurprisesOfRow.holds Try.pinned (OpenSpec.ofChange fnExactSurprisesOfWrong)

/-- 'laws.FnExactFaultyBoard': WHATEVER THE INPUT: true; the input reads as it did. -/
def fnExactFaultyBoardSpec : ChangeSpec := { name := "fnExactFaultyBoard", fn := fun _ => fun
  | [d1, d2, d3] => { results := [.lit (.bool true)], args := [d1, d2, d3] }
  | _ => none }
def fnExactFaultyBoardRow : OpenClaim := { program := "ytkefbmaagdaodaa", sum := "f4933e8064975f153a7983ef47d61d33a16386866a7def24762651bee27ce23c", func := "loop.example/g00942/laws.FnExactFaultyBoard", spec := "fnExactFaultyBoard", apart := false }
def FnExactFaultyBoardSaid : Prop := fnExactFaultyBoardRow.holds Try.pinned (OpenSpec.ofChange fnExactFaultyBoardSpec)

/-- ITS FALSE NEIGHBOUR: 'it returns false'. Refute it at one input. -/
def fnExactFaultyBoardWrong : ChangeSpec := { name := "fnExactFaultyBoard", fn := fun _ => fun
  | [d1, d2, d3] => { results := [.lit (.bool false)], args := [d1, d2, d3] }
  | _ => none }
def FnExactFaultyBoardWrongFalsely : Prop := fnExactFaultyBoardRow.holds Try.pinned (OpenSpec.ofChange fnExactFaultyBoardWrong)

/-- 'laws.FnExactSeenShare': WHATEVER THE INPUT: true; the input reads as it did. -/
def fnExactSeenShareSpec : ChangeSpec := { name := "fnExactSeenShare", fn := fun _ => fun
  | [d1, d2] => { results := [.lit (.bool true)], args := [d1, d2] }
  | _ => none }
def fnExactSeenShareRow : OpenClaim := { program := "ytkefbmaagdaodaa", sum := "f4933e8064975f153a7983ef47d61d33a16386866a7def24762651bee27ce23c", func := "loop.example/g00942/laws.FnExactSeenShare", spec := "fnExactSeenShare", apart := false }
def FnExactSeenShareSaid : Prop := fnExactSeenShareRow.holds Try.pinned (OpenSpec.ofChange fnExactSeenShareSpec)

/-- ITS FALSE NEIGHBOUR: 'it returns false'. Refute it at one input. -/
def fnExactSeenShareWrong : ChangeSpec := { name := "fnExactSeenShare", fn := fun _ => fun
  | [d1, d2] => { results := [.lit (.bool false)], args := [d1, d2] }
  | _ => none }
def FnExactSeenShareWrongFalsely : Prop := fnExactSeenShareRow.holds Try.pinned (OpenSpec.ofChange fnExactSeenShareWrong)

/-- 'laws.FnExactExplainsEnds': WHATEVER THE INPUT: true; the input reads as it did. -/
def fnExactExplainsEndsSpec : ChangeSpec := { name := "fnExactExplainsEnds", fn := fun _ => fun
  | [d1, d2, d3, d4] => { results := [.lit (.bool true)], args := [d1, d2, d3, d4] }
  | _ => none }
def fnExactExplainsEndsRow : OpenClaim := { program := "ytkefbmaagdaodaa", sum := "f4933e8064975f153a7983ef47d61d33a16386866a7def24762651bee27ce23c", func := "loop.example/g00942/laws.FnExactExplainsEnds", spec := "fnExactExplainsEnds", apart := false }
def FnExactExplainsEndsSaid : Prop := fnExactExplainsEndsRow.holds Try.pinned (OpenSpec.ofChange fnExactExplainsEndsSpec)

/-- ITS FALSE NEIGHBOUR: 'it returns false'. Refute it at one input. -/
def fnExactExplainsEndsWrong : ChangeSpec := { name := "fnExactExplainsEnds", fn := fun _ => fun
  | [d1, d2, d3, d4] => { results := [.lit (.bool false)], args := [d1, d2, d3, d4] }
  | _ => none }
def FnExactExplainsEndsWrongFalsely : Prop := fnExactExplainsEndsRow.holds Try.pinned (OpenSpec.ofChange fnExactExplainsEndsWrong)

/-- 'laws.FnExactLeastCauses': WHATEVER THE INPUT: true; the input reads as it did. -/
def fnExactLeastCausesSpec : ChangeSpec := { name := "fnExactLeastCauses", fn := fun _ => fun
  | [d1, d2, d3] => { results := [.lit (.bool true)], args := [d1, d2, d3] }
  | _ => none }
def fnExactLeastCausesRow : OpenClaim := { program := "ytkefbmaagdaodaa", sum := "f4933e8064975f153a7983ef47d61d33a16386866a7def24762651bee27ce23c", func := "loop.example/g00942/laws.FnExactLeastCauses", spec := "fnExactLeastCauses", apart := false }
def FnExactLeastCausesSaid : Prop := fnExactLeastCausesRow.holds Try.pinned (OpenSpec.ofChange fnExactLeastCausesSpec)

/-- ITS FALSE NEIGHBOUR: 'it returns false'. Refute it at one input. -/
def fnExactLeastCausesWrong : ChangeSpec := { name := "fnExactLeastCauses", fn := fun _ => fun
  | [d1, d2, d3] => { results := [.lit (.bool false)], args := [d1, d2, d3] }
  | _ => none }
def FnExactLeastCausesWrongFalsely : Prop := fnExactLeastCausesRow.holds Try.pinned (OpenSpec.ofChange fnExactLeastCausesWrong)

/-- 'laws.FnExactFirstSeen': WHATEVER THE INPUT: true; the input reads as it did. -/
def fnExactFirstSeenSpec : ChangeSpec := { name := "fnExactFirstSeen", fn := fun _ => fun
  | [d1, d2, d3] => { results := [.lit (.bool true)], args := [d1, d2, d3] }
  | _ => none }
def fnExactFirstSeenRow : OpenClaim := { program := "ytkefbmaagdaodaa", sum := "f4933e8064975f153a7983ef47d61d33a16386866a7def24762651bee27ce23c", func := "loop.example/g00942/laws.FnExactFirstSeen", spec := "fnExactFirstSeen", apart := false }
def FnExactFirstSeenSaid : Prop := fnExactFirstSeenRow.holds Try.pinned (OpenSpec.ofChange fnExactFirstSeenSpec)

/-- ITS FALSE NEIGHBOUR: 'it returns false'. Refute it at one input. -/
def fnExactFirstSeenWrong : ChangeSpec := { name := "fnExactFirstSeen", fn := fun _ => fun
  | [d1, d2, d3] => { results := [.lit (.bool false)], args := [d1, d2, d3] }
  | _ => none }
def FnExactFirstSeenWrongFalsely : Prop := fnExactFirstSeenRow.holds Try.pinned (OpenSpec.ofChange fnExactFirstSeenWrong)

/-- 'laws.FnExactTellApart': WHATEVER THE INPUT: true; the input reads as it did. -/
def fnExactTellApartSpec : ChangeSpec := { name := "fnExactTellApart", fn := fun _ => fun
  | [d1, d2, d3, d4] => { results := [.lit (.bool true)], args := [d1, d2, d3, d4] }
  | _ => none }
def fnExactTellApartRow : OpenClaim := { program := "ytkefbmaagdaodaa", sum := "f4933e8064975f153a7983ef47d61d33a16386866a7def24762651bee27ce23c", func := "loop.example/g00942/laws.FnExactTellApart", spec := "fnExactTellApart", apart := false }
def FnExactTellApartSaid : Prop := fnExactTellApartRow.holds Try.pinned (OpenSpec.ofChange fnExactTellApartSpec)

/-- ITS FALSE NEIGHBOUR: 'it returns false'. Refute it at one input. -/
def fnExactTellApartWrong : ChangeSpec := { name := "fnExactTellApart", fn := fun _ => fun
  | [d1, d2, d3, d4] => { results := [.lit (.bool false)], args := [d1, d2, d3, d4] }
  | _ => none }
def FnExactTellApartWrongFalsely : Prop := fnExactTellApartRow.holds Try.pinned (OpenSpec.ofChange fnExactTellApartWrong)

/-- 'laws.FnExactFaultyFalls': WHATEVER THE INPUT: true; the input reads as it did. -/
def fnExactFaultyFallsSpec : ChangeSpec := { name := "fnExactFaultyFalls", fn := fun _ => fun
  | [d1, d2, d3] => { results := [.lit (.bool true)], args := [d1, d2, d3] }
  | _ => none }
def fnExactFaultyFallsRow : OpenClaim := { program := "ytkefbmaagdaodaa", sum := "f4933e8064975f153a7983ef47d61d33a16386866a7def24762651bee27ce23c", func := "loop.example/g00942/laws.FnExactFaultyFalls", spec := "fnExactFaultyFalls", apart := false }
def FnExactFaultyFallsSaid : Prop := fnExactFaultyFallsRow.holds Try.pinned (OpenSpec.ofChange fnExactFaultyFallsSpec)

/-- ITS FALSE NEIGHBOUR: 'it returns false'. Refute it at one input. -/
def fnExactFaultyFallsWrong : ChangeSpec := { name := "fnExactFaultyFalls", fn := fun _ => fun
  | [d1, d2, d3] => { results := [.lit (.bool false)], args := [d1, d2, d3] }
  | _ => none }
def FnExactFaultyFallsWrongFalsely : Prop := fnExactFaultyFallsRow.holds Try.pinned (OpenSpec.ofChange fnExactFaultyFallsWrong)

/-- 'laws.FnExactSuspectCells': WHATEVER THE INPUT: true; the input reads as it did. -/
def fnExactSuspectCellsSpec : ChangeSpec := { name := "fnExactSuspectCells", fn := fun _ => fun
  | [d1, d2, d3] => { results := [.lit (.bool true)], args := [d1, d2, d3] }
  | _ => none }
def fnExactSuspectCellsRow : OpenClaim := { program := "ytkefbmaagdaodaa", sum := "f4933e8064975f153a7983ef47d61d33a16386866a7def24762651bee27ce23c", func := "loop.example/g00942/laws.FnExactSuspectCells", spec := "fnExactSuspectCells", apart := false }
def FnExactSuspectCellsSaid : Prop := fnExactSuspectCellsRow.holds Try.pinned (OpenSpec.ofChange fnExactSuspectCellsSpec)

/-- ITS FALSE NEIGHBOUR: 'it returns false'. Refute it at one input. -/
def fnExactSuspectCellsWrong : ChangeSpec := { name := "fnExactSuspectCells", fn := fun _ => fun
  | [d1, d2, d3] => { results := [.lit (.bool false)], args := [d1, d2, d3] }
  | _ => none }
def FnExactSuspectCellsWrongFalsely : Prop := fnExactSuspectCellsRow.holds Try.pinned (OpenSpec.ofChange fnExactSuspectCellsWrong)

/- THE SECOND FORM. 'bulk': how many values and letters a reading holds, each counted each time it is reached (what is shared counts as often as it is met; a slice's spare places count too). A statement '..UptoSaid' is the law's where the arguments, and the package variables that the reading takes, are together of bulk at most 1048576: NARROWER than '..Said'. Prove '..Said' where nothing that the law and all that it calls make is longer than what came in: it says more and counts as full. Else prove '..UptoSaid'. A law counts once. -/
mutual
def uptoBulk {H : Type} : DataW H → Nat
  | .lit (.string bytes) => bytes.length + 1
  | .lit _ => 1
  | .nil => 1
  | .ptr d => uptoBulk d + 1
  | .slice elems spare => uptoBulkAll elems + uptoBulkAll spare + 1
  | .agg parts => uptoBulkAll parts + 1
  | .iface _ d => uptoBulk d + 1
  | .map entries => uptoBulkEntries entries + 1
  | .held _ => 1
def uptoBulkAll {H : Type} : List (DataW H) → Nat
  | [] => 0
  | d :: r => uptoBulk d + uptoBulkAll r
def uptoBulkEntries {H : Type} : List (Lit × DataW H) → Nat
  | [] => 0
  | x :: r => uptoBulkEntry x + uptoBulkEntries r
def uptoBulkEntry {H : Type} : Lit × DataW H → Nat
  | (.string bytes, d) => bytes.length + uptoBulk d + 1
  | (_, d) => uptoBulk d + 1
 end
def uptoSmall : (H : Type) → List (DataW H) → Bool := fun _ ds => decide (uptoBulkAll ds ≤ 1048576)
def OpenSpec.upto (s : _root_.Go.ChangeSpec) : _root_.Go.OpenSpec := { _root_.Go.OpenSpec.ofChange s with cond := some uptoSmall }

/-- 'laws.FnExactAreFaults', WHERE WHAT IT READS IS OF BULK AT MOST 1048576: true; the input reads as it did. -/
def fnExactAreFaultsUptoRow : OpenClaim := { program := "ytkefbmaagdaodaa", sum := "f4933e8064975f153a7983ef47d61d33a16386866a7def24762651bee27ce23c", func := "loop.example/g00942/laws.FnExactAreFaults", spec := "fnExactAreFaults", apart := false, narrowed := true }
def FnExactAreFaultsUptoSaid : Prop := fnExactAreFaultsUptoRow.holds Try.pinned (OpenSpec.upto fnExactAreFaultsSpec)

/-- 'laws.FnExactPossibleFaults', WHERE WHAT IT READS IS OF BULK AT MOST 1048576: true; the input reads as it did. -/
def fnExactPossibleFaultsUptoRow : OpenClaim := { program := "ytkefbmaagdaodaa", sum := "f4933e8064975f153a7983ef47d61d33a16386866a7def24762651bee27ce23c", func := "loop.example/g00942/laws.FnExactPossibleFaults", spec := "fnExactPossibleFaults", apart := false, narrowed := true }
def FnExactPossibleFaultsUptoSaid : Prop := fnExactPossibleFaultsUptoRow.holds Try.pinned (OpenSpec.upto fnExactPossibleFaultsSpec)

/-- 'laws.FnExactFaultyFall', WHERE WHAT IT READS IS OF BULK AT MOST 1048576: true; the input reads as it did. -/
def fnExactFaultyFallUptoRow : OpenClaim := { program := "ytkefbmaagdaodaa", sum := "f4933e8064975f153a7983ef47d61d33a16386866a7def24762651bee27ce23c", func := "loop.example/g00942/laws.FnExactFaultyFall", spec := "fnExactFaultyFall", apart := false, narrowed := true }
def FnExactFaultyFallUptoSaid : Prop := fnExactFaultyFallUptoRow.holds Try.pinned (OpenSpec.upto fnExactFaultyFallSpec)

/-- 'laws.FnExactSurprisesOf', WHERE WHAT IT READS IS OF BULK AT MOST 1048576: true; the input reads as it did. -/
def fnExactSurprisesOfUptoRow : OpenClaim := { program := "ytkefbmaagdaodaa", sum := "f4933e8064975f153a7983ef47d61d33a16386866a7def24762651bee27ce23c", func := "loop.example/g00942/laws.FnExactSurprisesOf", spec := "fnExactSurprisesOf", apart := false, narrowed := true }
def FnExactSurprisesOfUptoSaid : Prop := fnExactSurprisesOfUptoRow.holds Try.pinned (OpenSpec.upto fnExactSurprisesOfSpec)

/-- 'laws.FnExactFaultyBoard', WHERE WHAT IT READS IS OF BULK AT MOST 1048576: true; the input reads as it did. -/
def fnExactFaultyBoardUptoRow : OpenClaim := { program := "ytkefbmaagdaodaa", sum := "f4933e8064975f153a7983ef47d61d33a16386866a7def24762651bee27ce23c", func := "loop.example/g00942/laws.FnExactFaultyBoard", spec := "fnExactFaultyBoard", apart := false, narrowed := true }
def FnExactFaultyBoardUptoSaid : Prop := fnExactFaultyBoardUptoRow.holds Try.pinned (OpenSpec.upto fnExactFaultyBoardSpec)

/-- 'laws.FnExactSeenShare', WHERE WHAT IT READS IS OF BULK AT MOST 1048576: true; the input reads as it did. -/
def fnExactSeenShareUptoRow : OpenClaim := { program := "ytkefbmaagdaodaa", sum := "f4933e8064975f153a7983ef47d61d33a16386866a7def24762651bee27ce23c", func := "loop.example/g00942/laws.FnExactSeenShare", spec := "fnExactSeenShare", apart := false, narrowed := true }
def FnExactSeenShareUptoSaid : Prop := fnExactSeenShareUptoRow.holds Try.pinned (OpenSpec.upto fnExactSeenShareSpec)

/-- 'laws.FnExactExplainsEnds', WHERE WHAT IT READS IS OF BULK AT MOST 1048576: true; the input reads as it did. -/
def fnExactExplainsEndsUptoRow : OpenClaim := { program := "ytkefbmaagdaodaa", sum := "f4933e8064975f153a7983ef47d61d33a16386866a7def24762651bee27ce23c", func := "loop.example/g00942/laws.FnExactExplainsEnds", spec := "fnExactExplainsEnds", apart := false, narrowed := true }
def FnExactExplainsEndsUptoSaid : Prop := fnExactExplainsEndsUptoRow.holds Try.pinned (OpenSpec.upto fnExactExplainsEndsSpec)

/-- 'laws.FnExactLeastCauses', WHERE WHAT IT READS IS OF BULK AT MOST 1048576: true; the input reads as it did. -/
def fnExactLeastCausesUptoRow : OpenClaim := { program := "ytkefbmaagdaodaa", sum := "f4933e8064975f153a7983ef47d61d33a16386866a7def24762651bee27ce23c", func := "loop.example/g00942/laws.FnExactLeastCauses", spec := "fnExactLeastCauses", apart := false, narrowed := true }
def FnExactLeastCausesUptoSaid : Prop := fnExactLeastCausesUptoRow.holds Try.pinned (OpenSpec.upto fnExactLeastCausesSpec)

/-- 'laws.FnExactFirstSeen', WHERE WHAT IT READS IS OF BULK AT MOST 1048576: true; the input reads as it did. -/
def fnExactFirstSeenUptoRow : OpenClaim := { program := "ytkefbmaagdaodaa", sum := "f4933e8064975f153a7983ef47d61d33a16386866a7def24762651bee27ce23c", func := "loop.example/g00942/laws.FnExactFirstSeen", spec := "fnExactFirstSeen", apart := false, narrowed := true }
def FnExactFirstSeenUptoSaid : Prop := fnExactFirstSeenUptoRow.holds Try.pinned (OpenSpec.upto fnExactFirstSeenSpec)

/-- 'laws.FnExactTellApart', WHERE WHAT IT READS IS OF BULK AT MOST 1048576: true; the input reads as it did. -/
def fnExactTellApartUptoRow : OpenClaim := { program := "ytkefbmaagdaodaa", sum := "f4933e8064975f153a7983ef47d61d33a16386866a7def24762651bee27ce23c", func := "loop.example/g00942/laws.FnExactTellApart", spec := "fnExactTellApart", apart := false, narrowed := true }
def FnExactTellApartUptoSaid : Prop := fnExactTellApartUptoRow.holds Try.pinned (OpenSpec.upto fnExactTellApartSpec)

/-- 'laws.FnExactFaultyFalls', WHERE WHAT IT READS IS OF BULK AT MOST 1048576: true; the input reads as it did. -/
def fnExactFaultyFallsUptoRow : OpenClaim := { program := "ytkefbmaagdaodaa", sum := "f4933e8064975f153a7983ef47d61d33a16386866a7def24762651bee27ce23c", func := "loop.example/g00942/laws.FnExactFaultyFalls", spec := "fnExactFaultyFalls", apart := false, narrowed := true }
def FnExactFaultyFallsUptoSaid : Prop := fnExactFaultyFallsUptoRow.holds Try.pinned (OpenSpec.upto fnExactFaultyFallsSpec)

/-- 'laws.FnExactSuspectCells', WHERE WHAT IT READS IS OF BULK AT MOST 1048576: true; the input reads as it did. -/
def fnExactSuspectCellsUptoRow : OpenClaim := { program := "ytkefbmaagdaodaa", sum := "f4933e8064975f153a7983ef47d61d33a16386866a7def24762651bee27ce23c", func := "loop.example/g00942/laws.FnExactSuspectCells", spec := "fnExactSuspectCells", apart := false, narrowed := true }
def FnExactSuspectCellsUptoSaid : Prop := fnExactSuspectCellsUptoRow.holds Try.pinned (OpenSpec.upto fnExactSuspectCellsSpec)

end Rows
end Go.Proofs.Ytkefbmaagdaodaa
