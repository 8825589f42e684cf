/-
  No cell of these rows narrows 'for every input' (looked for: loops, veiled, ifaces, maps, wideKeys, modest, calm, conditions, laid).
  DERIVED. THE GIVEN ROWS OF THIS SEAT. 10 by the template 'for every input the law returns true; each argument reads behind the call as it read before'; 0 by the template 'total and deterministic' (their statements: YtgpmbmnfcbippaaTotals.lean).
  GIVEN WITH THE SEED: the statements are not yours to turn. If you find one false, say at which input.
  Laid BY PROGRAM, IN A SANDBOX (cutbox-rows.mjs): the forced cells as the released guide's own fill.sh prints them over the translation 190cb34ba38c9126… (all of the seat's roots in one cut). By AI agents, Wed Nov 11 2026. No macro, syntax, notation, axiom, sorry.
-/
import Derived.Test.YtgpmbmnfcbippaaChecked
import GoSem.Claim
import GoSem.ClaimJoined
import GoSem.ClaimMapViews
import Derived.JoinedTies
import Derived.KernelRfl
namespace Go.Proofs.Ytgpmbmnfcbippaa
/- THE CELL 'sum', in the pinned program and in every row, IS THE sha256 OF THE DUMP (.gsa) THAT YtgpmbmnfcbippaaProg.lean LOADS. Nothing in Lean hashes anything: it is a label: what it is worth is what the hold of that sum in a sandbox is worth. -/
noncomputable def Try.pinned : Pinned := { name := "ytgpmbmnfcbippaa", sum := "190cb34ba38c9126d8eb92bab7fe114cc466b0e49f7ce713c8345cdadb07e628", checked := Try.checked }
namespace Rows
def none {H : Type} : Left H := { results := [], args := [] }

/-- 'laws.FnExactHiddenFaults': WHATEVER THE INPUT: true; the input reads as it did. -/
def fnExactHiddenFaultsSpec : ChangeSpec := { name := "fnExactHiddenFaults", fn := fun _ => fun
  | [d1, d2] => { results := [.lit (.bool true)], args := [d1, d2] }
  | _ => none }
def fnExactHiddenFaultsRow : OpenClaim := { program := "ytgpmbmnfcbippaa", sum := "190cb34ba38c9126d8eb92bab7fe114cc466b0e49f7ce713c8345cdadb07e628", func := "loop.example/g00942/laws.FnExactHiddenFaults", spec := "fnExactHiddenFaults", apart := false }
def FnExactHiddenFaultsSaid : Prop := fnExactHiddenFaultsRow.holds Try.pinned (OpenSpec.ofChange fnExactHiddenFaultsSpec)

/-- ITS FALSE NEIGHBOUR: 'it returns false'. Refute it at one input. -/
def fnExactHiddenFaultsWrong : ChangeSpec := { name := "fnExactHiddenFaults", fn := fun _ => fun
  | [d1, d2] => { results := [.lit (.bool false)], args := [d1, d2] }
  | _ => none }
def FnExactHiddenFaultsWrongFalsely : Prop := fnExactHiddenFaultsRow.holds Try.pinned (OpenSpec.ofChange fnExactHiddenFaultsWrong)

/-- 'laws.FnExactSingleCauses': WHATEVER THE INPUT: true; the input reads as it did. -/
def fnExactSingleCausesSpec : ChangeSpec := { name := "fnExactSingleCauses", fn := fun _ => fun
  | [d1, d2, d3] => { results := [.lit (.bool true)], args := [d1, d2, d3] }
  | _ => none }
def fnExactSingleCausesRow : OpenClaim := { program := "ytgpmbmnfcbippaa", sum := "190cb34ba38c9126d8eb92bab7fe114cc466b0e49f7ce713c8345cdadb07e628", func := "loop.example/g00942/laws.FnExactSingleCauses", spec := "fnExactSingleCauses", apart := false }
def FnExactSingleCausesSaid : Prop := fnExactSingleCausesRow.holds Try.pinned (OpenSpec.ofChange fnExactSingleCausesSpec)

/-- ITS FALSE NEIGHBOUR: 'it returns false'. Refute it at one input. -/
def fnExactSingleCausesWrong : ChangeSpec := { name := "fnExactSingleCauses", fn := fun _ => fun
  | [d1, d2, d3] => { results := [.lit (.bool false)], args := [d1, d2, d3] }
  | _ => none }
def FnExactSingleCausesWrongFalsely : Prop := fnExactSingleCausesRow.holds Try.pinned (OpenSpec.ofChange fnExactSingleCausesWrong)

/-- 'laws.FnExactPairCauses': WHATEVER THE INPUT: true; the input reads as it did. -/
def fnExactPairCausesSpec : ChangeSpec := { name := "fnExactPairCauses", fn := fun _ => fun
  | [d1, d2, d3] => { results := [.lit (.bool true)], args := [d1, d2, d3] }
  | _ => none }
def fnExactPairCausesRow : OpenClaim := { program := "ytgpmbmnfcbippaa", sum := "190cb34ba38c9126d8eb92bab7fe114cc466b0e49f7ce713c8345cdadb07e628", func := "loop.example/g00942/laws.FnExactPairCauses", spec := "fnExactPairCauses", apart := false }
def FnExactPairCausesSaid : Prop := fnExactPairCausesRow.holds Try.pinned (OpenSpec.ofChange fnExactPairCausesSpec)

/-- ITS FALSE NEIGHBOUR: 'it returns false'. Refute it at one input. -/
def fnExactPairCausesWrong : ChangeSpec := { name := "fnExactPairCauses", fn := fun _ => fun
  | [d1, d2, d3] => { results := [.lit (.bool false)], args := [d1, d2, d3] }
  | _ => none }
def FnExactPairCausesWrongFalsely : Prop := fnExactPairCausesRow.holds Try.pinned (OpenSpec.ofChange fnExactPairCausesWrong)

/-- 'laws.FnExactSuspectCells': WHATEVER THE INPUT: true; the input reads as it did. -/
def fnExactSuspectCellsSpec : ChangeSpec := { name := "fnExactSuspectCells", fn := fun _ => fun
  | [d1, d2, d3] => { results := [.lit (.bool true)], args := [d1, d2, d3] }
  | _ => none }
def fnExactSuspectCellsRow : OpenClaim := { program := "ytgpmbmnfcbippaa", sum := "190cb34ba38c9126d8eb92bab7fe114cc466b0e49f7ce713c8345cdadb07e628", func := "loop.example/g00942/laws.FnExactSuspectCells", spec := "fnExactSuspectCells", apart := false }
def FnExactSuspectCellsSaid : Prop := fnExactSuspectCellsRow.holds Try.pinned (OpenSpec.ofChange fnExactSuspectCellsSpec)

/-- ITS FALSE NEIGHBOUR: 'it returns false'. Refute it at one input. -/
def fnExactSuspectCellsWrong : ChangeSpec := { name := "fnExactSuspectCells", fn := fun _ => fun
  | [d1, d2, d3] => { results := [.lit (.bool false)], args := [d1, d2, d3] }
  | _ => none }
def FnExactSuspectCellsWrongFalsely : Prop := fnExactSuspectCellsRow.holds Try.pinned (OpenSpec.ofChange fnExactSuspectCellsWrong)

/-- 'laws.FnExactSoundCells': WHATEVER THE INPUT: true; the input reads as it did. -/
def fnExactSoundCellsSpec : ChangeSpec := { name := "fnExactSoundCells", fn := fun _ => fun
  | [d1, d2, d3] => { results := [.lit (.bool true)], args := [d1, d2, d3] }
  | _ => none }
def fnExactSoundCellsRow : OpenClaim := { program := "ytgpmbmnfcbippaa", sum := "190cb34ba38c9126d8eb92bab7fe114cc466b0e49f7ce713c8345cdadb07e628", func := "loop.example/g00942/laws.FnExactSoundCells", spec := "fnExactSoundCells", apart := false }
def FnExactSoundCellsSaid : Prop := fnExactSoundCellsRow.holds Try.pinned (OpenSpec.ofChange fnExactSoundCellsSpec)

/-- ITS FALSE NEIGHBOUR: 'it returns false'. Refute it at one input. -/
def fnExactSoundCellsWrong : ChangeSpec := { name := "fnExactSoundCells", fn := fun _ => fun
  | [d1, d2, d3] => { results := [.lit (.bool false)], args := [d1, d2, d3] }
  | _ => none }
def FnExactSoundCellsWrongFalsely : Prop := fnExactSoundCellsRow.holds Try.pinned (OpenSpec.ofChange fnExactSoundCellsWrong)

/-- 'laws.FnExactTestEnds': WHATEVER THE INPUT: true; the input reads as it did. -/
def fnExactTestEndsSpec : ChangeSpec := { name := "fnExactTestEnds", fn := fun _ => fun
  | [d1, d2, d3] => { results := [.lit (.bool true)], args := [d1, d2, d3] }
  | _ => none }
def fnExactTestEndsRow : OpenClaim := { program := "ytgpmbmnfcbippaa", sum := "190cb34ba38c9126d8eb92bab7fe114cc466b0e49f7ce713c8345cdadb07e628", func := "loop.example/g00942/laws.FnExactTestEnds", spec := "fnExactTestEnds", apart := false }
def FnExactTestEndsSaid : Prop := fnExactTestEndsRow.holds Try.pinned (OpenSpec.ofChange fnExactTestEndsSpec)

/-- ITS FALSE NEIGHBOUR: 'it returns false'. Refute it at one input. -/
def fnExactTestEndsWrong : ChangeSpec := { name := "fnExactTestEnds", fn := fun _ => fun
  | [d1, d2, d3] => { results := [.lit (.bool false)], args := [d1, d2, d3] }
  | _ => none }
def FnExactTestEndsWrongFalsely : Prop := fnExactTestEndsRow.holds Try.pinned (OpenSpec.ofChange fnExactTestEndsWrong)

/-- 'laws.FnExactDetectedFaults': WHATEVER THE INPUT: true; the input reads as it did. -/
def fnExactDetectedFaultsSpec : ChangeSpec := { name := "fnExactDetectedFaults", fn := fun _ => fun
  | [d1, d2] => { results := [.lit (.bool true)], args := [d1, d2] }
  | _ => none }
def fnExactDetectedFaultsRow : OpenClaim := { program := "ytgpmbmnfcbippaa", sum := "190cb34ba38c9126d8eb92bab7fe114cc466b0e49f7ce713c8345cdadb07e628", func := "loop.example/g00942/laws.FnExactDetectedFaults", spec := "fnExactDetectedFaults", apart := false }
def FnExactDetectedFaultsSaid : Prop := fnExactDetectedFaultsRow.holds Try.pinned (OpenSpec.ofChange fnExactDetectedFaultsSpec)

/-- ITS FALSE NEIGHBOUR: 'it returns false'. Refute it at one input. -/
def fnExactDetectedFaultsWrong : ChangeSpec := { name := "fnExactDetectedFaults", fn := fun _ => fun
  | [d1, d2] => { results := [.lit (.bool false)], args := [d1, d2] }
  | _ => none }
def FnExactDetectedFaultsWrongFalsely : Prop := fnExactDetectedFaultsRow.holds Try.pinned (OpenSpec.ofChange fnExactDetectedFaultsWrong)

/-- 'laws.FnExactFaultClasses': WHATEVER THE INPUT: true; the input reads as it did. -/
def fnExactFaultClassesSpec : ChangeSpec := { name := "fnExactFaultClasses", fn := fun _ => fun
  | [d1, d2] => { results := [.lit (.bool true)], args := [d1, d2] }
  | _ => none }
def fnExactFaultClassesRow : OpenClaim := { program := "ytgpmbmnfcbippaa", sum := "190cb34ba38c9126d8eb92bab7fe114cc466b0e49f7ce713c8345cdadb07e628", func := "loop.example/g00942/laws.FnExactFaultClasses", spec := "fnExactFaultClasses", apart := false }
def FnExactFaultClassesSaid : Prop := fnExactFaultClassesRow.holds Try.pinned (OpenSpec.ofChange fnExactFaultClassesSpec)

/-- ITS FALSE NEIGHBOUR: 'it returns false'. Refute it at one input. -/
def fnExactFaultClassesWrong : ChangeSpec := { name := "fnExactFaultClasses", fn := fun _ => fun
  | [d1, d2] => { results := [.lit (.bool false)], args := [d1, d2] }
  | _ => none }
def FnExactFaultClassesWrongFalsely : Prop := fnExactFaultClassesRow.holds Try.pinned (OpenSpec.ofChange fnExactFaultClassesWrong)

/-- 'laws.FnExactFaultsLike': WHATEVER THE INPUT: true; the input reads as it did. -/
def fnExactFaultsLikeSpec : ChangeSpec := { name := "fnExactFaultsLike", fn := fun _ => fun
  | [d1, d2, d3] => { results := [.lit (.bool true)], args := [d1, d2, d3] }
  | _ => none }
def fnExactFaultsLikeRow : OpenClaim := { program := "ytgpmbmnfcbippaa", sum := "190cb34ba38c9126d8eb92bab7fe114cc466b0e49f7ce713c8345cdadb07e628", func := "loop.example/g00942/laws.FnExactFaultsLike", spec := "fnExactFaultsLike", apart := false }
def FnExactFaultsLikeSaid : Prop := fnExactFaultsLikeRow.holds Try.pinned (OpenSpec.ofChange fnExactFaultsLikeSpec)

/-- ITS FALSE NEIGHBOUR: 'it returns false'. Refute it at one input. -/
def fnExactFaultsLikeWrong : ChangeSpec := { name := "fnExactFaultsLike", fn := fun _ => fun
  | [d1, d2, d3] => { results := [.lit (.bool false)], args := [d1, d2, d3] }
  | _ => none }
def FnExactFaultsLikeWrongFalsely : Prop := fnExactFaultsLikeRow.holds Try.pinned (OpenSpec.ofChange fnExactFaultsLikeWrong)

/-- 'laws.FnExactBestFirstTest': WHATEVER THE INPUT: true; the input reads as it did. -/
def fnExactBestFirstTestSpec : ChangeSpec := { name := "fnExactBestFirstTest", fn := fun _ => fun
  | [d1, d2] => { results := [.lit (.bool true)], args := [d1, d2] }
  | _ => none }
def fnExactBestFirstTestRow : OpenClaim := { program := "ytgpmbmnfcbippaa", sum := "190cb34ba38c9126d8eb92bab7fe114cc466b0e49f7ce713c8345cdadb07e628", func := "loop.example/g00942/laws.FnExactBestFirstTest", spec := "fnExactBestFirstTest", apart := false }
def FnExactBestFirstTestSaid : Prop := fnExactBestFirstTestRow.holds Try.pinned (OpenSpec.ofChange fnExactBestFirstTestSpec)

/-- ITS FALSE NEIGHBOUR: 'it returns false'. Refute it at one input. -/
def fnExactBestFirstTestWrong : ChangeSpec := { name := "fnExactBestFirstTest", fn := fun _ => fun
  | [d1, d2] => { results := [.lit (.bool false)], args := [d1, d2] }
  | _ => none }
def FnExactBestFirstTestWrongFalsely : Prop := fnExactBestFirstTestRow.holds Try.pinned (OpenSpec.ofChange fnExactBestFirstTestWrong)

/- THE SECOND FORM. 'bulk': how many values and letters a reading holds, each counted each time it is reached (what is shared counts as often as it is met; a slice's spare places count too). A statement '..UptoSaid' is the law's where the arguments, and the package variables that the reading takes, are together of bulk at most 1048576: NARROWER than '..Said'. Prove '..Said' where nothing that the law and all that it calls make is longer than what came in: it says more and counts as full. Else prove '..UptoSaid'. A law counts once. -/
mutual
def uptoBulk {H : Type} : DataW H → Nat
  | .lit (.string bytes) => bytes.length + 1
  | .lit _ => 1
  | .nil => 1
  | .ptr d => uptoBulk d + 1
  | .slice elems spare => uptoBulkAll elems + uptoBulkAll spare + 1
  | .agg parts => uptoBulkAll parts + 1
  | .iface _ d => uptoBulk d + 1
  | .map entries => uptoBulkEntries entries + 1
  | .held _ => 1
def uptoBulkAll {H : Type} : List (DataW H) → Nat
  | [] => 0
  | d :: r => uptoBulk d + uptoBulkAll r
def uptoBulkEntries {H : Type} : List (Lit × DataW H) → Nat
  | [] => 0
  | x :: r => uptoBulkEntry x + uptoBulkEntries r
def uptoBulkEntry {H : Type} : Lit × DataW H → Nat
  | (.string bytes, d) => bytes.length + uptoBulk d + 1
  | (_, d) => uptoBulk d + 1
 end
def uptoSmall : (H : Type) → List (DataW H) → Bool := fun _ ds => decide (uptoBulkAll ds ≤ 1048576)
def OpenSpec.upto (s : _root_.Go.ChangeSpec) : _root_.Go.OpenSpec := { _root_.Go.OpenSpec.ofChange s with cond := some uptoSmall }

/-- 'laws.FnExactHiddenFaults', WHERE WHAT IT READS IS OF BULK AT MOST 1048576: true; the input reads as it did. -/
def fnExactHiddenFaultsUptoRow : OpenClaim := { program := "ytgpmbmnfcbippaa", sum := "190cb34ba38c9126d8eb92bab7fe114cc466b0e49f7ce713c8345cdadb07e628", func := "loop.example/g00942/laws.FnExactHiddenFaults", spec := "fnExactHiddenFaults", apart := false, narrowed := true }
def FnExactHiddenFaultsUptoSaid : Prop := fnExactHiddenFaultsUptoRow.holds Try.pinned (OpenSpec.upto fnExactHiddenFaultsSpec)

/-- 'laws.FnExactSingleCauses', WHERE WHAT IT READS IS OF BULK AT MOST 1048576: true; the input reads as it did. -/
def fnExactSingleCausesUptoRow : OpenClaim := { program := "ytgpmbmnfcbippaa", sum := "190cb34ba38c9126d8eb92bab7fe114cc466b0e49f7ce713c8345cdadb07e628", func := "loop.example/g00942/laws.FnExactSingleCauses", spec := "fnExactSingleCauses", apart := false, narrowed := true }
def FnExactSingleCausesUptoSaid : Prop := fnExactSingleCausesUptoRow.holds Try.pinned (OpenSpec.upto fnExactSingleCausesSpec)

/-- 'laws.FnExactPairCauses', WHERE WHAT IT READS IS OF BULK AT MOST 1048576: true; the input reads as it did. -/
def fnExactPairCausesUptoRow : OpenClaim := { program := "ytgpmbmnfcbippaa", sum := "190cb34ba38c9126d8eb92bab7fe114cc466b0e49f7ce713c8345cdadb07e628", func := "loop.example/g00942/laws.FnExactPairCauses", spec := "fnExactPairCauses", apart := false, narrowed := true }
def FnExactPairCausesUptoSaid : Prop := fnExactPairCausesUptoRow.holds Try.pinned (OpenSpec.upto fnExactPairCausesSpec)

/-- 'laws.FnExactSuspectCells', WHERE WHAT IT READS IS OF BULK AT MOST 1048576: true; the input reads as it did. -/
def fnExactSuspectCellsUptoRow : OpenClaim := { program := "ytgpmbmnfcbippaa", sum := "190cb34ba38c9126d8eb92bab7fe114cc466b0e49f7ce713c8345cdadb07e628", func := "loop.example/g00942/laws.FnExactSuspectCells", spec := "fnExactSuspectCells", apart := false, narrowed := true }
def FnExactSuspectCellsUptoSaid : Prop := fnExactSuspectCellsUptoRow.holds Try.pinned (OpenSpec.upto fnExactSuspectCellsSpec)

/-- 'laws.FnExactSoundCells', WHERE WHAT IT READS IS OF BULK AT MOST 1048576: true; the input reads as it did. -/
def fnExactSoundCellsUptoRow : OpenClaim := { program := "ytgpmbmnfcbippaa", sum := "190cb34ba38c9126d8eb92bab7fe114cc466b0e49f7ce713c8345cdadb07e628", func := "loop.example/g00942/laws.FnExactSoundCells", spec := "fnExactSoundCells", apart := false, narrowed := true }
def FnExactSoundCellsUptoSaid : Prop := fnExactSoundCellsUptoRow.holds Try.pinned (OpenSpec.upto fnExactSoundCellsSpec)

/-- 'laws.FnExactTestEnds', WHERE WHAT IT READS IS OF BULK AT MOST 1048576: true; the input reads as it did. -/
def fnExactTestEndsUptoRow : OpenClaim := { program := "ytgpmbmnfcbippaa", sum := "190cb34ba38c9126d8eb92bab7fe114cc466b0e49f7ce713c8345cdadb07e628", func := "loop.example/g00942/laws.FnExactTestEnds", spec := "fnExactTestEnds", apart := false, narrowed := true }
def FnExactTestEndsUptoSaid : Prop := fnExactTestEndsUptoRow.holds Try.pinned (OpenSpec.upto fnExactTestEndsSpec)

/-- 'laws.FnExactDetectedFaults', WHERE WHAT IT READS IS OF BULK AT MOST 1048576: true; the input reads as it did. -/
def fnExactDetectedFaultsUptoRow : OpenClaim := { program := "ytgpmbmnfcbippaa", sum := "190cb34ba38c9126d8eb92bab7fe114cc466b0e49f7ce713c8345cdadb07e628", func := "loop.example/g00942/laws.FnExactDetectedFaults", spec := "fnExactDetectedFaults", apart := false, narrowed := true }
def FnExactDetectedFaultsUptoSaid : Prop := fnExactDetectedFaultsUptoRow.holds Try.pinned (OpenSpec.upto fnExactDetectedFaultsSpec)

/-- 'laws.FnExactFaultClasses', WHERE WHAT IT READS IS OF BULK AT MOST 1048576: true; the input reads as it did. -/
def fnExactFaultClassesUptoRow : OpenClaim := { program := "ytgpmbmnfcbippaa", sum := "190cb34ba38c9126d8eb92bab7fe114cc466b0e49f7ce713c8345cdadb07e628", func := "loop.example/g00942/laws.FnExactFaultClasses", spec := "fnExactFaultClasses", apart := false, narrowed := true }
def FnExactFaultClassesUptoSaid : Prop := fnExactFaultClassesUptoRow.holds Try.pinned (OpenSpec.upto fnExactFaultClassesSpec)

/-- 'laws.FnExactFaultsLike', WHERE WHAT IT READS IS OF BULK AT MOST 1048576: true; the input reads as it did. -/
def fnExactFaultsLikeUptoRow : OpenClaim := { program := "ytgpmbmnfcbippaa", sum := "190cb34ba38c9126d8eb92bab7fe114cc466b0e49f7ce713c8345cdadb07e628", func := "loop.example/g00942/laws.FnExactFaultsLike", spec := "fnExactFaultsLike", apart := false, narrowed := true }
def FnExactFaultsLikeUptoSaid : Prop := fnExactFaultsLikeUptoRow.holds Try.pinned (OpenSpec.upto fnExactFaultsLikeSpec)

/-- 'laws.FnExactBestFirstTest', WHERE WHAT IT READS IS OF BULK AT MOST 1048576: true; the input reads as it did. -/
def fnExactBestFirstTestUptoRow : OpenClaim := { program := "ytgpmbmnfcbippaa", sum := "190cb34ba38c9126d8eb92bab7fe114cc466b0e49f7ce713c8345cdadb07e628", func := "loop.example/g00942/laws.FnExactBestFirstTest", spec := "fnExactBestFirstTest", apart := false, narrowed := true }
def FnExactBestFirstTestUptoSaid : Prop := fnExactBestFirstTestUptoRow.holds Try.pinned (OpenSpec.upto fnExactBestFirstTestSpec)

end Rows
end Go.Proofs.Ytgpmbmnfcbippaa
