/-
  No cell of these rows narrows 'for every input' (looked for: loops, veiled, ifaces, maps, wideKeys, modest, calm, conditions, laid).
  DERIVED. THE GIVEN ROWS OF THIS SEAT. 12 by the template 'for every input the law returns true; each argument reads behind the call as it read before'; 0 by the template 'total and deterministic' (their statements: YtcmndffpmjinlaaTotals.lean).
  GIVEN WITH THE SEED: the statements are not yours to turn. If you find one false, say at which input.
  Laid BY PROGRAM, IN A SANDBOX (cutbox-rows.mjs): the forced cells as the released guide's own fill.sh prints them over the translation a31b664438d4421d… (all of the seat's roots in one cut). By AI agents, Wed Nov 11 2026. No macro, syntax, notation, axiom, sorry.
-/
import Derived.Test.YtcmndffpmjinlaaChecked
import GoSem.Claim
import GoSem.ClaimJoined
import GoSem.ClaimMapViews
import Derived.JoinedTies
import Derived.KernelRfl
namespace Go.Proofs.Ytcmndffpmjinlaa
/- THE CELL 'sum', in the pinned program and in every row, IS THE sha256 OF THE DUMP (.gsa) THAT YtcmndffpmjinlaaProg.lean LOADS. Nothing in Lean hashes anything: it is a label: what it is worth is what the hold of that sum in a sandbox is worth. -/
noncomputable def Try.pinned : Pinned := { name := "ytcmndffpmjinlaa", sum := "a31b664438d4421d154bf2cf3ee1d471dfd0994bb89dde5413cff163f18e0dc7", checked := Try.checked }
namespace Rows
def none {H : Type} : Left H := { results := [], args := [] }

/-- 'laws.FnExactTolerated': WHATEVER THE INPUT: true; the input reads as it did. -/
def fnExactToleratedSpec : ChangeSpec := { name := "fnExactTolerated", fn := fun _ => fun
  | [d] => { results := [.lit (.bool true)], args := [d] }
  | _ => none }
def fnExactToleratedRow : OpenClaim := { program := "ytcmndffpmjinlaa", sum := "a31b664438d4421d154bf2cf3ee1d471dfd0994bb89dde5413cff163f18e0dc7", func := "loop.example/g00942/laws.FnExactTolerated", spec := "fnExactTolerated", apart := false }
def FnExactToleratedSaid : Prop := fnExactToleratedRow.holds Try.pinned (OpenSpec.ofChange fnExactToleratedSpec)

/-- ITS FALSE NEIGHBOUR: 'it returns false'. Refute it at one input. -/
def fnExactToleratedWrong : ChangeSpec := { name := "fnExactTolerated", fn := fun _ => fun
  | [d] => { results := [.lit (.bool false)], args := [d] }
  | _ => none }
def FnExactToleratedWrongFalsely : Prop := fnExactToleratedRow.holds Try.pinned (OpenSpec.ofChange fnExactToleratedWrong)

/-- 'laws.FnExactFlipsToWin': WHATEVER THE INPUT: true; the input reads as it did. -/
def fnExactFlipsToWinSpec : ChangeSpec := { name := "fnExactFlipsToWin", fn := fun _ => fun
  | [d1, d2] => { results := [.lit (.bool true)], args := [d1, d2] }
  | _ => none }
def fnExactFlipsToWinRow : OpenClaim := { program := "ytcmndffpmjinlaa", sum := "a31b664438d4421d154bf2cf3ee1d471dfd0994bb89dde5413cff163f18e0dc7", func := "loop.example/g00942/laws.FnExactFlipsToWin", spec := "fnExactFlipsToWin", apart := false }
def FnExactFlipsToWinSaid : Prop := fnExactFlipsToWinRow.holds Try.pinned (OpenSpec.ofChange fnExactFlipsToWinSpec)

/-- ITS FALSE NEIGHBOUR: 'it returns false'. Refute it at one input. -/
def fnExactFlipsToWinWrong : ChangeSpec := { name := "fnExactFlipsToWin", fn := fun _ => fun
  | [d1, d2] => { results := [.lit (.bool false)], args := [d1, d2] }
  | _ => none }
def FnExactFlipsToWinWrongFalsely : Prop := fnExactFlipsToWinRow.holds Try.pinned (OpenSpec.ofChange fnExactFlipsToWinWrong)

/-- 'laws.FnExactChanceRight': WHATEVER THE INPUT: true; the input reads as it did. -/
def fnExactChanceRightSpec : ChangeSpec := { name := "fnExactChanceRight", fn := fun _ => fun
  | [d1, d2, d3] => { results := [.lit (.bool true)], args := [d1, d2, d3] }
  | _ => none }
def fnExactChanceRightRow : OpenClaim := { program := "ytcmndffpmjinlaa", sum := "a31b664438d4421d154bf2cf3ee1d471dfd0994bb89dde5413cff163f18e0dc7", func := "loop.example/g00942/laws.FnExactChanceRight", spec := "fnExactChanceRight", apart := false }
def FnExactChanceRightSaid : Prop := fnExactChanceRightRow.holds Try.pinned (OpenSpec.ofChange fnExactChanceRightSpec)

/-- ITS FALSE NEIGHBOUR: 'it returns false'. Refute it at one input. -/
def fnExactChanceRightWrong : ChangeSpec := { name := "fnExactChanceRight", fn := fun _ => fun
  | [d1, d2, d3] => { results := [.lit (.bool false)], args := [d1, d2, d3] }
  | _ => none }
def FnExactChanceRightWrongFalsely : Prop := fnExactChanceRightRow.holds Try.pinned (OpenSpec.ofChange fnExactChanceRightWrong)

/-- 'laws.FnExactMostVoted': WHATEVER THE INPUT: true; the input reads as it did. -/
def fnExactMostVotedSpec : ChangeSpec := { name := "fnExactMostVoted", fn := fun _ => fun
  | [d] => { results := [.lit (.bool true)], args := [d] }
  | _ => none }
def fnExactMostVotedRow : OpenClaim := { program := "ytcmndffpmjinlaa", sum := "a31b664438d4421d154bf2cf3ee1d471dfd0994bb89dde5413cff163f18e0dc7", func := "loop.example/g00942/laws.FnExactMostVoted", spec := "fnExactMostVoted", apart := false }
def FnExactMostVotedSaid : Prop := fnExactMostVotedRow.holds Try.pinned (OpenSpec.ofChange fnExactMostVotedSpec)

/-- ITS FALSE NEIGHBOUR: 'it returns false'. Refute it at one input. -/
def fnExactMostVotedWrong : ChangeSpec := { name := "fnExactMostVoted", fn := fun _ => fun
  | [d] => { results := [.lit (.bool false)], args := [d] }
  | _ => none }
def FnExactMostVotedWrongFalsely : Prop := fnExactMostVotedRow.holds Try.pinned (OpenSpec.ofChange fnExactMostVotedWrong)

/-- 'laws.FnExactLeastCopies': WHATEVER THE INPUT: true; the input reads as it did. -/
def fnExactLeastCopiesSpec : ChangeSpec := { name := "fnExactLeastCopies", fn := fun _ => fun
  | [d1, d2, d3, d4] => { results := [.lit (.bool true)], args := [d1, d2, d3, d4] }
  | _ => none }
def fnExactLeastCopiesRow : OpenClaim := { program := "ytcmndffpmjinlaa", sum := "a31b664438d4421d154bf2cf3ee1d471dfd0994bb89dde5413cff163f18e0dc7", func := "loop.example/g00942/laws.FnExactLeastCopies", spec := "fnExactLeastCopies", apart := false }
def FnExactLeastCopiesSaid : Prop := fnExactLeastCopiesRow.holds Try.pinned (OpenSpec.ofChange fnExactLeastCopiesSpec)

/-- ITS FALSE NEIGHBOUR: 'it returns false'. Refute it at one input. -/
def fnExactLeastCopiesWrong : ChangeSpec := { name := "fnExactLeastCopies", fn := fun _ => fun
  | [d1, d2, d3, d4] => { results := [.lit (.bool false)], args := [d1, d2, d3, d4] }
  | _ => none }
def FnExactLeastCopiesWrongFalsely : Prop := fnExactLeastCopiesRow.holds Try.pinned (OpenSpec.ofChange fnExactLeastCopiesWrong)

/-- 'laws.FnExactMajorityOf': WHATEVER THE INPUT: true; the input reads as it did. -/
def fnExactMajorityOfSpec : ChangeSpec := { name := "fnExactMajorityOf", fn := fun _ => fun
  | [d] => { results := [.lit (.bool true)], args := [d] }
  | _ => none }
def fnExactMajorityOfRow : OpenClaim := { program := "ytcmndffpmjinlaa", sum := "a31b664438d4421d154bf2cf3ee1d471dfd0994bb89dde5413cff163f18e0dc7", func := "loop.example/g00942/laws.FnExactMajorityOf", spec := "fnExactMajorityOf", apart := false }
def FnExactMajorityOfSaid : Prop := fnExactMajorityOfRow.holds Try.pinned (OpenSpec.ofChange fnExactMajorityOfSpec)

/-- ITS FALSE NEIGHBOUR: 'it returns false'. Refute it at one input. -/
def fnExactMajorityOfWrong : ChangeSpec := { name := "fnExactMajorityOf", fn := fun _ => fun
  | [d] => { results := [.lit (.bool false)], args := [d] }
  | _ => none }
def FnExactMajorityOfWrongFalsely : Prop := fnExactMajorityOfRow.holds Try.pinned (OpenSpec.ofChange fnExactMajorityOfWrong)

/-- 'laws.FnExactWeightedVote': WHATEVER THE INPUT: true; the input reads as it did. -/
def fnExactWeightedVoteSpec : ChangeSpec := { name := "fnExactWeightedVote", fn := fun _ => fun
  | [d1, d2] => { results := [.lit (.bool true)], args := [d1, d2] }
  | _ => none }
def fnExactWeightedVoteRow : OpenClaim := { program := "ytcmndffpmjinlaa", sum := "a31b664438d4421d154bf2cf3ee1d471dfd0994bb89dde5413cff163f18e0dc7", func := "loop.example/g00942/laws.FnExactWeightedVote", spec := "fnExactWeightedVote", apart := false }
def FnExactWeightedVoteSaid : Prop := fnExactWeightedVoteRow.holds Try.pinned (OpenSpec.ofChange fnExactWeightedVoteSpec)

/-- ITS FALSE NEIGHBOUR: 'it returns false'. Refute it at one input. -/
def fnExactWeightedVoteWrong : ChangeSpec := { name := "fnExactWeightedVote", fn := fun _ => fun
  | [d1, d2] => { results := [.lit (.bool false)], args := [d1, d2] }
  | _ => none }
def FnExactWeightedVoteWrongFalsely : Prop := fnExactWeightedVoteRow.holds Try.pinned (OpenSpec.ofChange fnExactWeightedVoteWrong)

/-- 'laws.FnExactIsShop': WHATEVER THE INPUT: true; the input reads as it did. -/
def fnExactIsShopSpec : ChangeSpec := { name := "fnExactIsShop", fn := fun _ => fun
  | [d] => { results := [.lit (.bool true)], args := [d] }
  | _ => none }
def fnExactIsShopRow : OpenClaim := { program := "ytcmndffpmjinlaa", sum := "a31b664438d4421d154bf2cf3ee1d471dfd0994bb89dde5413cff163f18e0dc7", func := "loop.example/g00942/laws.FnExactIsShop", spec := "fnExactIsShop", apart := false }
def FnExactIsShopSaid : Prop := fnExactIsShopRow.holds Try.pinned (OpenSpec.ofChange fnExactIsShopSpec)

/-- ITS FALSE NEIGHBOUR: 'it returns false'. Refute it at one input. -/
def fnExactIsShopWrong : ChangeSpec := { name := "fnExactIsShop", fn := fun _ => fun
  | [d] => { results := [.lit (.bool false)], args := [d] }
  | _ => none }
def FnExactIsShopWrongFalsely : Prop := fnExactIsShopRow.holds Try.pinned (OpenSpec.ofChange fnExactIsShopWrong)

/-- 'laws.FnExactTieCount': WHATEVER THE INPUT: true; the input reads as it did. -/
def fnExactTieCountSpec : ChangeSpec := { name := "fnExactTieCount", fn := fun _ => fun
  | [d] => { results := [.lit (.bool true)], args := [d] }
  | _ => none }
def fnExactTieCountRow : OpenClaim := { program := "ytcmndffpmjinlaa", sum := "a31b664438d4421d154bf2cf3ee1d471dfd0994bb89dde5413cff163f18e0dc7", func := "loop.example/g00942/laws.FnExactTieCount", spec := "fnExactTieCount", apart := false }
def FnExactTieCountSaid : Prop := fnExactTieCountRow.holds Try.pinned (OpenSpec.ofChange fnExactTieCountSpec)

/-- ITS FALSE NEIGHBOUR: 'it returns false'. Refute it at one input. -/
def fnExactTieCountWrong : ChangeSpec := { name := "fnExactTieCount", fn := fun _ => fun
  | [d] => { results := [.lit (.bool false)], args := [d] }
  | _ => none }
def FnExactTieCountWrongFalsely : Prop := fnExactTieCountRow.holds Try.pinned (OpenSpec.ofChange fnExactTieCountWrong)

/-- 'laws.FnExactVotedRows': WHATEVER THE INPUT: true; the input reads as it did. -/
def fnExactVotedRowsSpec : ChangeSpec := { name := "fnExactVotedRows", fn := fun _ => fun
  | [d] => { results := [.lit (.bool true)], args := [d] }
  | _ => none }
def fnExactVotedRowsRow : OpenClaim := { program := "ytcmndffpmjinlaa", sum := "a31b664438d4421d154bf2cf3ee1d471dfd0994bb89dde5413cff163f18e0dc7", func := "loop.example/g00942/laws.FnExactVotedRows", spec := "fnExactVotedRows", apart := false }
def FnExactVotedRowsSaid : Prop := fnExactVotedRowsRow.holds Try.pinned (OpenSpec.ofChange fnExactVotedRowsSpec)

/-- ITS FALSE NEIGHBOUR: 'it returns false'. Refute it at one input. -/
def fnExactVotedRowsWrong : ChangeSpec := { name := "fnExactVotedRows", fn := fun _ => fun
  | [d] => { results := [.lit (.bool false)], args := [d] }
  | _ => none }
def FnExactVotedRowsWrongFalsely : Prop := fnExactVotedRowsRow.holds Try.pinned (OpenSpec.ofChange fnExactVotedRowsWrong)

/-- 'laws.FnExactSuspectCopies': WHATEVER THE INPUT: true; the input reads as it did. -/
def fnExactSuspectCopiesSpec : ChangeSpec := { name := "fnExactSuspectCopies", fn := fun _ => fun
  | [d] => { results := [.lit (.bool true)], args := [d] }
  | _ => none }
def fnExactSuspectCopiesRow : OpenClaim := { program := "ytcmndffpmjinlaa", sum := "a31b664438d4421d154bf2cf3ee1d471dfd0994bb89dde5413cff163f18e0dc7", func := "loop.example/g00942/laws.FnExactSuspectCopies", spec := "fnExactSuspectCopies", apart := false }
def FnExactSuspectCopiesSaid : Prop := fnExactSuspectCopiesRow.holds Try.pinned (OpenSpec.ofChange fnExactSuspectCopiesSpec)

/-- ITS FALSE NEIGHBOUR: 'it returns false'. Refute it at one input. -/
def fnExactSuspectCopiesWrong : ChangeSpec := { name := "fnExactSuspectCopies", fn := fun _ => fun
  | [d] => { results := [.lit (.bool false)], args := [d] }
  | _ => none }
def FnExactSuspectCopiesWrongFalsely : Prop := fnExactSuspectCopiesRow.holds Try.pinned (OpenSpec.ofChange fnExactSuspectCopiesWrong)

/-- 'laws.FnExactAreTests': WHATEVER THE INPUT: true; the input reads as it did. -/
def fnExactAreTestsSpec : ChangeSpec := { name := "fnExactAreTests", fn := fun _ => fun
  | [d1, d2] => { results := [.lit (.bool true)], args := [d1, d2] }
  | _ => none }
def fnExactAreTestsRow : OpenClaim := { program := "ytcmndffpmjinlaa", sum := "a31b664438d4421d154bf2cf3ee1d471dfd0994bb89dde5413cff163f18e0dc7", func := "loop.example/g00942/laws.FnExactAreTests", spec := "fnExactAreTests", apart := false }
def FnExactAreTestsSaid : Prop := fnExactAreTestsRow.holds Try.pinned (OpenSpec.ofChange fnExactAreTestsSpec)

/-- ITS FALSE NEIGHBOUR: 'it returns false'. Refute it at one input. -/
def fnExactAreTestsWrong : ChangeSpec := { name := "fnExactAreTests", fn := fun _ => fun
  | [d1, d2] => { results := [.lit (.bool false)], args := [d1, d2] }
  | _ => none }
def FnExactAreTestsWrongFalsely : Prop := fnExactAreTestsRow.holds Try.pinned (OpenSpec.ofChange fnExactAreTestsWrong)

/- THE SECOND FORM. 'bulk': how many values and letters a reading holds, each counted each time it is reached (what is shared counts as often as it is met; a slice's spare places count too). A statement '..UptoSaid' is the law's where the arguments, and the package variables that the reading takes, are together of bulk at most 1048576: NARROWER than '..Said'. Prove '..Said' where nothing that the law and all that it calls make is longer than what came in: it says more and counts as full. Else prove '..UptoSaid'. A law counts once. -/
mutual
def uptoBulk {H : Type} : DataW H → Nat
  | .lit (.string bytes) => bytes.length + 1
  | .lit _ => 1
  | .nil => 1
  | .ptr d => uptoBulk d + 1
  | .slice elems spare => uptoBulkAll elems + uptoBulkAll spare + 1
  | .agg parts => uptoBulkAll parts + 1
  | .iface _ d => uptoBulk d + 1
  | .map entries => uptoBulkEntries entries + 1
  | .held _ => 1
def uptoBulkAll {H : Type} : List (DataW H) → Nat
  | [] => 0
  | d :: r => uptoBulk d + uptoBulkAll r
def uptoBulkEntries {H : Type} : List (Lit × DataW H) → Nat
  | [] => 0
  | x :: r => uptoBulkEntry x + uptoBulkEntries r
def uptoBulkEntry {H : Type} : Lit × DataW H → Nat
  | (.string bytes, d) => bytes.length + uptoBulk d + 1
  | (_, d) => uptoBulk d + 1
 end
def uptoSmall : (H : Type) → List (DataW H) → Bool := fun _ ds => decide (uptoBulkAll ds ≤ 1048576)
def OpenSpec.upto (s : _root_.Go.ChangeSpec) : _root_.Go.OpenSpec := { _root_.Go.OpenSpec.ofChange s with cond := some uptoSmall }

/-- 'laws.FnExactTolerated', WHERE WHAT IT READS IS OF BULK AT MOST 1048576: true; the input reads as it did. -/
def fnExactToleratedUptoRow : OpenClaim := { program := "ytcmndffpmjinlaa", sum := "a31b664438d4421d154bf2cf3ee1d471dfd0994bb89dde5413cff163f18e0dc7", func := "loop.example/g00942/laws.FnExactTolerated", spec := "fnExactTolerated", apart := false, narrowed := true }
def FnExactToleratedUptoSaid : Prop := fnExactToleratedUptoRow.holds Try.pinned (OpenSpec.upto fnExactToleratedSpec)

/-- 'laws.FnExactFlipsToWin', WHERE WHAT IT READS IS OF BULK AT MOST 1048576: true; the input reads as it did. -/
def fnExactFlipsToWinUptoRow : OpenClaim := { program := "ytcmndffpmjinlaa", sum := "a31b664438d4421d154bf2cf3ee1d471dfd0994bb89dde5413cff163f18e0dc7", func := "loop.example/g00942/laws.FnExactFlipsToWin", spec := "fnExactFlipsToWin", apart := false, narrowed := true }
def FnExactFlipsToWinUptoSaid : Prop := fnExactFlipsToWinUptoRow.holds Try.pinned (OpenSpec.upto fnExactFlipsToWinSpec)

/-- 'laws.FnExactChanceRight', WHERE WHAT IT READS IS OF BULK AT MOST 1048576: true; the input reads as it did. -/
def fnExactChanceRightUptoRow : OpenClaim := { program := "ytcmndffpmjinlaa", sum := "a31b664438d4421d154bf2cf3ee1d471dfd0994bb89dde5413cff163f18e0dc7", func := "loop.example/g00942/laws.FnExactChanceRight", spec := "fnExactChanceRight", apart := false, narrowed := true }
def FnExactChanceRightUptoSaid : Prop := fnExactChanceRightUptoRow.holds Try.pinned (OpenSpec.upto fnExactChanceRightSpec)

/-- 'laws.FnExactMostVoted', WHERE WHAT IT READS IS OF BULK AT MOST 1048576: true; the input reads as it did. -/
def fnExactMostVotedUptoRow : OpenClaim := { program := "ytcmndffpmjinlaa", sum := "a31b664438d4421d154bf2cf3ee1d471dfd0994bb89dde5413cff163f18e0dc7", func := "loop.example/g00942/laws.FnExactMostVoted", spec := "fnExactMostVoted", apart := false, narrowed := true }
def FnExactMostVotedUptoSaid : Prop := fnExactMostVotedUptoRow.holds Try.pinned (OpenSpec.upto fnExactMostVotedSpec)

/-- 'laws.FnExactLeastCopies', WHERE WHAT IT READS IS OF BULK AT MOST 1048576: true; the input reads as it did. -/
def fnExactLeastCopiesUptoRow : OpenClaim := { program := "ytcmndffpmjinlaa", sum := "a31b664438d4421d154bf2cf3ee1d471dfd0994bb89dde5413cff163f18e0dc7", func := "loop.example/g00942/laws.FnExactLeastCopies", spec := "fnExactLeastCopies", apart := false, narrowed := true }
def FnExactLeastCopiesUptoSaid : Prop := fnExactLeastCopiesUptoRow.holds Try.pinned (OpenSpec.upto fnExactLeastCopiesSpec)

/-- 'laws.FnExactMajorityOf', WHERE WHAT IT READS IS OF BULK AT MOST 1048576: true; the input reads as it did. -/
def fnExactMajorityOfUptoRow : OpenClaim := { program := "ytcmndffpmjinlaa", sum := "a31b664438d4421d154bf2cf3ee1d471dfd0994bb89dde5413cff163f18e0dc7", func := "loop.example/g00942/laws.FnExactMajorityOf", spec := "fnExactMajorityOf", apart := false, narrowed := true }
def FnExactMajorityOfUptoSaid : Prop := fnExactMajorityOfUptoRow.holds Try.pinned (OpenSpec.upto fnExactMajorityOfSpec)

/-- 'laws.FnExactWeightedVote', WHERE WHAT IT READS IS OF BULK AT MOST 1048576: true; the input reads as it did. -/
def fnExactWeightedVoteUptoRow : OpenClaim := { program := "ytcmndffpmjinlaa", sum := "a31b664438d4421d154bf2cf3ee1d471dfd0994bb89dde5413cff163f18e0dc7", func := "loop.example/g00942/laws.FnExactWeightedVote", spec := "fnExactWeightedVote", apart := false, narrowed := true }
def FnExactWeightedVoteUptoSaid : Prop := fnExactWeightedVoteUptoRow.holds Try.pinned (OpenSpec.upto fnExactWeightedVoteSpec)

/-- 'laws.FnExactIsShop', WHERE WHAT IT READS IS OF BULK AT MOST 1048576: true; the input reads as it did. -/
def fnExactIsShopUptoRow : OpenClaim := { program := "ytcmndffpmjinlaa", sum := "a31b664438d4421d154bf2cf3ee1d471dfd0994bb89dde5413cff163f18e0dc7", func := "loop.example/g00942/laws.FnExactIsShop", spec := "fnExactIsShop", apart := false, narrowed := true }
def FnExactIsShopUptoSaid : Prop := fnExactIsShopUptoRow.holds Try.pinned (OpenSpec.upto fnExactIsShopSpec)

/-- 'laws.FnExactTieCount', WHERE WHAT IT READS IS OF BULK AT MOST 1048576: true; the input reads as it did. -/
def fnExactTieCountUptoRow : OpenClaim := { program := "ytcmndffpmjinlaa", sum := "a31b664438d4421d154bf2cf3ee1d471dfd0994bb89dde5413cff163f18e0dc7", func := "loop.example/g00942/laws.FnExactTieCount", spec := "fnExactTieCount", apart := false, narrowed := true }
def FnExactTieCountUptoSaid : Prop := fnExactTieCountUptoRow.holds Try.pinned (OpenSpec.upto fnExactTieCountSpec)

/-- 'laws.FnExactVotedRows', WHERE WHAT IT READS IS OF BULK AT MOST 1048576: true; the input reads as it did. -/
def fnExactVotedRowsUptoRow : OpenClaim := { program := "ytcmndffpmjinlaa", sum := "a31b664438d4421d154bf2cf3ee1d471dfd0994bb89dde5413cff163f18e0dc7", func := "loop.example/g00942/laws.FnExactVotedRows", spec := "fnExactVotedRows", apart := false, narrowed := true }
def FnExactVotedRowsUptoSaid : Prop := fnExactVotedRowsUptoRow.holds Try.pinned (OpenSpec.upto fnExactVotedRowsSpec)

/-- 'laws.FnExactSuspectCopies', WHERE WHAT IT READS IS OF BULK AT MOST 1048576: true; the input reads as it did. -/
def fnExactSuspectCopiesUptoRow : OpenClaim := { program := "ytcmndffpmjinlaa", sum := "a31b664438d4421d154bf2cf3ee1d471dfd0994bb89dde5413cff163f18e0dc7", func := "loop.example/g00942/laws.FnExactSuspectCopies", spec := "fnExactSuspectCopies", apart := false, narrowed := true }
def FnExactSuspectCopiesUptoSaid : Prop := fnExactSuspectCopiesUptoRow.holds Try.pinned (OpenSpec.upto fnExactSuspectCopiesSpec)

/-- 'laws.FnExactAreTests', WHERE WHAT IT READS IS OF BULK AT MOST 1048576: true; the input reads as it did. -/
def fnExactAreTestsUptoRow : OpenClaim := { program := "ytcmndffpmjinlaa", sum := "a31b664438d4421d154bf2cf3ee1d471dfd0994bb89dde5413cff163f18e0dc7", func := "loop.example/g00942/laws.FnExactAreTests", spec := "fnExactAreTests", apart := false, narrowed := true }
def FnExactAreTestsUptoSaid : Prop := fnExactAreTestsUptoRow.holds Try.pinned (OpenSpec.upto fnExactAreTestsSpec)

end Rows
end Go.Proofs.Ytcmndffpmjinlaa
