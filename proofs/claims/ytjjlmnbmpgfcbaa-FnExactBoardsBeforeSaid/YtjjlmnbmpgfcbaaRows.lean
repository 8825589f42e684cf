/-
  No cell of these rows narrows 'for every input' (looked for: loops, veiled, ifaces, maps, wideKeys, modest, calm, conditions, laid).
  DERIVED. THE GIVEN ROWS OF THIS SEAT. 5 by the template 'for every input the law returns true; each argument reads behind the call as it read before'; 0 by the template 'total and deterministic' (their statements: YtjjlmnbmpgfcbaaTotals.lean).
  GIVEN WITH THE SEED: the statements are not yours to turn. If you find one false, say at which input.
  Laid BY PROGRAM, IN A SANDBOX (cutbox-rows.mjs): the forced cells as the released guide's own fill.sh prints them over the translation d645d17cc025bf32… (all of the seat's roots in one cut). By AI agents, Wed Nov 11 2026. No macro, syntax, notation, axiom, sorry.
-/
import Derived.Test.YtjjlmnbmpgfcbaaChecked
import GoSem.Claim
import GoSem.ClaimJoined
import GoSem.ClaimMapViews
import Derived.JoinedTies
import Derived.KernelRfl
namespace Go.Proofs.Ytjjlmnbmpgfcbaa
/- THE CELL 'sum', in the pinned program and in every row, IS THE sha256 OF THE DUMP (.gsa) THAT YtjjlmnbmpgfcbaaProg.lean LOADS. Nothing in Lean hashes anything: it is a label: what it is worth is what the hold of that sum in a sandbox is worth. -/
noncomputable def Try.pinned : Pinned := { name := "ytjjlmnbmpgfcbaa", sum := "d645d17cc025bf32f1ce84961018148e5eafdbf67eb08ab297efe6141eaa7598", checked := Try.checked }
namespace Rows
def none {H : Type} : Left H := { results := [], args := [] }

/-- 'laws.FnExactStatesOnCycles': WHATEVER THE INPUT: true; the input reads as it did. -/
def fnExactStatesOnCyclesSpec : ChangeSpec := { name := "fnExactStatesOnCycles", fn := fun _ => fun
  | [d1, d2] => { results := [.lit (.bool true)], args := [d1, d2] }
  | _ => none }
def fnExactStatesOnCyclesRow : OpenClaim := { program := "ytjjlmnbmpgfcbaa", sum := "d645d17cc025bf32f1ce84961018148e5eafdbf67eb08ab297efe6141eaa7598", func := "loop.example/g00942/laws.FnExactStatesOnCycles", spec := "fnExactStatesOnCycles", apart := false }
def FnExactStatesOnCyclesSaid : Prop := fnExactStatesOnCyclesRow.holds Try.pinned (OpenSpec.ofChange fnExactStatesOnCyclesSpec)

/-- ITS FALSE NEIGHBOUR: 'it returns false'. Refute it at one input. -/
def fnExactStatesOnCyclesWrong : ChangeSpec := { name := "fnExactStatesOnCycles", fn := fun _ => fun
  | [d1, d2] => { results := [.lit (.bool false)], args := [d1, d2] }
  | _ => none }
def FnExactStatesOnCyclesWrongFalsely : Prop := fnExactStatesOnCyclesRow.holds Try.pinned (OpenSpec.ofChange fnExactStatesOnCyclesWrong)

/-- 'laws.FnExactOnlyBefore': WHATEVER THE INPUT: true; the input reads as it did. -/
def fnExactOnlyBeforeSpec : ChangeSpec := { name := "fnExactOnlyBefore", fn := fun _ => fun
  | [d1, d2] => { results := [.lit (.bool true)], args := [d1, d2] }
  | _ => none }
def fnExactOnlyBeforeRow : OpenClaim := { program := "ytjjlmnbmpgfcbaa", sum := "d645d17cc025bf32f1ce84961018148e5eafdbf67eb08ab297efe6141eaa7598", func := "loop.example/g00942/laws.FnExactOnlyBefore", spec := "fnExactOnlyBefore", apart := false }
def FnExactOnlyBeforeSaid : Prop := fnExactOnlyBeforeRow.holds Try.pinned (OpenSpec.ofChange fnExactOnlyBeforeSpec)

/-- ITS FALSE NEIGHBOUR: 'it returns false'. Refute it at one input. -/
def fnExactOnlyBeforeWrong : ChangeSpec := { name := "fnExactOnlyBefore", fn := fun _ => fun
  | [d1, d2] => { results := [.lit (.bool false)], args := [d1, d2] }
  | _ => none }
def FnExactOnlyBeforeWrongFalsely : Prop := fnExactOnlyBeforeRow.holds Try.pinned (OpenSpec.ofChange fnExactOnlyBeforeWrong)

/-- 'laws.FnExactMarblesFromTo': WHATEVER THE INPUT: true; the input reads as it did. -/
def fnExactMarblesFromToSpec : ChangeSpec := { name := "fnExactMarblesFromTo", fn := fun _ => fun
  | [d1, d2, d3] => { results := [.lit (.bool true)], args := [d1, d2, d3] }
  | _ => none }
def fnExactMarblesFromToRow : OpenClaim := { program := "ytjjlmnbmpgfcbaa", sum := "d645d17cc025bf32f1ce84961018148e5eafdbf67eb08ab297efe6141eaa7598", func := "loop.example/g00942/laws.FnExactMarblesFromTo", spec := "fnExactMarblesFromTo", apart := false }
def FnExactMarblesFromToSaid : Prop := fnExactMarblesFromToRow.holds Try.pinned (OpenSpec.ofChange fnExactMarblesFromToSpec)

/-- ITS FALSE NEIGHBOUR: 'it returns false'. Refute it at one input. -/
def fnExactMarblesFromToWrong : ChangeSpec := { name := "fnExactMarblesFromTo", fn := fun _ => fun
  | [d1, d2, d3] => { results := [.lit (.bool false)], args := [d1, d2, d3] }
  | _ => none }
def FnExactMarblesFromToWrongFalsely : Prop := fnExactMarblesFromToRow.holds Try.pinned (OpenSpec.ofChange fnExactMarblesFromToWrong)

/-- 'laws.FnExactBoardsBefore': WHATEVER THE INPUT: true; the input reads as it did. -/
def fnExactBoardsBeforeSpec : ChangeSpec := { name := "fnExactBoardsBefore", fn := fun _ => fun
  | [d1, d2] => { results := [.lit (.bool true)], args := [d1, d2] }
  | _ => none }
def fnExactBoardsBeforeRow : OpenClaim := { program := "ytjjlmnbmpgfcbaa", sum := "d645d17cc025bf32f1ce84961018148e5eafdbf67eb08ab297efe6141eaa7598", func := "loop.example/g00942/laws.FnExactBoardsBefore", spec := "fnExactBoardsBefore", apart := false }
def FnExactBoardsBeforeSaid : Prop := fnExactBoardsBeforeRow.holds Try.pinned (OpenSpec.ofChange fnExactBoardsBeforeSpec)

/-- ITS FALSE NEIGHBOUR: 'it returns false'. Refute it at one input. -/
def fnExactBoardsBeforeWrong : ChangeSpec := { name := "fnExactBoardsBefore", fn := fun _ => fun
  | [d1, d2] => { results := [.lit (.bool false)], args := [d1, d2] }
  | _ => none }
def FnExactBoardsBeforeWrongFalsely : Prop := fnExactBoardsBeforeRow.holds Try.pinned (OpenSpec.ofChange fnExactBoardsBeforeWrong)

/-- 'laws.FnExactUndoMarbles': WHATEVER THE INPUT: true; the input reads as it did. -/
def fnExactUndoMarblesSpec : ChangeSpec := { name := "fnExactUndoMarbles", fn := fun _ => fun
  | [d1, d2] => { results := [.lit (.bool true)], args := [d1, d2] }
  | _ => none }
def fnExactUndoMarblesRow : OpenClaim := { program := "ytjjlmnbmpgfcbaa", sum := "d645d17cc025bf32f1ce84961018148e5eafdbf67eb08ab297efe6141eaa7598", func := "loop.example/g00942/laws.FnExactUndoMarbles", spec := "fnExactUndoMarbles", apart := false }
def FnExactUndoMarblesSaid : Prop := fnExactUndoMarblesRow.holds Try.pinned (OpenSpec.ofChange fnExactUndoMarblesSpec)

/-- ITS FALSE NEIGHBOUR: 'it returns false'. Refute it at one input. -/
def fnExactUndoMarblesWrong : ChangeSpec := { name := "fnExactUndoMarbles", fn := fun _ => fun
  | [d1, d2] => { results := [.lit (.bool false)], args := [d1, d2] }
  | _ => none }
def FnExactUndoMarblesWrongFalsely : Prop := fnExactUndoMarblesRow.holds Try.pinned (OpenSpec.ofChange fnExactUndoMarblesWrong)

/- THE SECOND FORM. 'bulk': how many values and letters a reading holds, each counted each time it is reached (what is shared counts as often as it is met; a slice's spare places count too). A statement '..UptoSaid' is the law's where the arguments, and the package variables that the reading takes, are together of bulk at most 1048576: NARROWER than '..Said'. Prove '..Said' where nothing that the law and all that it calls make is longer than what came in: it says more and counts as full. Else prove '..UptoSaid'. A law counts once. -/
mutual
def uptoBulk {H : Type} : DataW H → Nat
  | .lit (.string bytes) => bytes.length + 1
  | .lit _ => 1
  | .nil => 1
  | .ptr d => uptoBulk d + 1
  | .slice elems spare => uptoBulkAll elems + uptoBulkAll spare + 1
  | .agg parts => uptoBulkAll parts + 1
  | .iface _ d => uptoBulk d + 1
  | .map entries => uptoBulkEntries entries + 1
  | .held _ => 1
def uptoBulkAll {H : Type} : List (DataW H) → Nat
  | [] => 0
  | d :: r => uptoBulk d + uptoBulkAll r
def uptoBulkEntries {H : Type} : List (Lit × DataW H) → Nat
  | [] => 0
  | x :: r => uptoBulkEntry x + uptoBulkEntries r
def uptoBulkEntry {H : Type} : Lit × DataW H → Nat
  | (.string bytes, d) => bytes.length + uptoBulk d + 1
  | (_, d) => uptoBulk d + 1
 end
def uptoSmall : (H : Type) → List (DataW H) → Bool := fun _ ds => decide (uptoBulkAll ds ≤ 1048576)
def OpenSpec.upto (s : _root_.Go.ChangeSpec) : _root_.Go.OpenSpec := { _root_.Go.OpenSpec.ofChange s with cond := some uptoSmall }

/-- 'laws.FnExactStatesOnCycles', WHERE WHAT IT READS IS OF BULK AT MOST 1048576: true; the input reads as it did. -/
def fnExactStatesOnCyclesUptoRow : OpenClaim := { program := "ytjjlmnbmpgfcbaa", sum := "d645d17cc025bf32f1ce84961018148e5eafdbf67eb08ab297efe6141eaa7598", func := "loop.example/g00942/laws.FnExactStatesOnCycles", spec := "fnExactStatesOnCycles", apart := false, narrowed := true }
def FnExactStatesOnCyclesUptoSaid : Prop := fnExactStatesOnCyclesUptoRow.holds Try.pinned (OpenSpec.upto fnExactStatesOnCyclesSpec)

/-- 'laws.FnExactOnlyBefore', WHERE WHAT IT READS IS OF BULK AT MOST 1048576: true; the input reads as it did. -/
def fnExactOnlyBeforeUptoRow : OpenClaim := { program := "ytjjlmnbmpgfcbaa", sum := "d645d17cc025bf32f1ce84961018148e5eafdbf67eb08ab297efe6141eaa7598", func := "loop.example/g00942/laws.FnExactOnlyBefore", spec := "fnExactOnlyBefore", apart := false, narrowed := true }
def FnExactOnlyBeforeUptoSaid : Prop := fnExactOnlyBeforeUptoRow.holds Try.pinned (OpenSpec.upto fnExactOnlyBeforeSpec)

/-- 'laws.FnExactMarblesFromTo', WHERE WHAT IT READS IS OF BULK AT MOST 1048576: true; the input reads as it did. -/
def fnExactMarblesFromToUptoRow : OpenClaim := { program := "ytjjlmnbmpgfcbaa", sum := "d645d17cc025bf32f1ce84961018148e5eafdbf67eb08ab297efe6141eaa7598", func := "loop.example/g00942/laws.FnExactMarblesFromTo", spec := "fnExactMarblesFromTo", apart := false, narrowed := true }
def FnExactMarblesFromToUptoSaid : Prop := fnExactMarblesFromToUptoRow.holds Try.pinned (OpenSpec.upto fnExactMarblesFromToSpec)

/-- 'laws.FnExactBoardsBefore', WHERE WHAT IT READS IS OF BULK AT MOST 1048576: true; the input reads as it did. -/
def fnExactBoardsBeforeUptoRow : OpenClaim := { program := "ytjjlmnbmpgfcbaa", sum := "d645d17cc025bf32f1ce84961018148e5eafdbf67eb08ab297efe6141eaa7598", func := "loop.example/g00942/laws.FnExactBoardsBefore", spec := "fnExactBoardsBefore", apart := false, narrowed := true }
def FnExactBoardsBeforeUptoSaid : Prop := fnExactBoardsBeforeUptoRow.holds Try.pinned (OpenSpec.upto fnExactBoardsBeforeSpec)

/-- 'laws.FnExactUndoMarbles', WHERE WHAT IT READS IS OF BULK AT MOST 1048576: true; the input reads as it did. -/
def fnExactUndoMarblesUptoRow : OpenClaim := { program := "ytjjlmnbmpgfcbaa", sum := "d645d17cc025bf32f1ce84961018148e5eafdbf67eb08ab297efe6141eaa7598", func := "loop.example/g00942/laws.FnExactUndoMarbles", spec := "fnExactUndoMarbles", apart := false, narrowed := true }
def FnExactUndoMarblesUptoSaid : Prop := fnExactUndoMarblesUptoRow.holds Try.pinned (OpenSpec.upto fnExactUndoMarblesSpec)

end Rows
end Go.Proofs.Ytjjlmnbmpgfcbaa
