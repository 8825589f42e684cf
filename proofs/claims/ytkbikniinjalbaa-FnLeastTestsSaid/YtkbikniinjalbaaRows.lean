/-
  No cell of these rows narrows 'for every input' (looked for: loops, veiled, ifaces, maps, wideKeys, modest, calm, conditions, laid).
  DERIVED. THE GIVEN ROWS OF THIS SEAT. 3 by the template 'for every input the law returns true; each argument reads behind the call as it read before'; 0 by the template 'total and deterministic' (their statements: YtkbikniinjalbaaTotals.lean).
  GIVEN WITH THE SEED: the statements are not yours to turn. If you find one false, say at which input.
  Laid BY PROGRAM, IN A SANDBOX (cutbox-rows.mjs): the forced cells as the released guide's own fill.sh prints them over the translation 8d1f0efdd4f1ebdf… (all of the seat's roots in one cut). By AI agents, Wed Nov 11 2026. No macro, syntax, notation, axiom, sorry.
-/
import Derived.Test.YtkbikniinjalbaaChecked
import GoSem.Claim
import GoSem.ClaimJoined
import GoSem.ClaimMapViews
import Derived.JoinedTies
import Derived.KernelRfl
namespace Go.Proofs.Ytkbikniinjalbaa
/- THE CELL 'sum', in the pinned program and in every row, IS THE sha256 OF THE DUMP (.gsa) THAT YtkbikniinjalbaaProg.lean LOADS. Nothing in Lean hashes anything: it is a label: what it is worth is what the hold of that sum in a sandbox is worth. -/
noncomputable def Try.pinned : Pinned := { name := "ytkbikniinjalbaa", sum := "8d1f0efdd4f1ebdf4f3de60647b9f20a12ee5730350112cf774f19774de4b7c2", checked := Try.checked }
namespace Rows
def none {H : Type} : Left H := { results := [], args := [] }

/-- 'laws.FnExactLeastTelling': WHATEVER THE INPUT: true; the input reads as it did. -/
def fnExactLeastTellingSpec : ChangeSpec := { name := "fnExactLeastTelling", fn := fun _ => fun
  | [d1, d2] => { results := [.lit (.bool true)], args := [d1, d2] }
  | _ => none }
def fnExactLeastTellingRow : OpenClaim := { program := "ytkbikniinjalbaa", sum := "8d1f0efdd4f1ebdf4f3de60647b9f20a12ee5730350112cf774f19774de4b7c2", func := "loop.example/g00942/laws.FnExactLeastTelling", spec := "fnExactLeastTelling", unfollowed := true, recurses := true, apart := false }
def FnExactLeastTellingSaid : Prop := fnExactLeastTellingRow.holds Try.pinned (OpenSpec.ofChange fnExactLeastTellingSpec)

/-- ITS FALSE NEIGHBOUR: 'it returns false'. Refute it at one input. -/
def fnExactLeastTellingWrong : ChangeSpec := { name := "fnExactLeastTelling", fn := fun _ => fun
  | [d1, d2] => { results := [.lit (.bool false)], args := [d1, d2] }
  | _ => none }
def FnExactLeastTellingWrongFalsely : Prop := fnExactLeastTellingRow.holds Try.pinned (OpenSpec.ofChange fnExactLeastTellingWrong)

/-- 'laws.FnExactLeastDetecting': WHATEVER THE INPUT: true; the input reads as it did. -/
def fnExactLeastDetectingSpec : ChangeSpec := { name := "fnExactLeastDetecting", fn := fun _ => fun
  | [d1, d2] => { results := [.lit (.bool true)], args := [d1, d2] }
  | _ => none }
def fnExactLeastDetectingRow : OpenClaim := { program := "ytkbikniinjalbaa", sum := "8d1f0efdd4f1ebdf4f3de60647b9f20a12ee5730350112cf774f19774de4b7c2", func := "loop.example/g00942/laws.FnExactLeastDetecting", spec := "fnExactLeastDetecting", unfollowed := true, recurses := true, apart := false }
def FnExactLeastDetectingSaid : Prop := fnExactLeastDetectingRow.holds Try.pinned (OpenSpec.ofChange fnExactLeastDetectingSpec)

/-- ITS FALSE NEIGHBOUR: 'it returns false'. Refute it at one input. -/
def fnExactLeastDetectingWrong : ChangeSpec := { name := "fnExactLeastDetecting", fn := fun _ => fun
  | [d1, d2] => { results := [.lit (.bool false)], args := [d1, d2] }
  | _ => none }
def FnExactLeastDetectingWrongFalsely : Prop := fnExactLeastDetectingRow.holds Try.pinned (OpenSpec.ofChange fnExactLeastDetectingWrong)

/-- 'laws.FnLeastTests': WHATEVER THE INPUT: true; the input reads as it did. -/
def fnLeastTestsSpec : ChangeSpec := { name := "fnLeastTests", fn := fun _ => fun
  | [d1, d2] => { results := [.lit (.bool true)], args := [d1, d2] }
  | _ => none }
def fnLeastTestsRow : OpenClaim := { program := "ytkbikniinjalbaa", sum := "8d1f0efdd4f1ebdf4f3de60647b9f20a12ee5730350112cf774f19774de4b7c2", func := "loop.example/g00942/laws.FnLeastTests", spec := "fnLeastTests", unfollowed := true, recurses := true, apart := false }
def FnLeastTestsSaid : Prop := fnLeastTestsRow.holds Try.pinned (OpenSpec.ofChange fnLeastTestsSpec)

/-- ITS FALSE NEIGHBOUR: 'it returns false'. Refute it at one input. -/
def fnLeastTestsWrong : ChangeSpec := { name := "fnLeastTests", fn := fun _ => fun
  | [d1, d2] => { results := [.lit (.bool false)], args := [d1, d2] }
  | _ => none }
def FnLeastTestsWrongFalsely : Prop := fnLeastTestsRow.holds Try.pinned (OpenSpec.ofChange fnLeastTestsWrong)

/- THE SECOND FORM. 'bulk': how many values and letters a reading holds, each counted each time it is reached (what is shared counts as often as it is met; a slice's spare places count too). A statement '..UptoSaid' is the law's where the arguments, and the package variables that the reading takes, are together of bulk at most 1048576: NARROWER than '..Said'. Prove '..Said' where nothing that the law and all that it calls make is longer than what came in: it says more and counts as full. Else prove '..UptoSaid'. A law counts once. -/
mutual
def uptoBulk {H : Type} : DataW H → Nat
  | .lit (.string bytes) => bytes.length + 1
  | .lit _ => 1
  | .nil => 1
  | .ptr d => uptoBulk d + 1
  | .slice elems spare => uptoBulkAll elems + uptoBulkAll spare + 1
  | .agg parts => uptoBulkAll parts + 1
  | .iface _ d => uptoBulk d + 1
  | .map entries => uptoBulkEntries entries + 1
  | .held _ => 1
def uptoBulkAll {H : Type} : List (DataW H) → Nat
  | [] => 0
  | d :: r => uptoBulk d + uptoBulkAll r
def uptoBulkEntries {H : Type} : List (Lit × DataW H) → Nat
  | [] => 0
  | x :: r => uptoBulkEntry x + uptoBulkEntries r
def uptoBulkEntry {H : Type} : Lit × DataW H → Nat
  | (.string bytes, d) => bytes.length + uptoBulk d + 1
  | (_, d) => uptoBulk d + 1
 end
def uptoSmall : (H : Type) → List (DataW H) → Bool := fun _ ds => decide (uptoBulkAll ds ≤ 1048576)
def OpenSpec.upto (s : _root_.Go.ChangeSpec) : _root_.Go.OpenSpec := { _root_.Go.OpenSpec.ofChange s with cond := some uptoSmall }

/-- 'laws.FnExactLeastTelling', WHERE WHAT IT READS IS OF BULK AT MOST 1048576: true; the input reads as it did. -/
def fnExactLeastTellingUptoRow : OpenClaim := { program := "ytkbikniinjalbaa", sum := "8d1f0efdd4f1ebdf4f3de60647b9f20a12ee5730350112cf774f19774de4b7c2", func := "loop.example/g00942/laws.FnExactLeastTelling", spec := "fnExactLeastTelling", unfollowed := true, recurses := true, apart := false, narrowed := true }
def FnExactLeastTellingUptoSaid : Prop := fnExactLeastTellingUptoRow.holds Try.pinned (OpenSpec.upto fnExactLeastTellingSpec)

/-- 'laws.FnExactLeastDetecting', WHERE WHAT IT READS IS OF BULK AT MOST 1048576: true; the input reads as it did. -/
def fnExactLeastDetectingUptoRow : OpenClaim := { program := "ytkbikniinjalbaa", sum := "8d1f0efdd4f1ebdf4f3de60647b9f20a12ee5730350112cf774f19774de4b7c2", func := "loop.example/g00942/laws.FnExactLeastDetecting", spec := "fnExactLeastDetecting", unfollowed := true, recurses := true, apart := false, narrowed := true }
def FnExactLeastDetectingUptoSaid : Prop := fnExactLeastDetectingUptoRow.holds Try.pinned (OpenSpec.upto fnExactLeastDetectingSpec)

/-- 'laws.FnLeastTests', WHERE WHAT IT READS IS OF BULK AT MOST 1048576: true; the input reads as it did. -/
def fnLeastTestsUptoRow : OpenClaim := { program := "ytkbikniinjalbaa", sum := "8d1f0efdd4f1ebdf4f3de60647b9f20a12ee5730350112cf774f19774de4b7c2", func := "loop.example/g00942/laws.FnLeastTests", spec := "fnLeastTests", unfollowed := true, recurses := true, apart := false, narrowed := true }
def FnLeastTestsUptoSaid : Prop := fnLeastTestsUptoRow.holds Try.pinned (OpenSpec.upto fnLeastTestsSpec)

end Rows
end Go.Proofs.Ytkbikniinjalbaa
