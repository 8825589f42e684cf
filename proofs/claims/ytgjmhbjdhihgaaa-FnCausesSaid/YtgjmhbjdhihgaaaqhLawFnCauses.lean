/- For every argument the law FnCauses returns true, and each argument reads behind the call as it read before. -/
import Derived.Test.YtgjmhbjdhihgaaaRows
import Derived.WalkKit
import Derived.ProofKit
import Derived.OpenShut
import Derived.ShutString
import Derived.ChangeOld
import Derived.Below
import Derived.SizedLaws
import Derived.Test.Ytgjmhbjdhihgaaaqhm10
set_option linter.unusedVariables false
namespace Go.Proofs.Ytgjmhbjdhihgaaa.fnCauses
open Go.ChangeShapes Go.WideShapes Go.ChangeAt Go.RowKit Go.Proofs.Ytgjmhbjdhihgaaa.Vs
theorem own : ownKnob Try.prog.godebug = none := by kernel_rfl
theorem laidOut : laidOutB Try.prog = true := by kernel_rfl
theorem pars : ParOK Try.prog [22, 22] Z9A := .c dp22 (by kernel_rfl) (.c dp22 (by kernel_rfl) (.nil))
theorem law (x : Tup Z9A) (hw : WfT Z9A x) : ∃ k, Z3j.E.fn k x yes = some () := by
 obtain ⟨k, hk⟩ := (ZBH x.1 x.2.1 hw.1.1 (ZB0 hw.1.2) hw.2.1.1 (ZB0 hw.2.1.2)).at
 exact ⟨k, (E_at (D := Z3j) (k := k) (x := x) (z := true) hk yes).trans rfl⟩
set_option maxRecDepth 100000 in
theorem lifted (os : Os) (started : os.Started) (H : Type) (enc : TypeId × Value → H) :
    ReturnsInHanded {} Try.checked os 6 .any (Rows.fnCausesSpec.pre6 enc Try.prog Try.f6 Rows.fnCausesRow.domain false) (Rows.fnCausesSpec.post enc Try.prog Try.f6 false true false false) := by
  refine returnsInHanded_of_change_sized (C := Try.checked) own started (by kernel_rfl) Try.func6
    (ChangeSpec.witness6 (enc := enc) (C := Try.checked) false ⟨#[], #[.slice none 0 0, .slice none 0 0], []⟩ 8 (by kernel_rfl) (by kernel_rfl) (by kernel_rfl) (by kernel_rfl)) ?_
  intro W base args ds gs before hval0 hW hcnd hsz0 _
  have hW' := hW
  obtain ⟨p, q, hA0, hV, rfl, hfz, hnd⟩ := hW
  have hA : DataW.TrodAll enc Try.prog W 0 (fun _ => true) true Try.f6.params.toList args.toList ds p := hA0
  rw [Try.params6] at hA
  have hval : ∀ (j : Nat) t v, [22, 22][j]? = some t → args[j]? = some v → Value.okWide Try.prog W .any base t v := fun j t v ht hv => hval0 j t v (by rw [Try.params6]; simpa using ht) hv
  obtain ⟨rfl, rfl⟩ := trodVars_none hV
  obtain ⟨_, _, d0, ds0, _, _, _, rfl, _, _, r0⟩ := trodAll_cons hA
  obtain ⟨_, _, d1, ds1, _, _, _, rfl, _, _, r1⟩ := trodAll_cons r0
  obtain ⟨_, rfl, _⟩ := trodAll_nil r1
  refine (ZDA (f := 6) (fun k => Zye k) pars rfl law (GlOK.nil rfl) hA hval).mono fun e W' ⟨he, bel⟩ => ?_
  subst he
  exact ⟨_, rfl, _, _, _, [], _, [], hW', trodAll_mk1 (shut_bool Try.underlying4 _), Zpp laidOut bel (by kernel_rfl) hA (Zpc hA), rfl, bel.frame _, fun h => by cases h⟩
theorem over : Rows.fnCausesRow.holds Try.pinned (OpenSpec.ofChange Rows.fnCausesSpec) :=
 OpenClaim.holds_of_wide 6 Try.f6 rfl rfl rfl rfl rfl rfl rfl ⟨rfl, rfl, rfl, rfl, rfl⟩ rfl rfl rfl rfl rfl (by kernel_rfl) Try.func6 (by kernel_rfl)
  (of_decide_eq_true (by kernel_rfl)) (by unfold Func.isWrapper; first | (rw [if_pos (by decide +kernel)]; kernel_rfl) | (rw [if_neg (by decide +kernel)]; exact ⟨rfl, rfl⟩))
  (fun os started H enc _ => lifted os started H enc)
theorem proved : Rows.FnCausesSaid := over
end Go.Proofs.Ytgjmhbjdhihgaaa.fnCauses
namespace Go.Proofs.Ytgjmhbjdhihgaaa
theorem fnCauses_holds : Rows.FnCausesSaid := fnCauses.proved
#print axioms fnCauses_holds
end Go.Proofs.Ytgjmhbjdhihgaaa
