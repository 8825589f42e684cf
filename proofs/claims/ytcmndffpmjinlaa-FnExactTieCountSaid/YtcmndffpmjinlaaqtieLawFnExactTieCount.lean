/- For every argument the law FnExactTieCount returns true, and each argument reads behind the call as it read before. -/
import Derived.Test.YtcmndffpmjinlaaRows
import Derived.WalkKit
import Derived.ProofKit
import Derived.OpenShut
import Derived.ShutString
import Derived.ChangeOld
import Derived.Below
import Derived.SizedLaws
import Derived.Test.Ytcmndffpmjinlaaqtiem3
set_option linter.unusedVariables false
namespace Go.Proofs.Ytcmndffpmjinlaa.fnExactTieCount
open Go.ChangeShapes Go.WideShapes Go.ChangeAt Go.RowKit Go.Proofs.Ytcmndffpmjinlaa.Vs
theorem own : ownKnob Try.prog.godebug = none := by kernel_rfl
theorem laidOut : laidOutB Try.prog = true := by kernel_rfl
theorem pars : ParOK Try.prog [50] q_laws_FnExactTieCount := .c dp50 (by kernel_rfl) (.nil)
theorem law (x : Tup q_laws_FnExactTieCount) (hw : WfT q_laws_FnExactTieCount x) : ∃ k, d_laws_FnExactTieCount.E.fn k x yes = some () := by
  obtain ⟨k, hk⟩ := (law_FnExactTieCount x.1 hw.1.1 (fun x hx => (hw.1.2 x hx).1)).at
  exact ⟨k, (E_at (D := d_laws_FnExactTieCount) (k := k) (x := x) (z := true) hk yes).trans rfl⟩
set_option maxRecDepth 100000 in
theorem lifted (os : Os) (started : os.Started) (H : Type) (enc : TypeId × Value → H) :
    ReturnsInHanded {} Try.checked os 11 .any (Rows.fnExactTieCountSpec.pre6 enc Try.prog Try.f11 Rows.fnExactTieCountRow.domain false) (Rows.fnExactTieCountSpec.post enc Try.prog Try.f11 false true false false) := by
  refine returnsInHanded_of_change_sized (C := Try.checked) own started (by kernel_rfl) Try.func11
    (ChangeSpec.witness6 (enc := enc) (C := Try.checked) false ⟨#[], #[.slice none 0 0], []⟩ 8 (by kernel_rfl) (by kernel_rfl) (by kernel_rfl) (by kernel_rfl)) ?_
  intro W base args ds gs before hval0 hW hcnd hsz0 _
  have hW' := hW
  obtain ⟨p, q, hA0, hV, rfl, hfz, hnd⟩ := hW
  have hA : DataW.TrodAll enc Try.prog W 0 (fun _ => true) true Try.f11.params.toList args.toList ds p := hA0
  rw [Try.params11] at hA
  have hval : ∀ (j : Nat) t v, [50][j]? = some t → args[j]? = some v → Value.okWide Try.prog W .any base t v := fun j t v ht hv => hval0 j t v (by rw [Try.params11]; simpa using ht) hv
  obtain ⟨rfl, rfl⟩ := trodVars_none hV
  obtain ⟨_, _, d0, ds0, _, _, _, rfl, _, _, r0⟩ := trodAll_cons hA
  obtain ⟨_, rfl, _⟩ := trodAll_nil r0
  refine (law_calls (f := 11) (fun k => s_laws_FnExactTieCount k) pars rfl law hA hval).mono fun e W' ⟨he, bel⟩ => ?_
  subst he
  exact ⟨_, rfl, _, _, _, [], _, [], hW', trodAll_mk1 (shut_bool Try.underlying4 _), trodAll_below laidOut bel (by kernel_rfl) hA (trodAll_lt hA), rfl, bel.frame _, fun h => by cases h⟩
theorem over : Rows.fnExactTieCountRow.holds Try.pinned (OpenSpec.ofChange Rows.fnExactTieCountSpec) :=
  OpenClaim.holds_of_wide 11 Try.f11 rfl rfl rfl rfl rfl rfl rfl ⟨rfl, rfl, rfl, rfl, rfl⟩ rfl rfl rfl rfl rfl (by kernel_rfl) Try.func11 (by kernel_rfl)
    (of_decide_eq_true (by kernel_rfl)) (by unfold Func.isWrapper; first | (rw [if_pos (by decide +kernel)]; kernel_rfl) | (rw [if_neg (by decide +kernel)]; exact ⟨rfl, rfl⟩))
    (fun os started H enc _ => lifted os started H enc)
theorem proved : Rows.FnExactTieCountSaid := over
end Go.Proofs.Ytcmndffpmjinlaa.fnExactTieCount
namespace Go.Proofs.Ytcmndffpmjinlaa
/-- The row, under a short name, for the claim. -/
theorem fnExactTieCount_holds : Rows.FnExactTieCountSaid := fnExactTieCount.proved
#print axioms fnExactTieCount_holds
end Go.Proofs.Ytcmndffpmjinlaa
