/- For every argument the law FnLeastTests returns true, and each argument reads behind the call as it read before. -/
import Derived.Test.YtkbikniinjalbaaRows
import Derived.WalkKit
import Derived.ProofKit
import Derived.OpenShut
import Derived.ShutString
import Derived.ChangeOld
import Derived.Below
import Derived.SizedLaws
import Derived.Test.Ytkbikniinjalbaaqltm11
set_option linter.unusedVariables false
namespace Go.Proofs.Ytkbikniinjalbaa.fnLeastTests
open Go.ChangeShapes Go.WideShapes Go.ChangeAt Go.RowKit Go.Proofs.Ytkbikniinjalbaa.Vs
theorem own : ownKnob Try.prog.godebug = none := by kernel_rfl
theorem laidOut : laidOutB Try.prog = true := by kernel_rfl
theorem pars : ParOK Try.prog [42, 42] Z6K := .c dp42 (by kernel_rfl) (.c dp42 (by kernel_rfl) (.nil))
theorem law (x : Tup Z6K) (hw : WfT Z6K x) : ∃ k, Z1x.E.fn k x yes = some () := by
 obtain ⟨k, hk⟩ := (Zzn x.1 x.2.1 hw.1.1 (ZGh hw.1.2) hw.2.1.1 (ZGh hw.2.1.2)).at
 exact ⟨k, (E_at (D := Z1x) (k := k) (x := x) (z := true) hk yes).trans rfl⟩
set_option maxRecDepth 100000 in
theorem lifted (os : Os) (started : os.Started) (H : Type) (enc : TypeId × Value → H) :
    ReturnsInHanded {} Try.checked os 5 .any (Rows.fnLeastTestsSpec.pre6 enc Try.prog Try.f5 Rows.fnLeastTestsRow.domain false) (Rows.fnLeastTestsSpec.post enc Try.prog Try.f5 false true false false) := by
  refine returnsInHanded_of_change_sized (C := Try.checked) own started (by kernel_rfl) Try.func5
    (ChangeSpec.witness6 (enc := enc) (C := Try.checked) false ⟨#[], #[.slice none 0 0, .slice none 0 0], []⟩ 8 (by kernel_rfl) (by kernel_rfl) (by kernel_rfl) (by kernel_rfl)) ?_
  intro W base args ds gs before hval0 hW hcnd hsz0 _
  have hW' := hW
  obtain ⟨p, q, hA0, hV, rfl, hfz, hnd⟩ := hW
  have hA : DataW.TrodAll enc Try.prog W 0 (fun _ => true) true Try.f5.params.toList args.toList ds p := hA0
  rw [Try.params5] at hA
  have hval : ∀ (j : Nat) t v, [42, 42][j]? = some t → args[j]? = some v → Value.okWide Try.prog W .any base t v := fun j t v ht hv => hval0 j t v (by rw [Try.params5]; simpa using ht) hv
  obtain ⟨rfl, rfl⟩ := trodVars_none hV
  obtain ⟨_, _, d0, ds0, _, _, _, rfl, _, _, r0⟩ := trodAll_cons hA
  obtain ⟨_, _, d1, ds1, _, _, _, rfl, _, _, r1⟩ := trodAll_cons r0
  obtain ⟨_, rfl, _⟩ := trodAll_nil r1
  refine (ZIe (f := 5) (fun k => ZtP k) pars rfl law (GlOK.nil rfl) hA hval).mono fun e W' ⟨he, bel⟩ => ?_
  subst he
  exact ⟨_, rfl, _, _, _, [], _, [], hW', trodAll_mk1 (shut_bool Try.underlying4 _), ZtA laidOut bel (by kernel_rfl) hA (ZsP hA), rfl, bel.frame _, fun h => by cases h⟩
theorem over : Rows.fnLeastTestsRow.holds Try.pinned (OpenSpec.ofChange Rows.fnLeastTestsSpec) :=
 OpenClaim.holds_of_wide 5 Try.f5 rfl rfl rfl rfl rfl rfl rfl ⟨rfl, rfl, rfl, rfl, rfl⟩ rfl rfl rfl rfl rfl (by kernel_rfl) Try.func5 (by kernel_rfl)
  (of_decide_eq_true (by kernel_rfl)) (by unfold Func.isWrapper; first | (rw [if_pos (by decide +kernel)]; kernel_rfl) | (rw [if_neg (by decide +kernel)]; exact ⟨rfl, rfl⟩))
  (fun os started H enc _ => lifted os started H enc)
theorem proved : Rows.FnLeastTestsSaid := over
end Go.Proofs.Ytkbikniinjalbaa.fnLeastTests
namespace Go.Proofs.Ytkbikniinjalbaa
theorem fnLeastTests_holds : Rows.FnLeastTestsSaid := fnLeastTests.proved
#print axioms fnLeastTests_holds
end Go.Proofs.Ytkbikniinjalbaa
