/- For every argument the law FnTop returns true, and each argument reads behind the call as it read before. -/
import Derived.Test.YtmhfhiofcoggbaaGreatRows
import Derived.WalkKit
import Derived.ProofKit
import Derived.OpenShut
import Derived.ShutString
import Derived.ChangeOld
import Derived.Below
import Derived.SizedLaws
import Derived.Test.YtmhfhiofcoggbaaGreatqT2m13
set_option linter.unusedVariables false
namespace Go.Proofs.YtmhfhiofcoggbaaGreat.fnTop
open Go.ChangeShapes Go.WideShapes Go.ChangeAt Go.RowKit Go.Proofs.YtmhfhiofcoggbaaGreat.Vs
theorem own : ownKnob Tryz.prog.godebug = none := by kernel_rfl
theorem laidOut : laidOutB Tryz.prog = true := by kernel_rfl
theorem pars : ParOK Tryz.prog [64, 64] Zi0 := .c dp64 (by kernel_rfl) (.c dp64 (by kernel_rfl) (.nil))
theorem law (x : Tup Zi0) (hw : WfT Zi0 x) : ∃ k, Z70.E.fn k x yes = some () := by
 obtain ⟨k, hk⟩ := (ZUw x.1 x.2.1 hw.1.1 (ZRu hw.1.2) hw.2.1.1 (ZRu hw.2.1.2)).at
 exact ⟨k, (E_at (D := Z70) (k := k) (x := x) (z := true) hk yes).trans rfl⟩
set_option maxRecDepth 100000 in
theorem lifted (os : Os) (started : os.Started) (H : Type) (enc : TypeId × Value → H) :
  ReturnsInHanded {} Tryz.checked os 4 .any (Rows.fnTopSpec.pre6 enc Tryz.prog Tryz.f4 Rows.fnTopRow.domain false) (Rows.fnTopSpec.post enc Tryz.prog Tryz.f4 false true false false) := by
 refine returnsInHanded_of_change_sized (C := Tryz.checked) own started (by kernel_rfl) Tryz.func4
  (ChangeSpec.witness6 (enc := enc) (C := Tryz.checked) false ⟨#[], #[.slice none 0 0, .slice none 0 0], []⟩ 8 (by kernel_rfl) (by kernel_rfl) (by kernel_rfl) (by kernel_rfl)) ?_
 intro W base args ds gs before hval0 hW hcnd hsz0 _
 have hW' := hW
 obtain ⟨p, q, hA0, hV, rfl, hfz, hnd⟩ := hW
 have hA : DataW.TrodAll enc Tryz.prog W 0 (fun _ => true) true Tryz.f4.params.toList args.toList ds p := hA0
 rw [Tryz.params4] at hA
 have hval : ∀ (j : Nat) t v, [64, 64][j]? = some t → args[j]? = some v → Value.okWide Tryz.prog W .any base t v := fun j t v ht hv => hval0 j t v (by rw [Tryz.params4]; simpa using ht) hv
 obtain ⟨rfl, rfl⟩ := trodVars_none hV
 obtain ⟨_, _, d0, ds0, _, _, _, rfl, _, _, r0⟩ := trodAll_cons hA
 obtain ⟨_, _, d1, ds1, _, _, _, rfl, _, _, r1⟩ := trodAll_cons r0
 obtain ⟨_, rfl, _⟩ := trodAll_nil r1
 refine (ZUs (f := 4) (fun k => ZRo k) pars rfl law (GlOK.nil rfl) hA hval).mono fun e W' ⟨he, bel⟩ => ?_
 subst he
 exact ⟨_, rfl, _, _, _, [], _, [], hW', trodAll_mk1 (shut_bool Tryz.underlying4 _), ZBL laidOut bel (by kernel_rfl) hA (ZzK hA), rfl, bel.frame _, fun h => by cases h⟩
theorem over : Rows.fnTopRow.holds Tryz.pinned (OpenSpec.ofChange Rows.fnTopSpec) :=
 OpenClaim.holds_of_wide 4 Tryz.f4 rfl rfl rfl rfl rfl rfl rfl ⟨rfl, rfl, rfl, rfl, rfl⟩ rfl rfl rfl rfl rfl (by kernel_rfl) Tryz.func4 (by kernel_rfl)
  (of_decide_eq_true (by kernel_rfl)) (by unfold Func.isWrapper; first | (rw [if_pos (by decide +kernel)]; kernel_rfl) | (rw [if_neg (by decide +kernel)]; exact ⟨rfl, rfl⟩))
  (fun os started H enc _ => lifted os started H enc)
theorem proved : Rows.FnTopSaid := over
end Go.Proofs.YtmhfhiofcoggbaaGreat.fnTop
namespace Go.Proofs.YtmhfhiofcoggbaaGreat
theorem fnTop_holds : Rows.FnTopSaid := fnTop.proved
#print axioms fnTop_holds
end Go.Proofs.YtmhfhiofcoggbaaGreat
