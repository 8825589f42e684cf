/- For every argument the law FnTopOfAll returns true, and each argument reads behind the call as it read before. -/
import Derived.Test.YtmhfhiofcoggbaaGreatRows
import Derived.WalkKit
import Derived.ProofKit
import Derived.OpenShut
import Derived.ShutString
import Derived.ChangeOld
import Derived.Below
import Derived.SizedLaws
import Derived.Test.YtmhfhiofcoggbaaGreatqT1m11
set_option linter.unusedVariables false
namespace Go.Proofs.YtmhfhiofcoggbaaGreat.fnTopOfAll
open Go.ChangeShapes Go.WideShapes Go.ChangeAt Go.RowKit Go.Proofs.YtmhfhiofcoggbaaGreat.Vs
theorem own : ownKnob Tryz.prog.godebug = none := by kernel_rfl
theorem laidOut : laidOutB Tryz.prog = true := by kernel_rfl
theorem pars : ParOK Tryz.prog [24, 27, 29, 22, 30] Z8n := .a dp24 (by kernel_rfl) (.a dp27 (by kernel_rfl) (.a dp29 (by kernel_rfl) (.c dp22 (by kernel_rfl) (.c dp30 (by kernel_rfl) (.nil)))))
theorem law (x : Tup Z8n) (hw : WfT Z8n x) : ∃ k, Z1J.E.fn k x yes = some () := by
 obtain ⟨k, hk⟩ := (ZEg x.1 x.2.1 x.2.2.1 x.2.2.2.1 x.2.2.2.2.1 ).at
 exact ⟨k, (E_at (D := Z1J) (k := k) (x := x) (z := true) hk yes).trans rfl⟩
set_option maxRecDepth 100000 in
theorem lifted (os : Os) (started : os.Started) (H : Type) (enc : TypeId × Value → H) :
  ReturnsInHanded {} Tryz.checked os 3 .any (Rows.fnTopOfAllSpec.pre6 enc Tryz.prog Tryz.f3 Rows.fnTopOfAllRow.domain false) (Rows.fnTopOfAllSpec.post enc Tryz.prog Tryz.f3 false true false false) := by
 refine returnsInHanded_of_change_sized (C := Tryz.checked) own started (by kernel_rfl) Tryz.func3
  (ChangeSpec.witness6 (enc := enc) (C := Tryz.checked) false ⟨#[], #[.agg #[.int .i64 0, .slice none 0 0], .agg #[.int .i64 0, .int .i64 0, .slice none 0 0, .slice none 0 0, .slice none 0 0], .agg #[.int .i64 0, .int .i64 0, .slice none 0 0], .slice none 0 0, .slice none 0 0], []⟩ 8 (by kernel_rfl) (by kernel_rfl) (by kernel_rfl) (by kernel_rfl)) ?_
 intro W base args ds gs before hval0 hW hcnd hsz0 _
 have hW' := hW
 obtain ⟨p, q, hA0, hV, rfl, hfz, hnd⟩ := hW
 have hA : DataW.TrodAll enc Tryz.prog W 0 (fun _ => true) true Tryz.f3.params.toList args.toList ds p := hA0
 rw [Tryz.params3] at hA
 have hval : ∀ (j : Nat) t v, [24, 27, 29, 22, 30][j]? = some t → args[j]? = some v → Value.okWide Tryz.prog W .any base t v := fun j t v ht hv => hval0 j t v (by rw [Tryz.params3]; simpa using ht) hv
 obtain ⟨rfl, rfl⟩ := trodVars_none hV
 obtain ⟨_, _, d0, ds0, _, _, _, rfl, _, _, r0⟩ := trodAll_cons hA
 obtain ⟨_, _, d1, ds1, _, _, _, rfl, _, _, r1⟩ := trodAll_cons r0
 obtain ⟨_, _, d2, ds2, _, _, _, rfl, _, _, r2⟩ := trodAll_cons r1
 obtain ⟨_, _, d3, ds3, _, _, _, rfl, _, _, r3⟩ := trodAll_cons r2
 obtain ⟨_, _, d4, ds4, _, _, _, rfl, _, _, r4⟩ := trodAll_cons r3
 obtain ⟨_, rfl, _⟩ := trodAll_nil r4
 refine (ZKE (f := 3) (fun k => Zyc k) pars rfl law (GlOK.nil rfl) hA hval).mono fun e W' ⟨he, bel⟩ => ?_
 subst he
 exact ⟨_, rfl, _, _, _, [], _, [], hW', trodAll_mk1 (shut_bool Tryz.underlying4 _), Zu4 laidOut bel (by kernel_rfl) hA (Zs3 hA), rfl, bel.frame _, fun h => by cases h⟩
theorem over : Rows.fnTopOfAllRow.holds Tryz.pinned (OpenSpec.ofChange Rows.fnTopOfAllSpec) :=
 OpenClaim.holds_of_wide 3 Tryz.f3 rfl rfl rfl rfl rfl rfl rfl ⟨rfl, rfl, rfl, rfl, rfl⟩ rfl rfl rfl rfl rfl (by kernel_rfl) Tryz.func3 (by kernel_rfl)
  (of_decide_eq_true (by kernel_rfl)) (by unfold Func.isWrapper; first | (rw [if_pos (by decide +kernel)]; kernel_rfl) | (rw [if_neg (by decide +kernel)]; exact ⟨rfl, rfl⟩))
  (fun os started H enc _ => lifted os started H enc)
theorem proved : Rows.FnTopOfAllSaid := over
end Go.Proofs.YtmhfhiofcoggbaaGreat.fnTopOfAll
namespace Go.Proofs.YtmhfhiofcoggbaaGreat
theorem fnTopOfAll_holds : Rows.FnTopOfAllSaid := fnTopOfAll.proved
#print axioms fnTopOfAll_holds
end Go.Proofs.YtmhfhiofcoggbaaGreat
