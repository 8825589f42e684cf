/- For every argument the law FnExactCausesText returns true, each argument reads behind the call as it read before, and so does the table of names; the table is tied to the program's text. -/
import Derived.Test.YtkmbhhgibgocpaaDoorCards
import Derived.Test.YtkmbhhgibgocpaaDoorqcm7
set_option linter.unusedVariables false
namespace Go.Proofs.YtkmbhhgibgocpaaDoor.fnExactCausesText
open Go.ChangeShapes Go.WideShapes Go.ChangeAt Go.RowKit Go.Proofs.YtkmbhhgibgocpaaDoor.Vs Go.Proofs.YtkmbhhgibgocpaaDoor.door
theorem pars : ParOK Tryd.prog [35, 36, 37] q_laws_FnExactCausesText := .a dp35 (by kernel_rfl) (.c dp36 (by kernel_rfl) (.c dp37 (by kernel_rfl) (.nil)))
theorem law (x : Tup q_laws_FnExactCausesText) (hw : WfT q_laws_FnExactCausesText x) : ∃ k, d_laws_FnExactCausesText.E.fn k x yes = some () := by
  obtain ⟨k, hk⟩ := (law_FnExactCausesText x.1 x.2.1 x.2.2.1 hw.1.2.2.1 hw.2.1.1 hw.2.2.1.1).at
  exact ⟨k, (E_at (D := d_laws_FnExactCausesText) (k := k) (x := x) (z := true) hk yes).trans rfl⟩
set_option maxRecDepth 100000 in
theorem lifted (os : Os) (started : os.Started) (H : Type) (enc : TypeId × Value → H) :
    ReturnsInHanded {} Tryd.checked os 5 .any (fun w args => (Rows.fnExactCausesTextSpec.pre enc Tryd.prog Tryd.f5 [] false w args ∧ laidMetH Tryd.prog laidL w) ∧ sizedMet enc Tryd.prog Tryd.f5 (OpenSpec.ofChange Rows.fnExactCausesTextSpec) false w args)
      (Rows.fnExactCausesTextSpec.post enc Tryd.prog Tryd.f5 false true false false) := by
  refine returnsInHanded_of_change_and (C := Tryd.checked) (X := fun w _ => laidMetH Tryd.prog laidL w) (fun _ _ _ hh h => h.of_heap hh) own started (by kernel_rfl) Tryd.func5
    (ChangeSpec.witness_shaped (enc := enc) (C := Tryd.checked) (os := os) (X := fun w _ => laidMetH Tryd.prog laidL w) false (World.laidAll Tryd.prog os laidL) #[.agg #[.int .i64 0, .int .i64 0, .slice none 0 0], .slice none 0 0, .slice none 0 0] 8 (World.laidAll_os _ _ _)
      (World.shaped_of_ZipB (by kernel_rfl) (by kernel_rfl)) (by kernel_rfl) (by kernel_rfl) (by kernel_rfl)
      (by rw [MakeChecks.laidMetH_plain _ _ _ (by kernel_rfl)]; exact laidMet_laidAll _ (by kernel_rfl) (by kernel_rfl))) ?_
  intro W base args ds gs before hval0 hW _ _ hL _
  have hW' := hW
  obtain ⟨p, q, hA0, hV0, rfl, hfz, hnd⟩ := hW
  have hA : DataW.TrodAll enc Tryd.prog W 0 (fun _ => true) true Tryd.f5.params.toList args.toList ds p := hA0
  have hV : DataW.TrodVars enc Tryd.prog W (fun _ => true) [vname] gs q := hV0
  rw [Tryd.params5] at hA
  have hval : ∀ (j : Nat) t v, [35, 36, 37][j]? = some t → args[j]? = some v → Value.okWide Tryd.prog W .any base t v := fun j t v ht hv => hval0 j t v (by rw [Tryd.params5]; simpa using ht) hv
  have hc3 := cells_of_laid hL
  obtain ⟨g, t, cs, fuel, d, p', rfl, hg, ht, hvar, hd, rfl⟩ := trodVars_one hV
  obtain rfl := Option.some.inj (gN.symm.trans hg)
  obtain rfl := Option.some.inj (gT.symm.trans ht)
  obtain rfl : cs = cells3 := Option.some.inj (hvar.symm.trans hc3)
  obtain ⟨rfl, rfl⟩ := DataW.Trod.unique (v := .agg cells3) ⟨fuel, hd⟩ ⟨3, reads_table enc W _⟩
  obtain ⟨_, _, d0, ds0, _, _, _, rfl, _, _, r0⟩ := trodAll_cons hA
  obtain ⟨_, _, d1, ds1, _, _, _, rfl, _, _, r1⟩ := trodAll_cons r0
  obtain ⟨_, _, d2, ds2, _, _, _, rfl, _, _, r2⟩ := trodAll_cons r1
  obtain ⟨_, rfl, _⟩ := trodAll_nil r2
  refine (law_calls (f := 5) (fun k => s_laws_FnExactCausesText k) pars rfl law (gl_ok hc3) hA hval).mono fun e W' ⟨he, bel⟩ => ?_
  subst he
  exact ⟨_, rfl, _, _, _, [], _, _, hW', trodAll_mk1 (shut_bool Tryd.underlying4 _), trodAll_below laidOut bel (by kernel_rfl) hA (trodAll_lt hA), vars_at enc (var_keep hc3 bel) _, bel.frame _, fun h => by cases h⟩
theorem over : Rows.fnExactCausesTextRow.holds Tryd.pinned (OpenSpec.ofChange Rows.fnExactCausesTextSpec) :=
  OpenClaim.holds_of_wide 5 Tryd.f5 rfl rfl rfl rfl rfl rfl rfl ⟨rfl, rfl, rfl, rfl, rfl⟩ rfl rfl rfl rfl rfl (by kernel_rfl) Tryd.func5 (by kernel_rfl)
    (of_decide_eq_true (by kernel_rfl)) (by unfold Func.isWrapper; first | (rw [if_pos (by decide +kernel)]; kernel_rfl) | (rw [if_neg (by decide +kernel)]; exact ⟨rfl, rfl⟩))
    (fun os started H enc _ => lifted os started H enc)
theorem card : Rows.FnExactCausesTextCardSaid :=
  Claim7.holds_tied_plain_at .later [] [.data, .data, .data, .data] true (true, "44a8389a309f62535d22aa98dd3a4a8ead58901576e98f34b471d16254e86d42") false over (fun _ h => by cases h) (by kernel_rfl) (fun _ h => by cases h) fnExactCausesText_row_tie rfl ⟨rfl, rfl⟩ (by kernel_rfl) rfl
    (fun f fn hf hfn => by
      obtain rfl : f = 5 := Option.some.inj ((show Tryd.prog.funcNamed "loop.example/g00942/laws.FnExactCausesText" = some 5 by kernel_rfl).symm.trans hf) |>.symm
      obtain rfl : fn = Tryd.f5 := (Option.some.inj (Tryd.func5.symm.trans hfn)).symm
      exact ⟨by kernel_rfl, fun j t ht => by
        rw [Tryd.params5] at ht
        have hm : t ∈ [35, 36, 37] := by simpa using Array.mem_of_getElem? ht
        have hall : ([35, 36, 37].all fun u => !Tryd.prog.wantsStandIn u) = true := by kernel_rfl
        exact (show Tryd.prog.wantsStandIn t = false by simpa using List.all_eq_true.1 hall t hm)⟩)
    (by kernel_rfl)
end Go.Proofs.YtkmbhhgibgocpaaDoor.fnExactCausesText
namespace Go.Proofs.YtkmbhhgibgocpaaDoor
/-- The card, under a short name, for the claim. -/
theorem fnExactCausesText_holds : Rows.FnExactCausesTextCardSaid := fnExactCausesText.card
#print axioms fnExactCausesText_holds
end Go.Proofs.YtkmbhhgibgocpaaDoor
