/- For every argument the law FnSuspects returns true, each argument reads behind the call as it read before, and so does the table of names; the table is tied to the program's text. -/
import Derived.Test.YtglkedenkcpcbaaGreatDoorCards
import Derived.Test.YtglkedenkcpcbaaGreatDoorqCm11
set_option linter.unusedVariables false
namespace Go.Proofs.YtglkedenkcpcbaaGreatDoor.fnSuspects
open Go.ChangeShapes Go.WideShapes Go.ChangeAt Go.RowKit Go.Proofs.YtglkedenkcpcbaaGreatDoor.Vs Go.Proofs.YtglkedenkcpcbaaGreatDoor.door
theorem pars : ParOK Tryz.prog [22, 22] Z7K := .c dp22 (by kernel_rfl) (.c dp22 (by kernel_rfl) (.nil))
theorem law (x : Tup Z7K) (hw : WfT Z7K x) : ∃ k, Z2m.E.fn k x yes = some () := by
 obtain ⟨k, hk⟩ := (ZzM x.1 x.2.1 hw.1.1 (ZEb hw.1.2) hw.2.1.1 (ZEb hw.2.1.2)).at
 exact ⟨k, (E_at (D := Z2m) (k := k) (x := x) (z := true) hk yes).trans rfl⟩
set_option maxRecDepth 100000 in
theorem lifted (os : Os) (started : os.Started) (H : Type) (enc : TypeId × Value → H) :
    ReturnsInHanded {} Tryz.checked os 3 .any (fun w args => (Rows.fnSuspectsSpec.pre enc Tryz.prog Tryz.f3 [] false w args ∧ laidMetH Tryz.prog laidL w) ∧ sizedMet enc Tryz.prog Tryz.f3 (OpenSpec.ofChange Rows.fnSuspectsSpec) false w args)
      (Rows.fnSuspectsSpec.post enc Tryz.prog Tryz.f3 false true false false) := by
  refine returnsInHanded_of_change_and (C := Tryz.checked) (X := fun w _ => laidMetH Tryz.prog laidL w) (fun _ _ _ hh h => h.of_heap hh) own started (by kernel_rfl) Tryz.func3
    (ChangeSpec.witness_shaped (enc := enc) (C := Tryz.checked) (os := os) (X := fun w _ => laidMetH Tryz.prog laidL w) false (World.laidAll Tryz.prog os laidL) #[.slice none 0 0, .slice none 0 0] 8 (World.laidAll_os _ _ _)
      (World.shaped_of_ZipB (by kernel_rfl) (by kernel_rfl)) (by kernel_rfl) (by kernel_rfl) (by kernel_rfl)
      (by rw [MakeChecks.laidMetH_plain _ _ _ (by kernel_rfl)]; exact laidMet_laidAll _ (by kernel_rfl) (by kernel_rfl))) ?_
  intro W base args ds gs before hval0 hW _ _ hL _
  have hW' := hW
  obtain ⟨p, q, hA0, hV0, rfl, hfz, hnd⟩ := hW
  have hA : DataW.TrodAll enc Tryz.prog W 0 (fun _ => true) true Tryz.f3.params.toList args.toList ds p := hA0
  have hV : DataW.TrodVars enc Tryz.prog W (fun _ => true) [vname] gs q := hV0
  rw [Tryz.params3] at hA
  have hval : ∀ (j : Nat) t v, [22, 22][j]? = some t → args[j]? = some v → Value.okWide Tryz.prog W .any base t v := fun j t v ht hv => hval0 j t v (by rw [Tryz.params3]; simpa using ht) hv
  have hc3 := ZAG hL
  obtain ⟨g, t, cs, fuel, d, p', rfl, hg, ht, hvar, hd, rfl⟩ := trodVars_one hV
  obtain rfl := Option.some.inj (gN.symm.trans hg)
  obtain rfl := Option.some.inj (gT.symm.trans ht)
  obtain rfl : cs = cells3 := Option.some.inj (hvar.symm.trans hc3)
  obtain ⟨rfl, rfl⟩ := DataW.Trod.unique (v := .agg cells3) ⟨fuel, hd⟩ ⟨3, ZvQ enc W _⟩
  obtain ⟨_, _, d0, ds0, _, _, _, rfl, _, _, r0⟩ := trodAll_cons hA
  obtain ⟨_, _, d1, ds1, _, _, _, rfl, _, _, r1⟩ := trodAll_cons r0
  obtain ⟨_, rfl, _⟩ := trodAll_nil r1
  refine (ZHS (f := 3) (fun k => ZuE k) pars rfl law (ZOb hc3) hA hval).mono fun e W' ⟨he, bel⟩ => ?_
  subst he
  exact ⟨_, rfl, _, _, _, [], _, _, hW', trodAll_mk1 (shut_bool Tryz.underlying4 _), ZqE laidOut bel (by kernel_rfl) hA (Zpm hA), ZJK enc (ZIC hc3 bel) _, bel.frame _, fun h => by cases h⟩
theorem over : Rows.fnSuspectsRow.holds Tryz.pinned (OpenSpec.ofChange Rows.fnSuspectsSpec) :=
 OpenClaim.holds_of_wide 3 Tryz.f3 rfl rfl rfl rfl rfl rfl rfl ⟨rfl, rfl, rfl, rfl, rfl⟩ rfl rfl rfl rfl rfl (by kernel_rfl) Tryz.func3 (by kernel_rfl)
  (of_decide_eq_true (by kernel_rfl)) (by unfold Func.isWrapper; first | (rw [if_pos (by decide +kernel)]; kernel_rfl) | (rw [if_neg (by decide +kernel)]; exact ⟨rfl, rfl⟩))
  (fun os started H enc _ => lifted os started H enc)
theorem card : Rows.FnSuspectsCardSaid :=
 Claim7.holds_tied_plain_at .later [] [.data, .data, .data, .data] true (true, "a4b2bd8622a81ec6cffe7c76afafd3e0c8a69c632bd37b73bb3180abba2e9f77") false over (fun _ h => by cases h) (by kernel_rfl) (fun _ h => by cases h) fnSuspects_row_tie rfl ⟨rfl, rfl⟩ (by kernel_rfl) rfl
  (fun f fn hf hfn => by
   obtain rfl : f = 3 := Option.some.inj ((show Tryz.prog.funcNamed "loop.example/g00942/laws.FnSuspects" = some 3 by kernel_rfl).symm.trans hf) |>.symm
   obtain rfl : fn = Tryz.f3 := (Option.some.inj (Tryz.func3.symm.trans hfn)).symm
   exact ⟨by kernel_rfl, fun j t ht => by
    rw [Tryz.params3] at ht
    have hm : t ∈ [22, 22] := by simpa using Array.mem_of_getElem? ht
    have hall : ([22, 22].all fun u => !Tryz.prog.wantsStandIn u) = true := by kernel_rfl
    exact (show Tryz.prog.wantsStandIn t = false by simpa using List.all_eq_true.1 hall t hm)⟩)
  (by kernel_rfl)
end Go.Proofs.YtglkedenkcpcbaaGreatDoor.fnSuspects
namespace Go.Proofs.YtglkedenkcpcbaaGreatDoor
theorem fnSuspects_holds : Rows.FnSuspectsCardSaid := fnSuspects.card
#print axioms fnSuspects_holds
end Go.Proofs.YtglkedenkcpcbaaGreatDoor
