/- The proof, part 7. -/
import Derived.Test.Ytgpmbmnfcbippaaqtexm5
set_option maxRecDepth 100000
set_option linter.unusedVariables false
set_option linter.unusedSimpArgs false
namespace Go.Proofs.Ytgpmbmnfcbippaa.Vs
open Go.RowKit
noncomputable section
/-! function 17 -/
/-! function 43 -/
/-! function 46 -/
/-! function 62 -/
/-! function 71 -/
/-! function 74 -/
/-! function 76 -/
/-! function 77 -/
/-! function 94 -/
noncomputable def r_impl_caseEnds : List PK := [{ t := Ty.slice (59 : Nat) (Ty.slice (45 : Nat) (Ty.slice (91 : Nat) (Ty.pair (Ty.int IntKind.i64) (Ty.pair (Ty.int IntKind.i64) (Ty.int IntKind.i64))))) }]
noncomputable def q_impl_caseEnds : List PK := [{ t := Ty.pair (Ty.int IntKind.i64) (Ty.pair (Ty.int IntKind.i64) (Ty.slice (116 : Nat) (Ty.pair (Ty.int IntKind.i64) (Ty.int IntKind.i64)))), agg := true }, { t := Ty.slice (25 : Nat) (Ty.slice (3 : Nat) (Ty.int IntKind.i64)) }]
noncomputable def to_impl_caseEnds (r : List (List (List (Int × Int × Int)))) : Tup r_impl_caseEnds × OutD := ((r, ()), none)
noncomputable def of_impl_caseEnds : Tup r_impl_caseEnds × OutD → Option (List (List (List (Int × Int × Int))))
  | (a, none) => some (a.1)
  | _ => none
theorem to_of_impl_caseEnds : ∀ b r, of_impl_caseEnds b = some r → to_impl_caseEnds r = b := by
  rintro ⟨a, o⟩ r h
  cases o with
  | none => injection h with h; subst h; rfl
  | some _ => cases h
noncomputable def f_impl_caseEnds_0 : Nat → Int → Int → List (Int × Int) → List (List (List (Int × Int × Int))) → List (Int × Int × Int) → List (List Int) → Int → Int → Option (List (List (List (Int × Int × Int))))
  | 0, _, _, _, _, _, _, _, _ => none
  | k + 1, b1_0, b1_1, b1_2, o2, o3, v1, v14, v15 =>
    if decide (v15 < v14) = true then if (0 : Int) ≤ v15 then if v15 < (↑(List.length o3) : Int) then Option.bind (f_impl_testEnds k (b1_0, b1_1, b1_2) [(Prod.fst (List.getD o3 (Int.toNat v15) ((0 : Int), (0 : Int), (0 : Int))), Prod.fst (Prod.snd (List.getD o3 (Int.toNat v15) ((0 : Int), (0 : Int), (0 : Int)))), Prod.snd (Prod.snd (List.getD o3 (Int.toNat v15) ((0 : Int), (0 : Int), (0 : Int)))))] v1) fun z2 => if List.length o2 + List.length [z2] ≤ (140737488355328 / 24 : Nat) then f_impl_caseEnds_0 k b1_0 b1_1 b1_2 (o2 ++ [z2]) o3 v1 v14 (wrap64 (v15 + (1 : Int))) else none else none else none else some o2
noncomputable def f_impl_caseEnds_0i : Spec := { objs := [OSh.ro, OSh.box (32 : Nat) [Sh.int IntKind.i64, Sh.int IntKind.i64, Sh.snap (0 : Nat) (Ty.pair (Ty.int IntKind.i64) (Ty.int IntKind.i64))], OSh.row true (59 : Nat) (Ty.slice (45 : Nat) (Ty.slice (91 : Nat) (Ty.pair (Ty.int IntKind.i64) (Ty.pair (Ty.int IntKind.i64) (Ty.int IntKind.i64))))), OSh.row true (83 : Nat) (Ty.pair (Ty.int IntKind.i64) (Ty.pair (Ty.int IntKind.i64) (Ty.int IntKind.i64)))], tmps := [((1 : Nat), TSh.at (Sh.snap (0 : Nat) (Ty.slice (3 : Nat) (Ty.int IntKind.i64)))), ((2 : Nat), TSh.at (Sh.ptr (1 : Nat) (0 : Nat))), ((5 : Nat), TSh.at (Sh.sl (2 : Nat))), ((13 : Nat), TSh.at (Sh.sl (3 : Nat))), ((14 : Nat), TSh.at (Sh.int IntKind.i64)), ((15 : Nat), TSh.at (Sh.int IntKind.i64))] }
noncomputable def f_impl_caseEnds_0o : Spec := { objs := [OSh.ro, OSh.row true (59 : Nat) (Ty.slice (45 : Nat) (Ty.slice (91 : Nat) (Ty.pair (Ty.int IntKind.i64) (Ty.pair (Ty.int IntKind.i64) (Ty.int IntKind.i64)))))], tmps := [((5 : Nat), TSh.at (Sh.sl (1 : Nat)))] }
noncomputable def f_impl_caseEnds_0D : LoopDef (Tup r_impl_caseEnds × OutD) := .plain f_impl_caseEnds_0i f_impl_caseEnds_0o (List (List (List (Int × Int × Int)))) (fun k x => f_impl_caseEnds_0 k x.1.2.1.1 x.1.2.1.2.1 x.1.2.1.2.2.1 x.1.2.2.1 x.1.2.2.2.1 x.2.1 x.2.2.2.2.2.1 x.2.2.2.2.2.2.1) (fun z => (((), z, ()), ((), ()))) (fun y => (y.1.2.1)) (fun _ => rfl)
noncomputable def f_impl_caseEnds : Nat → Int × Int × List (Int × Int) → List (List Int) → Option (List (List (List (Int × Int × Int))))
  | 0, _, _ => none
  | k + 1, p0, p1 =>
    Option.bind (f_impl_testEnds k (Prod.fst p0, Prod.fst (Prod.snd p0), Prod.snd (Prod.snd p0)) [] p1) fun z0 => Option.bind (f_impl_possibleFaults k (Prod.fst p0, Prod.fst (Prod.snd p0), Prod.snd (Prod.snd p0))) fun z1 => Option.bind (f_impl_caseEnds_0 k (Prod.fst p0) (Prod.fst (Prod.snd p0)) (Prod.snd (Prod.snd p0)) [z0] z1 p1 (↑(List.length z1) : Int) (0 : Int)) fun z3 => some z3
noncomputable def d_impl_caseEnds : FnDef := .of q_impl_caseEnds r_impl_caseEnds (List (List (List (Int × Int × Int)))) (fun k x => f_impl_caseEnds k x.1 x.2.1) to_impl_caseEnds of_impl_caseEnds to_of_impl_caseEnds
noncomputable def c_impl_caseEnds : Code := Try.f94.body.getD .skip
noncomputable def x_impl_caseEnds : Ctx (Tup r_impl_caseEnds × OutD) := { T := T, G := [(88, d_impl_testEnds.E), (65, d_impl_possibleFaults.E)], mvs := [], no := 0, n := 29, res := resOf T q_impl_caseEnds r_impl_caseEnds Try.f94.results.toList, loops := [(0, f_impl_caseEnds_0D.E)], regs := [], conds := [] }
theorem g_impl_caseEnds (k : Nat) : EnvOK Try.prog k x_impl_caseEnds.G := (EnvOK.cons (s_impl_testEnds k) (EnvOK.cons (s_impl_possibleFaults k) (EnvOK.nil mixed)))
noncomputable def f_impl_caseEnds_0B : Code := (findLoop 0 c_impl_caseEnds).getD .skip
theorem f_impl_caseEnds_0h (k : Nat) (x : f_impl_caseEnds_0i.D) : f_impl_caseEnds_0D.lp (k + 1) x = loopK x_impl_caseEnds f_impl_caseEnds_0D 0 f_impl_caseEnds_0B k x := by kernel_rfl
theorem f_impl_caseEnds_0l (k : Nat) : LOK Try.prog x_impl_caseEnds k f_impl_caseEnds_0B := LOK.by [] (by kernel_rfl) AllOK.nil
theorem f_impl_caseEnds_0z (x : f_impl_caseEnds_0i.D) : f_impl_caseEnds_0D.lp 0 x = none := by kernel_rfl
theorem f_impl_caseEnds_0ok (k : Nat) : EOK Try.prog x_impl_caseEnds k f_impl_caseEnds_0D.E (.block 0 (.loop f_impl_caseEnds_0B)) := loop_ok T_ok g_impl_caseEnds f_impl_caseEnds_0z f_impl_caseEnds_0h f_impl_caseEnds_0l k
theorem h_impl_caseEnds (k : Nat) (x : Tup d_impl_caseEnds.ps) : d_impl_caseEnds.f (k + 1) x = fnK d_impl_caseEnds x_impl_caseEnds c_impl_caseEnds k x := by kernel_rfl
theorem z_impl_caseEnds (x : Tup d_impl_caseEnds.ps) : d_impl_caseEnds.f 0 x = none := by kernel_rfl
theorem l_impl_caseEnds (k : Nat) : LOK Try.prog x_impl_caseEnds k c_impl_caseEnds := LOK.by [(f_impl_caseEnds_0D.E, .block 0 (.loop f_impl_caseEnds_0B))] (by kernel_rfl) (AllOK.cons (f_impl_caseEnds_0ok k) AllOK.nil)
theorem s_impl_caseEnds (k : Nat) : SoundAt Try.prog k 94 d_impl_caseEnds.E := @fn_all Try.prog d_impl_caseEnds x_impl_caseEnds 94 Try.f94 c_impl_caseEnds (by kernel_rfl) (by kernel_rfl) (by kernel_rfl) Try.func94 (by kernel_rfl) (by kernel_rfl) (by kernel_rfl) T_ok g_impl_caseEnds l_impl_caseEnds z_impl_caseEnds h_impl_caseEnds k
/-! function 99 -/
noncomputable def r_spec_tsCases : List PK := [{ t := Ty.slice (59 : Nat) (Ty.slice (45 : Nat) (Ty.slice (91 : Nat) (Ty.pair (Ty.int IntKind.i64) (Ty.pair (Ty.int IntKind.i64) (Ty.int IntKind.i64))))) }]
noncomputable def q_spec_tsCases : List PK := [{ t := Ty.pair (Ty.int IntKind.i64) (Ty.pair (Ty.int IntKind.i64) (Ty.slice (116 : Nat) (Ty.pair (Ty.int IntKind.i64) (Ty.int IntKind.i64)))), agg := true }, { t := Ty.slice (25 : Nat) (Ty.slice (3 : Nat) (Ty.int IntKind.i64)) }]
noncomputable def to_spec_tsCases (r : List (List (List (Int × Int × Int)))) : Tup r_spec_tsCases × OutD := ((r, ()), none)
noncomputable def of_spec_tsCases : Tup r_spec_tsCases × OutD → Option (List (List (List (Int × Int × Int))))
  | (a, none) => some (a.1)
  | _ => none
theorem to_of_spec_tsCases : ∀ b r, of_spec_tsCases b = some r → to_spec_tsCases r = b := by
  rintro ⟨a, o⟩ r h
  cases o with
  | none => injection h with h; subst h; rfl
  | some _ => cases h
noncomputable def f_spec_tsCases_0 : Nat → Int → Int → List (Int × Int) → List (List (List (Int × Int × Int))) → List (Int × Int × Int) → List (List Int) → Int → Int → Option (List (List (List (Int × Int × Int))))
  | 0, _, _, _, _, _, _, _, _ => none
  | k + 1, b1_0, b1_1, b1_2, o2, o3, v1, v14, v15 =>
    if decide (v15 < v14) = true then if (0 : Int) ≤ v15 then if v15 < (↑(List.length o3) : Int) then Option.bind (f_spec_tsEnds k (b1_0, b1_1, b1_2) [(Prod.fst (List.getD o3 (Int.toNat v15) ((0 : Int), (0 : Int), (0 : Int))), Prod.fst (Prod.snd (List.getD o3 (Int.toNat v15) ((0 : Int), (0 : Int), (0 : Int)))), Prod.snd (Prod.snd (List.getD o3 (Int.toNat v15) ((0 : Int), (0 : Int), (0 : Int)))))] v1) fun z2 => if List.length o2 + List.length [z2] ≤ (140737488355328 / 24 : Nat) then f_spec_tsCases_0 k b1_0 b1_1 b1_2 (o2 ++ [z2]) o3 v1 v14 (wrap64 (v15 + (1 : Int))) else none else none else none else some o2
noncomputable def f_spec_tsCases_0i : Spec := { objs := [OSh.ro, OSh.box (32 : Nat) [Sh.int IntKind.i64, Sh.int IntKind.i64, Sh.snap (0 : Nat) (Ty.pair (Ty.int IntKind.i64) (Ty.int IntKind.i64))], OSh.row true (59 : Nat) (Ty.slice (45 : Nat) (Ty.slice (91 : Nat) (Ty.pair (Ty.int IntKind.i64) (Ty.pair (Ty.int IntKind.i64) (Ty.int IntKind.i64))))), OSh.row true (83 : Nat) (Ty.pair (Ty.int IntKind.i64) (Ty.pair (Ty.int IntKind.i64) (Ty.int IntKind.i64)))], tmps := [((1 : Nat), TSh.at (Sh.snap (0 : Nat) (Ty.slice (3 : Nat) (Ty.int IntKind.i64)))), ((2 : Nat), TSh.at (Sh.ptr (1 : Nat) (0 : Nat))), ((5 : Nat), TSh.at (Sh.sl (2 : Nat))), ((13 : Nat), TSh.at (Sh.sl (3 : Nat))), ((14 : Nat), TSh.at (Sh.int IntKind.i64)), ((15 : Nat), TSh.at (Sh.int IntKind.i64))] }
noncomputable def f_spec_tsCases_0o : Spec := { objs := [OSh.ro, OSh.row true (59 : Nat) (Ty.slice (45 : Nat) (Ty.slice (91 : Nat) (Ty.pair (Ty.int IntKind.i64) (Ty.pair (Ty.int IntKind.i64) (Ty.int IntKind.i64)))))], tmps := [((5 : Nat), TSh.at (Sh.sl (1 : Nat)))] }
noncomputable def f_spec_tsCases_0D : LoopDef (Tup r_spec_tsCases × OutD) := .plain f_spec_tsCases_0i f_spec_tsCases_0o (List (List (List (Int × Int × Int)))) (fun k x => f_spec_tsCases_0 k x.1.2.1.1 x.1.2.1.2.1 x.1.2.1.2.2.1 x.1.2.2.1 x.1.2.2.2.1 x.2.1 x.2.2.2.2.2.1 x.2.2.2.2.2.2.1) (fun z => (((), z, ()), ((), ()))) (fun y => (y.1.2.1)) (fun _ => rfl)
noncomputable def f_spec_tsCases : Nat → Int × Int × List (Int × Int) → List (List Int) → Option (List (List (List (Int × Int × Int))))
  | 0, _, _ => none
  | k + 1, p0, p1 =>
    Option.bind (f_spec_tsEnds k (Prod.fst p0, Prod.fst (Prod.snd p0), Prod.snd (Prod.snd p0)) [] p1) fun z0 => Option.bind (f_spec_faPossible k (Prod.fst p0, Prod.fst (Prod.snd p0), Prod.snd (Prod.snd p0))) fun z1 => Option.bind (f_spec_tsCases_0 k (Prod.fst p0) (Prod.fst (Prod.snd p0)) (Prod.snd (Prod.snd p0)) [z0] z1 p1 (↑(List.length z1) : Int) (0 : Int)) fun z3 => some z3
noncomputable def d_spec_tsCases : FnDef := .of q_spec_tsCases r_spec_tsCases (List (List (List (Int × Int × Int)))) (fun k x => f_spec_tsCases k x.1 x.2.1) to_spec_tsCases of_spec_tsCases to_of_spec_tsCases
noncomputable def c_spec_tsCases : Code := Try.f99.body.getD .skip
noncomputable def x_spec_tsCases : Ctx (Tup r_spec_tsCases × OutD) := { T := T, G := [(84, d_spec_tsEnds.E), (105, d_spec_faPossible.E)], mvs := [], no := 0, n := 29, res := resOf T q_spec_tsCases r_spec_tsCases Try.f99.results.toList, loops := [(0, f_spec_tsCases_0D.E)], regs := [], conds := [] }
theorem g_spec_tsCases (k : Nat) : EnvOK Try.prog k x_spec_tsCases.G := (EnvOK.cons (s_spec_tsEnds k) (EnvOK.cons (s_spec_faPossible k) (EnvOK.nil mixed)))
noncomputable def f_spec_tsCases_0B : Code := (findLoop 0 c_spec_tsCases).getD .skip
theorem f_spec_tsCases_0h (k : Nat) (x : f_spec_tsCases_0i.D) : f_spec_tsCases_0D.lp (k + 1) x = loopK x_spec_tsCases f_spec_tsCases_0D 0 f_spec_tsCases_0B k x := by kernel_rfl
theorem f_spec_tsCases_0l (k : Nat) : LOK Try.prog x_spec_tsCases k f_spec_tsCases_0B := LOK.by [] (by kernel_rfl) AllOK.nil
theorem f_spec_tsCases_0z (x : f_spec_tsCases_0i.D) : f_spec_tsCases_0D.lp 0 x = none := by kernel_rfl
theorem f_spec_tsCases_0ok (k : Nat) : EOK Try.prog x_spec_tsCases k f_spec_tsCases_0D.E (.block 0 (.loop f_spec_tsCases_0B)) := loop_ok T_ok g_spec_tsCases f_spec_tsCases_0z f_spec_tsCases_0h f_spec_tsCases_0l k
theorem h_spec_tsCases (k : Nat) (x : Tup d_spec_tsCases.ps) : d_spec_tsCases.f (k + 1) x = fnK d_spec_tsCases x_spec_tsCases c_spec_tsCases k x := by kernel_rfl
theorem z_spec_tsCases (x : Tup d_spec_tsCases.ps) : d_spec_tsCases.f 0 x = none := by kernel_rfl
theorem l_spec_tsCases (k : Nat) : LOK Try.prog x_spec_tsCases k c_spec_tsCases := LOK.by [(f_spec_tsCases_0D.E, .block 0 (.loop f_spec_tsCases_0B))] (by kernel_rfl) (AllOK.cons (f_spec_tsCases_0ok k) AllOK.nil)
theorem s_spec_tsCases (k : Nat) : SoundAt Try.prog k 99 d_spec_tsCases.E := @fn_all Try.prog d_spec_tsCases x_spec_tsCases 99 Try.f99 c_spec_tsCases (by kernel_rfl) (by kernel_rfl) (by kernel_rfl) Try.func99 (by kernel_rfl) (by kernel_rfl) (by kernel_rfl) T_ok g_spec_tsCases l_spec_tsCases z_spec_tsCases h_spec_tsCases k
end
end Go.Proofs.Ytgpmbmnfcbippaa.Vs

set_option maxRecDepth 100000
set_option linter.unusedVariables false
set_option linter.unusedSimpArgs false
namespace Go.Proofs.Ytgpmbmnfcbippaa.Vs
open Go.RowKit
noncomputable section
/-! function 8 -/
/-! function 14 -/
/-! function 26 -/
/-! function 28 -/
/-! function 31 -/
/-! function 32 -/
/-! function 37 -/
/-! function 40 -/
/-! function 51 -/
noncomputable def r_impl_DetectedFaults : List PK := [{ t := Ty.slice (3 : Nat) (Ty.int IntKind.i64) }, { t := Ty.bool }]
noncomputable def q_impl_DetectedFaults : List PK := [{ t := Ty.pair (Ty.int IntKind.i64) (Ty.pair (Ty.int IntKind.i64) (Ty.slice (116 : Nat) (Ty.pair (Ty.int IntKind.i64) (Ty.int IntKind.i64)))), agg := true }, { t := Ty.slice (25 : Nat) (Ty.slice (3 : Nat) (Ty.int IntKind.i64)) }]
noncomputable def to_impl_DetectedFaults (r : List Int × Bool) : Tup r_impl_DetectedFaults × OutD := ((r.1, r.2, ()), none)
noncomputable def of_impl_DetectedFaults : Tup r_impl_DetectedFaults × OutD → Option (List Int × Bool)
  | (a, none) => some (a.1, a.2.1)
  | _ => none
theorem to_of_impl_DetectedFaults : ∀ b r, of_impl_DetectedFaults b = some r → to_impl_DetectedFaults r = b := by
  rintro ⟨a, o⟩ r h
  cases o with
  | none => injection h with h; subst h; rfl
  | some _ => cases h
noncomputable def f_impl_DetectedFaults : Nat → Int × Int × List (Int × Int) → List (List Int) → Option (List Int × Bool)
  | 0, _, _ => none
  | k + 1, p0, p1 =>
    Option.bind (f_impl_areTests k (Prod.fst p0, Prod.fst (Prod.snd p0), Prod.snd (Prod.snd p0)) p1) fun z0 => if (!z0) = true then some ([], false) else Option.bind (f_impl_caseEnds k (Prod.fst p0, Prod.fst (Prod.snd p0), Prod.snd (Prod.snd p0)) p1) fun z1 => Option.bind (f_impl_everyTest k p1) fun z2 => Option.bind (f_impl_detectedBy k z1 z2) fun z3 => some (z3, true)
noncomputable def d_impl_DetectedFaults : FnDef := .of q_impl_DetectedFaults r_impl_DetectedFaults (List Int × Bool) (fun k x => f_impl_DetectedFaults k x.1 x.2.1) to_impl_DetectedFaults of_impl_DetectedFaults to_of_impl_DetectedFaults
noncomputable def c_impl_DetectedFaults : Code := Try.f51.body.getD .skip
noncomputable def x_impl_DetectedFaults : Ctx (Tup r_impl_DetectedFaults × OutD) := { T := T, G := [(86, d_impl_areTests.E), (94, d_impl_caseEnds.E), (95, d_impl_everyTest.E), (93, d_impl_detectedBy.E)], mvs := [], no := 0, n := 16, res := resOf T q_impl_DetectedFaults r_impl_DetectedFaults Try.f51.results.toList, loops := [], regs := [], conds := [] }
theorem g_impl_DetectedFaults (k : Nat) : EnvOK Try.prog k x_impl_DetectedFaults.G := (EnvOK.cons (s_impl_areTests k) (EnvOK.cons (s_impl_caseEnds k) (EnvOK.cons (s_impl_everyTest k) (EnvOK.cons (s_impl_detectedBy k) (EnvOK.nil mixed)))))
theorem h_impl_DetectedFaults (k : Nat) (x : Tup d_impl_DetectedFaults.ps) : d_impl_DetectedFaults.f (k + 1) x = fnK d_impl_DetectedFaults x_impl_DetectedFaults c_impl_DetectedFaults k x := by kernel_rfl
theorem z_impl_DetectedFaults (x : Tup d_impl_DetectedFaults.ps) : d_impl_DetectedFaults.f 0 x = none := by kernel_rfl
theorem l_impl_DetectedFaults (k : Nat) : LOK Try.prog x_impl_DetectedFaults k c_impl_DetectedFaults := LOK.by [] (by kernel_rfl) AllOK.nil
theorem s_impl_DetectedFaults (k : Nat) : SoundAt Try.prog k 51 d_impl_DetectedFaults.E := @fn_all Try.prog d_impl_DetectedFaults x_impl_DetectedFaults 51 Try.f51 c_impl_DetectedFaults (by kernel_rfl) (by kernel_rfl) (by kernel_rfl) Try.func51 (by kernel_rfl) (by kernel_rfl) (by kernel_rfl) T_ok g_impl_DetectedFaults l_impl_DetectedFaults z_impl_DetectedFaults h_impl_DetectedFaults k
/-! function 53 -/
noncomputable def r_impl_FaultClasses : List PK := [{ t := Ty.slice (25 : Nat) (Ty.slice (3 : Nat) (Ty.int IntKind.i64)) }, { t := Ty.bool }]
noncomputable def q_impl_FaultClasses : List PK := [{ t := Ty.pair (Ty.int IntKind.i64) (Ty.pair (Ty.int IntKind.i64) (Ty.slice (116 : Nat) (Ty.pair (Ty.int IntKind.i64) (Ty.int IntKind.i64)))), agg := true }, { t := Ty.slice (25 : Nat) (Ty.slice (3 : Nat) (Ty.int IntKind.i64)) }]
noncomputable def to_impl_FaultClasses (r : List (List Int) × Bool) : Tup r_impl_FaultClasses × OutD := ((r.1, r.2, ()), none)
noncomputable def of_impl_FaultClasses : Tup r_impl_FaultClasses × OutD → Option (List (List Int) × Bool)
  | (a, none) => some (a.1, a.2.1)
  | _ => none
theorem to_of_impl_FaultClasses : ∀ b r, of_impl_FaultClasses b = some r → to_impl_FaultClasses r = b := by
  rintro ⟨a, o⟩ r h
  cases o with
  | none => injection h with h; subst h; rfl
  | some _ => cases h
noncomputable def f_impl_FaultClasses : Nat → Int × Int × List (Int × Int) → List (List Int) → Option (List (List Int) × Bool)
  | 0, _, _ => none
  | k + 1, p0, p1 =>
    Option.bind (f_impl_areTests k (Prod.fst p0, Prod.fst (Prod.snd p0), Prod.snd (Prod.snd p0)) p1) fun z0 => if (!z0) = true then some ([], false) else Option.bind (f_impl_caseEnds k (Prod.fst p0, Prod.fst (Prod.snd p0), Prod.snd (Prod.snd p0)) p1) fun z1 => Option.bind (f_impl_everyTest k p1) fun z2 => Option.bind (f_impl_classesBy k z1 z2) fun z3 => some (z3, true)
noncomputable def d_impl_FaultClasses : FnDef := .of q_impl_FaultClasses r_impl_FaultClasses (List (List Int) × Bool) (fun k x => f_impl_FaultClasses k x.1 x.2.1) to_impl_FaultClasses of_impl_FaultClasses to_of_impl_FaultClasses
noncomputable def c_impl_FaultClasses : Code := Try.f53.body.getD .skip
noncomputable def x_impl_FaultClasses : Ctx (Tup r_impl_FaultClasses × OutD) := { T := T, G := [(86, d_impl_areTests.E), (94, d_impl_caseEnds.E), (95, d_impl_everyTest.E), (98, d_impl_classesBy.E)], mvs := [], no := 0, n := 16, res := resOf T q_impl_FaultClasses r_impl_FaultClasses Try.f53.results.toList, loops := [], regs := [], conds := [] }
theorem g_impl_FaultClasses (k : Nat) : EnvOK Try.prog k x_impl_FaultClasses.G := (EnvOK.cons (s_impl_areTests k) (EnvOK.cons (s_impl_caseEnds k) (EnvOK.cons (s_impl_everyTest k) (EnvOK.cons (s_impl_classesBy k) (EnvOK.nil mixed)))))
theorem h_impl_FaultClasses (k : Nat) (x : Tup d_impl_FaultClasses.ps) : d_impl_FaultClasses.f (k + 1) x = fnK d_impl_FaultClasses x_impl_FaultClasses c_impl_FaultClasses k x := by kernel_rfl
theorem z_impl_FaultClasses (x : Tup d_impl_FaultClasses.ps) : d_impl_FaultClasses.f 0 x = none := by kernel_rfl
theorem l_impl_FaultClasses (k : Nat) : LOK Try.prog x_impl_FaultClasses k c_impl_FaultClasses := LOK.by [] (by kernel_rfl) AllOK.nil
theorem s_impl_FaultClasses (k : Nat) : SoundAt Try.prog k 53 d_impl_FaultClasses.E := @fn_all Try.prog d_impl_FaultClasses x_impl_FaultClasses 53 Try.f53 c_impl_FaultClasses (by kernel_rfl) (by kernel_rfl) (by kernel_rfl) Try.func53 (by kernel_rfl) (by kernel_rfl) (by kernel_rfl) T_ok g_impl_FaultClasses l_impl_FaultClasses z_impl_FaultClasses h_impl_FaultClasses k
/-! function 55 -/
noncomputable def r_spec_FaultsLike : List PK := [{ t := Ty.slice (3 : Nat) (Ty.int IntKind.i64) }, { t := Ty.bool }]
noncomputable def q_spec_FaultsLike : List PK := [{ t := Ty.pair (Ty.int IntKind.i64) (Ty.pair (Ty.int IntKind.i64) (Ty.slice (116 : Nat) (Ty.pair (Ty.int IntKind.i64) (Ty.int IntKind.i64)))), agg := true }, { t := Ty.slice (25 : Nat) (Ty.slice (3 : Nat) (Ty.int IntKind.i64)) }, { t := Ty.slice (45 : Nat) (Ty.slice (91 : Nat) (Ty.pair (Ty.int IntKind.i64) (Ty.pair (Ty.int IntKind.i64) (Ty.int IntKind.i64)))) }]
noncomputable def to_spec_FaultsLike (r : List Int × Bool) : Tup r_spec_FaultsLike × OutD := ((r.1, r.2, ()), none)
noncomputable def of_spec_FaultsLike : Tup r_spec_FaultsLike × OutD → Option (List Int × Bool)
  | (a, none) => some (a.1, a.2.1)
  | _ => none
theorem to_of_spec_FaultsLike : ∀ b r, of_spec_FaultsLike b = some r → to_spec_FaultsLike r = b := by
  rintro ⟨a, o⟩ r h
  cases o with
  | none => injection h with h; subst h; rfl
  | some _ => cases h
noncomputable def f_spec_FaultsLike_0 : Nat → Int → Int → List (Int × Int) → List (List Int) → List (List (Int × Int × Int)) → List (List Int) → Int → Int → Option (LR (Int × Int × List (Int × Int) × List (List Int) × List (List (Int × Int × Int))) (List Int × Bool))
  | 0, _, _, _, _, _, _, _, _ => none
  | k + 1, b1_0, b1_1, b1_2, v1, v2, v26, v27, v28 =>
    if decide (v28 < v27) = true then if (0 : Int) ≤ v28 then if v28 < (↑(List.length v26) : Int) then if (0 : Int) ≤ v28 then if v28 < (↑(List.length v2) : Int) then if decide ((↑(List.length (List.getD v2 (Int.toNat v28) [])) : Int) ≠ (↑(List.length (List.getD v26 (Int.toNat v28) [])) : Int)) = true then some (LR.ret ([], false)) else f_spec_FaultsLike_0 k b1_0 b1_1 b1_2 v1 v2 v26 v27 (wrap64 (v28 + (1 : Int))) else none else none else none else none else some (LR.go (b1_0, b1_1, b1_2, v1, v2))
noncomputable def f_spec_FaultsLike_0i : Spec := { objs := [OSh.ro, OSh.box (32 : Nat) [Sh.int IntKind.i64, Sh.int IntKind.i64, Sh.snap (0 : Nat) (Ty.pair (Ty.int IntKind.i64) (Ty.int IntKind.i64))]], tmps := [((1 : Nat), TSh.at (Sh.snap (0 : Nat) (Ty.slice (3 : Nat) (Ty.int IntKind.i64)))), ((2 : Nat), TSh.at (Sh.snap (0 : Nat) (Ty.slice (91 : Nat) (Ty.pair (Ty.int IntKind.i64) (Ty.pair (Ty.int IntKind.i64) (Ty.int IntKind.i64)))))), ((3 : Nat), TSh.at (Sh.ptr (1 : Nat) (0 : Nat))), ((26 : Nat), TSh.at (Sh.snap (0 : Nat) (Ty.slice (3 : Nat) (Ty.int IntKind.i64)))), ((27 : Nat), TSh.at (Sh.int IntKind.i64)), ((28 : Nat), TSh.at (Sh.int IntKind.i64))] }
noncomputable def f_spec_FaultsLike_0o : Spec := { objs := [OSh.ro, OSh.box (32 : Nat) [Sh.int IntKind.i64, Sh.int IntKind.i64, Sh.snap (0 : Nat) (Ty.pair (Ty.int IntKind.i64) (Ty.int IntKind.i64))]], tmps := [((1 : Nat), TSh.at (Sh.snap (0 : Nat) (Ty.slice (3 : Nat) (Ty.int IntKind.i64)))), ((2 : Nat), TSh.at (Sh.snap (0 : Nat) (Ty.slice (91 : Nat) (Ty.pair (Ty.int IntKind.i64) (Ty.pair (Ty.int IntKind.i64) (Ty.int IntKind.i64)))))), ((3 : Nat), TSh.at (Sh.ptr (1 : Nat) (0 : Nat)))] }
noncomputable def f_spec_FaultsLike_0D : LoopDef (Tup r_spec_FaultsLike × OutD) := .rets f_spec_FaultsLike_0i f_spec_FaultsLike_0o (Int × Int × List (Int × Int) × List (List Int) × List (List (Int × Int × Int))) (List Int × Bool) (fun k x => f_spec_FaultsLike_0 k x.1.2.1.1 x.1.2.1.2.1 x.1.2.1.2.2.1 x.2.1 x.2.2.1 x.2.2.2.2.1 x.2.2.2.2.2.1 x.2.2.2.2.2.2.1) (fun z => (((), (z.1, z.2.1, z.2.2.1, ()), ()), (z.2.2.2.1, z.2.2.2.2, (), ()))) (fun y => (y.1.2.1.1, y.1.2.1.2.1, y.1.2.1.2.2.1, y.2.1, y.2.2.1)) (fun _ => rfl) to_spec_FaultsLike of_spec_FaultsLike to_of_spec_FaultsLike
noncomputable def f_spec_FaultsLike_4 : Nat → List Int → List (List (List (Int × Int × Int))) → List (List Int) → List (List (Int × Int × Int)) → Int → Int → Bool → Int → Int → Int → Int → Option (List Int × List (List (List (Int × Int × Int))) × List (List Int) × List (List (Int × Int × Int)) × Int × Bool × Int × Int)
  | 0, _, _, _, _, _, _, _, _, _, _, _ => none
  | k + 1, o1, o2, v1, v2, v11, v12, v13, v45, v46, v52, v53 =>
    if decide (v53 < v52) = true then if v13 = true then if (0 : Int) ≤ v53 then if v53 < (↑(List.length (List.getD o2 (Int.toNat v12) [])) : Int) then if (0 : Int) ≤ v53 then if v53 < (↑(List.length v2) : Int) then Option.bind (f_spec_faSame k (List.getD (List.getD o2 (Int.toNat v12) []) (Int.toNat v53) []) (List.getD v2 (Int.toNat v53) [])) fun z3 => f_spec_FaultsLike_4 k o1 o2 v1 v2 v11 v12 (decide (z3 < (0 : Int))) v45 v46 v52 (wrap64 (v53 + (1 : Int))) else none else none else none else none else f_spec_FaultsLike_4 k o1 o2 v1 v2 v11 v12 false v45 v46 v52 (wrap64 (v53 + (1 : Int))) else some (o1, o2, v1, v2, v11, v13, v45, v46)
noncomputable def f_spec_FaultsLike_4i : Spec := { objs := [OSh.ro, OSh.row true (3 : Nat) (Ty.int IntKind.i64), OSh.row true (59 : Nat) (Ty.slice (45 : Nat) (Ty.slice (91 : Nat) (Ty.pair (Ty.int IntKind.i64) (Ty.pair (Ty.int IntKind.i64) (Ty.int IntKind.i64)))))], tmps := [((1 : Nat), TSh.at (Sh.snap (0 : Nat) (Ty.slice (3 : Nat) (Ty.int IntKind.i64)))), ((2 : Nat), TSh.at (Sh.snap (0 : Nat) (Ty.slice (91 : Nat) (Ty.pair (Ty.int IntKind.i64) (Ty.pair (Ty.int IntKind.i64) (Ty.int IntKind.i64)))))), ((10 : Nat), TSh.at (Sh.sl (1 : Nat))), ((11 : Nat), TSh.at (Sh.int IntKind.i64)), ((12 : Nat), TSh.at (Sh.inn (2 : Nat))), ((13 : Nat), TSh.at Sh.bool), ((44 : Nat), TSh.at (Sh.sl (2 : Nat))), ((45 : Nat), TSh.at (Sh.int IntKind.i64)), ((46 : Nat), TSh.at (Sh.int IntKind.i64)), ((52 : Nat), TSh.at (Sh.int IntKind.i64)), ((53 : Nat), TSh.at (Sh.int IntKind.i64))] }
noncomputable def f_spec_FaultsLike_4o : Spec := { objs := [OSh.ro, OSh.row true (3 : Nat) (Ty.int IntKind.i64), OSh.row true (59 : Nat) (Ty.slice (45 : Nat) (Ty.slice (91 : Nat) (Ty.pair (Ty.int IntKind.i64) (Ty.pair (Ty.int IntKind.i64) (Ty.int IntKind.i64)))))], tmps := [((1 : Nat), TSh.at (Sh.snap (0 : Nat) (Ty.slice (3 : Nat) (Ty.int IntKind.i64)))), ((2 : Nat), TSh.at (Sh.snap (0 : Nat) (Ty.slice (91 : Nat) (Ty.pair (Ty.int IntKind.i64) (Ty.pair (Ty.int IntKind.i64) (Ty.int IntKind.i64)))))), ((10 : Nat), TSh.at (Sh.sl (1 : Nat))), ((11 : Nat), TSh.at (Sh.int IntKind.i64)), ((13 : Nat), TSh.at Sh.bool), ((44 : Nat), TSh.at (Sh.sl (2 : Nat))), ((45 : Nat), TSh.at (Sh.int IntKind.i64)), ((46 : Nat), TSh.at (Sh.int IntKind.i64))] }
noncomputable def f_spec_FaultsLike_4D : LoopDef (Tup r_spec_FaultsLike × OutD) := .plain f_spec_FaultsLike_4i f_spec_FaultsLike_4o (List Int × List (List (List (Int × Int × Int))) × List (List Int) × List (List (Int × Int × Int)) × Int × Bool × Int × Int) (fun k x => f_spec_FaultsLike_4 k x.1.2.1 x.1.2.2.1 x.2.1 x.2.2.1 x.2.2.2.2.1 x.2.2.2.2.2.1 x.2.2.2.2.2.2.1 x.2.2.2.2.2.2.2.2.1 x.2.2.2.2.2.2.2.2.2.1 x.2.2.2.2.2.2.2.2.2.2.1 x.2.2.2.2.2.2.2.2.2.2.2.1) (fun z => (((), z.1, z.2.1, ()), (z.2.2.1, z.2.2.2.1, (), z.2.2.2.2.1, z.2.2.2.2.2.1, (), z.2.2.2.2.2.2.1, z.2.2.2.2.2.2.2, ()))) (fun y => (y.1.2.1, y.1.2.2.1, y.2.1, y.2.2.1, y.2.2.2.2.1, y.2.2.2.2.2.1, y.2.2.2.2.2.2.2.1, y.2.2.2.2.2.2.2.2.1)) (fun _ => rfl)
noncomputable def f_spec_FaultsLike_2 : Nat → List Int → List (List (List (Int × Int × Int))) → List (List Int) → List (List (Int × Int × Int)) → Int → Int → Option (List Int)
  | 0, _, _, _, _, _, _ => none
  | k + 1, o1, o2, v1, v2, v45, v46 =>
    if decide (v46 < v45) = true then if (0 : Int) ≤ v46 then if v46 < (↑(List.length o2) : Int) then Option.bind (f_spec_FaultsLike_4 k o1 o2 v1 v2 v46 v46 true v45 v46 (↑(List.length v1) : Int) (0 : Int)) fun z4 => if Prod.fst (Prod.snd (Prod.snd (Prod.snd (Prod.snd (Prod.snd z4))))) = true then if List.length (Prod.fst z4) + List.length [wrap64 (Prod.fst (Prod.snd (Prod.snd (Prod.snd (Prod.snd z4)))) - (1 : Int))] ≤ (140737488355328 / 8 : Nat) then f_spec_FaultsLike_2 k (Prod.fst z4 ++ [wrap64 (Prod.fst (Prod.snd (Prod.snd (Prod.snd (Prod.snd z4)))) - (1 : Int))]) (Prod.fst (Prod.snd z4)) (Prod.fst (Prod.snd (Prod.snd z4))) (Prod.fst (Prod.snd (Prod.snd (Prod.snd z4)))) (Prod.fst (Prod.snd (Prod.snd (Prod.snd (Prod.snd (Prod.snd (Prod.snd z4))))))) (wrap64 (Prod.snd (Prod.snd (Prod.snd (Prod.snd (Prod.snd (Prod.snd (Prod.snd z4)))))) + (1 : Int))) else none else f_spec_FaultsLike_2 k (Prod.fst z4) (Prod.fst (Prod.snd z4)) (Prod.fst (Prod.snd (Prod.snd z4))) (Prod.fst (Prod.snd (Prod.snd (Prod.snd z4)))) (Prod.fst (Prod.snd (Prod.snd (Prod.snd (Prod.snd (Prod.snd (Prod.snd z4))))))) (wrap64 (Prod.snd (Prod.snd (Prod.snd (Prod.snd (Prod.snd (Prod.snd (Prod.snd z4)))))) + (1 : Int))) else none else none else some o1
noncomputable def f_spec_FaultsLike_2i : Spec := { objs := [OSh.ro, OSh.row true (3 : Nat) (Ty.int IntKind.i64), OSh.row true (59 : Nat) (Ty.slice (45 : Nat) (Ty.slice (91 : Nat) (Ty.pair (Ty.int IntKind.i64) (Ty.pair (Ty.int IntKind.i64) (Ty.int IntKind.i64)))))], tmps := [((1 : Nat), TSh.at (Sh.snap (0 : Nat) (Ty.slice (3 : Nat) (Ty.int IntKind.i64)))), ((2 : Nat), TSh.at (Sh.snap (0 : Nat) (Ty.slice (91 : Nat) (Ty.pair (Ty.int IntKind.i64) (Ty.pair (Ty.int IntKind.i64) (Ty.int IntKind.i64)))))), ((10 : Nat), TSh.at (Sh.sl (1 : Nat))), ((44 : Nat), TSh.at (Sh.sl (2 : Nat))), ((45 : Nat), TSh.at (Sh.int IntKind.i64)), ((46 : Nat), TSh.at (Sh.int IntKind.i64))] }
noncomputable def f_spec_FaultsLike_2o : Spec := { objs := [OSh.ro, OSh.row true (3 : Nat) (Ty.int IntKind.i64)], tmps := [((10 : Nat), TSh.at (Sh.sl (1 : Nat)))] }
noncomputable def f_spec_FaultsLike_2D : LoopDef (Tup r_spec_FaultsLike × OutD) := .plain f_spec_FaultsLike_2i f_spec_FaultsLike_2o (List Int) (fun k x => f_spec_FaultsLike_2 k x.1.2.1 x.1.2.2.1 x.2.1 x.2.2.1 x.2.2.2.2.2.1 x.2.2.2.2.2.2.1) (fun z => (((), z, ()), ((), ()))) (fun y => (y.1.2.1)) (fun _ => rfl)
noncomputable def f_spec_FaultsLike : Nat → Int × Int × List (Int × Int) → List (List Int) → List (List (Int × Int × Int)) → Option (List Int × Bool)
  | 0, _, _, _ => none
  | k + 1, p0, p1, p2 =>
    Option.bind (f_spec_tsAsked k (Prod.fst p0, Prod.fst (Prod.snd p0), Prod.snd (Prod.snd p0)) p1) fun z0 => if (!z0) = true then some ([], false) else if decide ((↑(List.length p2) : Int) ≠ (↑(List.length p1) : Int)) = true then some ([], false) else Option.bind (f_spec_FaultsLike_0 k (Prod.fst p0) (Prod.fst (Prod.snd p0)) (Prod.snd (Prod.snd p0)) p1 p2 p1 (↑(List.length p1) : Int) (0 : Int)) fun z1 => LR.on z1 (fun y1 => Option.bind (f_spec_tsCases k (Prod.fst y1, Prod.fst (Prod.snd y1), Prod.fst (Prod.snd (Prod.snd y1))) (Prod.fst (Prod.snd (Prod.snd (Prod.snd y1))))) fun z2 => Option.bind (f_spec_FaultsLike_2 k [] z2 (Prod.fst (Prod.snd (Prod.snd (Prod.snd y1)))) (Prod.snd (Prod.snd (Prod.snd (Prod.snd y1)))) (↑(List.length z2) : Int) (0 : Int)) fun z5 => some (z5, true)) fun r1 => some r1
noncomputable def d_spec_FaultsLike : FnDef := .of q_spec_FaultsLike r_spec_FaultsLike (List Int × Bool) (fun k x => f_spec_FaultsLike k x.1 x.2.1 x.2.2.1) to_spec_FaultsLike of_spec_FaultsLike to_of_spec_FaultsLike
noncomputable def c_spec_FaultsLike : Code := Try.f55.body.getD .skip
noncomputable def x_spec_FaultsLike : Ctx (Tup r_spec_FaultsLike × OutD) := { T := T, G := [(82, d_spec_tsAsked.E), (99, d_spec_tsCases.E), (100, d_spec_faSame.E)], mvs := [], no := 0, n := 78, res := resOf T q_spec_FaultsLike r_spec_FaultsLike Try.f55.results.toList, loops := [(0, f_spec_FaultsLike_0D.E), (4, f_spec_FaultsLike_4D.E), (2, f_spec_FaultsLike_2D.E)], regs := [], conds := [] }
theorem g_spec_FaultsLike (k : Nat) : EnvOK Try.prog k x_spec_FaultsLike.G := (EnvOK.cons (s_spec_tsAsked k) (EnvOK.cons (s_spec_tsCases k) (EnvOK.cons (s_spec_faSame k) (EnvOK.nil mixed))))
noncomputable def f_spec_FaultsLike_0B : Code := (findLoop 0 c_spec_FaultsLike).getD .skip
theorem f_spec_FaultsLike_0h (k : Nat) (x : f_spec_FaultsLike_0i.D) : f_spec_FaultsLike_0D.lp (k + 1) x = loopK x_spec_FaultsLike f_spec_FaultsLike_0D 0 f_spec_FaultsLike_0B k x := by kernel_rfl
theorem f_spec_FaultsLike_0l (k : Nat) : LOK Try.prog x_spec_FaultsLike k f_spec_FaultsLike_0B := LOK.by [] (by kernel_rfl) AllOK.nil
theorem f_spec_FaultsLike_0z (x : f_spec_FaultsLike_0i.D) : f_spec_FaultsLike_0D.lp 0 x = none := by kernel_rfl
theorem f_spec_FaultsLike_0ok (k : Nat) : EOK Try.prog x_spec_FaultsLike k f_spec_FaultsLike_0D.E (.block 0 (.loop f_spec_FaultsLike_0B)) := loop_ok T_ok g_spec_FaultsLike f_spec_FaultsLike_0z f_spec_FaultsLike_0h f_spec_FaultsLike_0l k
noncomputable def f_spec_FaultsLike_4B : Code := (findLoop 4 c_spec_FaultsLike).getD .skip
theorem f_spec_FaultsLike_4h (k : Nat) (x : f_spec_FaultsLike_4i.D) : f_spec_FaultsLike_4D.lp (k + 1) x = loopK x_spec_FaultsLike f_spec_FaultsLike_4D 4 f_spec_FaultsLike_4B k x := by kernel_rfl
theorem f_spec_FaultsLike_4l (k : Nat) : LOK Try.prog x_spec_FaultsLike k f_spec_FaultsLike_4B := LOK.by [] (by kernel_rfl) AllOK.nil
theorem f_spec_FaultsLike_4z (x : f_spec_FaultsLike_4i.D) : f_spec_FaultsLike_4D.lp 0 x = none := by kernel_rfl
theorem f_spec_FaultsLike_4ok (k : Nat) : EOK Try.prog x_spec_FaultsLike k f_spec_FaultsLike_4D.E (.block 4 (.loop f_spec_FaultsLike_4B)) := loop_ok T_ok g_spec_FaultsLike f_spec_FaultsLike_4z f_spec_FaultsLike_4h f_spec_FaultsLike_4l k
noncomputable def f_spec_FaultsLike_2B : Code := (findLoop 2 c_spec_FaultsLike).getD .skip
theorem f_spec_FaultsLike_2h (k : Nat) (x : f_spec_FaultsLike_2i.D) : f_spec_FaultsLike_2D.lp (k + 1) x = loopK x_spec_FaultsLike f_spec_FaultsLike_2D 2 f_spec_FaultsLike_2B k x := by kernel_rfl
theorem f_spec_FaultsLike_2l (k : Nat) : LOK Try.prog x_spec_FaultsLike k f_spec_FaultsLike_2B := LOK.by [(f_spec_FaultsLike_4D.E, .block 4 (.loop f_spec_FaultsLike_4B))] (by kernel_rfl) (AllOK.cons (f_spec_FaultsLike_4ok k) AllOK.nil)
theorem f_spec_FaultsLike_2z (x : f_spec_FaultsLike_2i.D) : f_spec_FaultsLike_2D.lp 0 x = none := by kernel_rfl
theorem f_spec_FaultsLike_2ok (k : Nat) : EOK Try.prog x_spec_FaultsLike k f_spec_FaultsLike_2D.E (.block 2 (.loop f_spec_FaultsLike_2B)) := loop_ok T_ok g_spec_FaultsLike f_spec_FaultsLike_2z f_spec_FaultsLike_2h f_spec_FaultsLike_2l k
theorem h_spec_FaultsLike (k : Nat) (x : Tup d_spec_FaultsLike.ps) : d_spec_FaultsLike.f (k + 1) x = fnK d_spec_FaultsLike x_spec_FaultsLike c_spec_FaultsLike k x := by kernel_rfl
theorem z_spec_FaultsLike (x : Tup d_spec_FaultsLike.ps) : d_spec_FaultsLike.f 0 x = none := by kernel_rfl
theorem l_spec_FaultsLike (k : Nat) : LOK Try.prog x_spec_FaultsLike k c_spec_FaultsLike := LOK.by [(f_spec_FaultsLike_0D.E, .block 0 (.loop f_spec_FaultsLike_0B)), (f_spec_FaultsLike_2D.E, .block 2 (.loop f_spec_FaultsLike_2B))] (by kernel_rfl) (AllOK.cons (f_spec_FaultsLike_0ok k) (AllOK.cons (f_spec_FaultsLike_2ok k) AllOK.nil))
theorem s_spec_FaultsLike (k : Nat) : SoundAt Try.prog k 55 d_spec_FaultsLike.E := @fn_all Try.prog d_spec_FaultsLike x_spec_FaultsLike 55 Try.f55 c_spec_FaultsLike (by kernel_rfl) (by kernel_rfl) (by kernel_rfl) Try.func55 (by kernel_rfl) (by kernel_rfl) (by kernel_rfl) T_ok g_spec_FaultsLike l_spec_FaultsLike z_spec_FaultsLike h_spec_FaultsLike k
/-! function 57 -/
noncomputable def r_impl_FaultsLike : List PK := [{ t := Ty.slice (3 : Nat) (Ty.int IntKind.i64) }, { t := Ty.bool }]
noncomputable def q_impl_FaultsLike : List PK := [{ t := Ty.pair (Ty.int IntKind.i64) (Ty.pair (Ty.int IntKind.i64) (Ty.slice (116 : Nat) (Ty.pair (Ty.int IntKind.i64) (Ty.int IntKind.i64)))), agg := true }, { t := Ty.slice (25 : Nat) (Ty.slice (3 : Nat) (Ty.int IntKind.i64)) }, { t := Ty.slice (45 : Nat) (Ty.slice (91 : Nat) (Ty.pair (Ty.int IntKind.i64) (Ty.pair (Ty.int IntKind.i64) (Ty.int IntKind.i64)))) }]
noncomputable def to_impl_FaultsLike (r : List Int × Bool) : Tup r_impl_FaultsLike × OutD := ((r.1, r.2, ()), none)
noncomputable def of_impl_FaultsLike : Tup r_impl_FaultsLike × OutD → Option (List Int × Bool)
  | (a, none) => some (a.1, a.2.1)
  | _ => none
theorem to_of_impl_FaultsLike : ∀ b r, of_impl_FaultsLike b = some r → to_impl_FaultsLike r = b := by
  rintro ⟨a, o⟩ r h
  cases o with
  | none => injection h with h; subst h; rfl
  | some _ => cases h
noncomputable def f_impl_FaultsLike_0 : Nat → Int → Int → List (Int × Int) → List (List Int) → List (List (Int × Int × Int)) → List (List Int) → Int → Int → Option (LR (Int × Int × List (Int × Int) × List (List Int) × List (List (Int × Int × Int))) (List Int × Bool))
  | 0, _, _, _, _, _, _, _, _ => none
  | k + 1, b1_0, b1_1, b1_2, v1, v2, v26, v27, v28 =>
    if decide (v28 < v27) = true then if (0 : Int) ≤ v28 then if v28 < (↑(List.length v26) : Int) then if (0 : Int) ≤ v28 then if v28 < (↑(List.length v2) : Int) then if decide ((↑(List.length (List.getD v2 (Int.toNat v28) [])) : Int) ≠ (↑(List.length (List.getD v26 (Int.toNat v28) [])) : Int)) = true then some (LR.ret ([], false)) else f_impl_FaultsLike_0 k b1_0 b1_1 b1_2 v1 v2 v26 v27 (wrap64 (v28 + (1 : Int))) else none else none else none else none else some (LR.go (b1_0, b1_1, b1_2, v1, v2))
noncomputable def f_impl_FaultsLike_0i : Spec := { objs := [OSh.ro, OSh.box (32 : Nat) [Sh.int IntKind.i64, Sh.int IntKind.i64, Sh.snap (0 : Nat) (Ty.pair (Ty.int IntKind.i64) (Ty.int IntKind.i64))]], tmps := [((1 : Nat), TSh.at (Sh.snap (0 : Nat) (Ty.slice (3 : Nat) (Ty.int IntKind.i64)))), ((2 : Nat), TSh.at (Sh.snap (0 : Nat) (Ty.slice (91 : Nat) (Ty.pair (Ty.int IntKind.i64) (Ty.pair (Ty.int IntKind.i64) (Ty.int IntKind.i64)))))), ((3 : Nat), TSh.at (Sh.ptr (1 : Nat) (0 : Nat))), ((26 : Nat), TSh.at (Sh.snap (0 : Nat) (Ty.slice (3 : Nat) (Ty.int IntKind.i64)))), ((27 : Nat), TSh.at (Sh.int IntKind.i64)), ((28 : Nat), TSh.at (Sh.int IntKind.i64))] }
noncomputable def f_impl_FaultsLike_0o : Spec := { objs := [OSh.ro, OSh.box (32 : Nat) [Sh.int IntKind.i64, Sh.int IntKind.i64, Sh.snap (0 : Nat) (Ty.pair (Ty.int IntKind.i64) (Ty.int IntKind.i64))]], tmps := [((1 : Nat), TSh.at (Sh.snap (0 : Nat) (Ty.slice (3 : Nat) (Ty.int IntKind.i64)))), ((2 : Nat), TSh.at (Sh.snap (0 : Nat) (Ty.slice (91 : Nat) (Ty.pair (Ty.int IntKind.i64) (Ty.pair (Ty.int IntKind.i64) (Ty.int IntKind.i64)))))), ((3 : Nat), TSh.at (Sh.ptr (1 : Nat) (0 : Nat)))] }
noncomputable def f_impl_FaultsLike_0D : LoopDef (Tup r_impl_FaultsLike × OutD) := .rets f_impl_FaultsLike_0i f_impl_FaultsLike_0o (Int × Int × List (Int × Int) × List (List Int) × List (List (Int × Int × Int))) (List Int × Bool) (fun k x => f_impl_FaultsLike_0 k x.1.2.1.1 x.1.2.1.2.1 x.1.2.1.2.2.1 x.2.1 x.2.2.1 x.2.2.2.2.1 x.2.2.2.2.2.1 x.2.2.2.2.2.2.1) (fun z => (((), (z.1, z.2.1, z.2.2.1, ()), ()), (z.2.2.2.1, z.2.2.2.2, (), ()))) (fun y => (y.1.2.1.1, y.1.2.1.2.1, y.1.2.1.2.2.1, y.2.1, y.2.2.1)) (fun _ => rfl) to_impl_FaultsLike of_impl_FaultsLike to_of_impl_FaultsLike
noncomputable def f_impl_FaultsLike_4 : Nat → List Int → List (List (List (Int × Int × Int))) → List (List Int) → List (List (Int × Int × Int)) → Int → Int → Bool → Int → Int → Int → Int → Option (List Int × List (List (List (Int × Int × Int))) × List (List Int) × List (List (Int × Int × Int)) × Int × Bool × Int × Int)
  | 0, _, _, _, _, _, _, _, _, _, _, _ => none
  | k + 1, o1, o2, v1, v2, v11, v12, v13, v46, v47, v53, v54 =>
    if decide (v54 < v53) = true then if v13 = true then if (0 : Int) ≤ v54 then if v54 < (↑(List.length (List.getD o2 (Int.toNat v12) [])) : Int) then if (0 : Int) ≤ v54 then if v54 < (↑(List.length v2) : Int) then Option.bind (f_slices_Equal_impl_Fall_impl_Fall k (List.getD (List.getD o2 (Int.toNat v12) []) (Int.toNat v54) []) (List.getD v2 (Int.toNat v54) [])) fun z3 => f_impl_FaultsLike_4 k o1 o2 v1 v2 v11 v12 z3 v46 v47 v53 (wrap64 (v54 + (1 : Int))) else none else none else none else none else f_impl_FaultsLike_4 k o1 o2 v1 v2 v11 v12 false v46 v47 v53 (wrap64 (v54 + (1 : Int))) else some (o1, o2, v1, v2, v11, v13, v46, v47)
noncomputable def f_impl_FaultsLike_4i : Spec := { objs := [OSh.ro, OSh.row true (3 : Nat) (Ty.int IntKind.i64), OSh.row true (59 : Nat) (Ty.slice (45 : Nat) (Ty.slice (91 : Nat) (Ty.pair (Ty.int IntKind.i64) (Ty.pair (Ty.int IntKind.i64) (Ty.int IntKind.i64)))))], tmps := [((1 : Nat), TSh.at (Sh.snap (0 : Nat) (Ty.slice (3 : Nat) (Ty.int IntKind.i64)))), ((2 : Nat), TSh.at (Sh.snap (0 : Nat) (Ty.slice (91 : Nat) (Ty.pair (Ty.int IntKind.i64) (Ty.pair (Ty.int IntKind.i64) (Ty.int IntKind.i64)))))), ((10 : Nat), TSh.at (Sh.sl (1 : Nat))), ((11 : Nat), TSh.at (Sh.int IntKind.i64)), ((12 : Nat), TSh.at (Sh.inn (2 : Nat))), ((13 : Nat), TSh.at Sh.bool), ((45 : Nat), TSh.at (Sh.sl (2 : Nat))), ((46 : Nat), TSh.at (Sh.int IntKind.i64)), ((47 : Nat), TSh.at (Sh.int IntKind.i64)), ((53 : Nat), TSh.at (Sh.int IntKind.i64)), ((54 : Nat), TSh.at (Sh.int IntKind.i64))] }
noncomputable def f_impl_FaultsLike_4o : Spec := { objs := [OSh.ro, OSh.row true (3 : Nat) (Ty.int IntKind.i64), OSh.row true (59 : Nat) (Ty.slice (45 : Nat) (Ty.slice (91 : Nat) (Ty.pair (Ty.int IntKind.i64) (Ty.pair (Ty.int IntKind.i64) (Ty.int IntKind.i64)))))], tmps := [((1 : Nat), TSh.at (Sh.snap (0 : Nat) (Ty.slice (3 : Nat) (Ty.int IntKind.i64)))), ((2 : Nat), TSh.at (Sh.snap (0 : Nat) (Ty.slice (91 : Nat) (Ty.pair (Ty.int IntKind.i64) (Ty.pair (Ty.int IntKind.i64) (Ty.int IntKind.i64)))))), ((10 : Nat), TSh.at (Sh.sl (1 : Nat))), ((11 : Nat), TSh.at (Sh.int IntKind.i64)), ((13 : Nat), TSh.at Sh.bool), ((45 : Nat), TSh.at (Sh.sl (2 : Nat))), ((46 : Nat), TSh.at (Sh.int IntKind.i64)), ((47 : Nat), TSh.at (Sh.int IntKind.i64))] }
noncomputable def f_impl_FaultsLike_4D : LoopDef (Tup r_impl_FaultsLike × OutD) := .plain f_impl_FaultsLike_4i f_impl_FaultsLike_4o (List Int × List (List (List (Int × Int × Int))) × List (List Int) × List (List (Int × Int × Int)) × Int × Bool × Int × Int) (fun k x => f_impl_FaultsLike_4 k x.1.2.1 x.1.2.2.1 x.2.1 x.2.2.1 x.2.2.2.2.1 x.2.2.2.2.2.1 x.2.2.2.2.2.2.1 x.2.2.2.2.2.2.2.2.1 x.2.2.2.2.2.2.2.2.2.1 x.2.2.2.2.2.2.2.2.2.2.1 x.2.2.2.2.2.2.2.2.2.2.2.1) (fun z => (((), z.1, z.2.1, ()), (z.2.2.1, z.2.2.2.1, (), z.2.2.2.2.1, z.2.2.2.2.2.1, (), z.2.2.2.2.2.2.1, z.2.2.2.2.2.2.2, ()))) (fun y => (y.1.2.1, y.1.2.2.1, y.2.1, y.2.2.1, y.2.2.2.2.1, y.2.2.2.2.2.1, y.2.2.2.2.2.2.2.1, y.2.2.2.2.2.2.2.2.1)) (fun _ => rfl)
noncomputable def f_impl_FaultsLike_2 : Nat → List Int → List (List (List (Int × Int × Int))) → List (List Int) → List (List (Int × Int × Int)) → Int → Int → Option (List Int)
  | 0, _, _, _, _, _, _ => none
  | k + 1, o1, o2, v1, v2, v46, v47 =>
    if decide (v47 < v46) = true then if (0 : Int) ≤ v47 then if v47 < (↑(List.length o2) : Int) then Option.bind (f_impl_FaultsLike_4 k o1 o2 v1 v2 v47 v47 true v46 v47 (↑(List.length v1) : Int) (0 : Int)) fun z4 => if Prod.fst (Prod.snd (Prod.snd (Prod.snd (Prod.snd (Prod.snd z4))))) = true then if List.length (Prod.fst z4) + List.length [wrap64 (Prod.fst (Prod.snd (Prod.snd (Prod.snd (Prod.snd z4)))) - (1 : Int))] ≤ (140737488355328 / 8 : Nat) then f_impl_FaultsLike_2 k (Prod.fst z4 ++ [wrap64 (Prod.fst (Prod.snd (Prod.snd (Prod.snd (Prod.snd z4)))) - (1 : Int))]) (Prod.fst (Prod.snd z4)) (Prod.fst (Prod.snd (Prod.snd z4))) (Prod.fst (Prod.snd (Prod.snd (Prod.snd z4)))) (Prod.fst (Prod.snd (Prod.snd (Prod.snd (Prod.snd (Prod.snd (Prod.snd z4))))))) (wrap64 (Prod.snd (Prod.snd (Prod.snd (Prod.snd (Prod.snd (Prod.snd (Prod.snd z4)))))) + (1 : Int))) else none else f_impl_FaultsLike_2 k (Prod.fst z4) (Prod.fst (Prod.snd z4)) (Prod.fst (Prod.snd (Prod.snd z4))) (Prod.fst (Prod.snd (Prod.snd (Prod.snd z4)))) (Prod.fst (Prod.snd (Prod.snd (Prod.snd (Prod.snd (Prod.snd (Prod.snd z4))))))) (wrap64 (Prod.snd (Prod.snd (Prod.snd (Prod.snd (Prod.snd (Prod.snd (Prod.snd z4)))))) + (1 : Int))) else none else none else some o1
noncomputable def f_impl_FaultsLike_2i : Spec := { objs := [OSh.ro, OSh.row true (3 : Nat) (Ty.int IntKind.i64), OSh.row true (59 : Nat) (Ty.slice (45 : Nat) (Ty.slice (91 : Nat) (Ty.pair (Ty.int IntKind.i64) (Ty.pair (Ty.int IntKind.i64) (Ty.int IntKind.i64)))))], tmps := [((1 : Nat), TSh.at (Sh.snap (0 : Nat) (Ty.slice (3 : Nat) (Ty.int IntKind.i64)))), ((2 : Nat), TSh.at (Sh.snap (0 : Nat) (Ty.slice (91 : Nat) (Ty.pair (Ty.int IntKind.i64) (Ty.pair (Ty.int IntKind.i64) (Ty.int IntKind.i64)))))), ((10 : Nat), TSh.at (Sh.sl (1 : Nat))), ((45 : Nat), TSh.at (Sh.sl (2 : Nat))), ((46 : Nat), TSh.at (Sh.int IntKind.i64)), ((47 : Nat), TSh.at (Sh.int IntKind.i64))] }
noncomputable def f_impl_FaultsLike_2o : Spec := { objs := [OSh.ro, OSh.row true (3 : Nat) (Ty.int IntKind.i64)], tmps := [((10 : Nat), TSh.at (Sh.sl (1 : Nat)))] }
noncomputable def f_impl_FaultsLike_2D : LoopDef (Tup r_impl_FaultsLike × OutD) := .plain f_impl_FaultsLike_2i f_impl_FaultsLike_2o (List Int) (fun k x => f_impl_FaultsLike_2 k x.1.2.1 x.1.2.2.1 x.2.1 x.2.2.1 x.2.2.2.2.2.1 x.2.2.2.2.2.2.1) (fun z => (((), z, ()), ((), ()))) (fun y => (y.1.2.1)) (fun _ => rfl)
noncomputable def f_impl_FaultsLike : Nat → Int × Int × List (Int × Int) → List (List Int) → List (List (Int × Int × Int)) → Option (List Int × Bool)
  | 0, _, _, _ => none
  | k + 1, p0, p1, p2 =>
    Option.bind (f_impl_areTests k (Prod.fst p0, Prod.fst (Prod.snd p0), Prod.snd (Prod.snd p0)) p1) fun z0 => if (!z0) = true then some ([], false) else if decide ((↑(List.length p2) : Int) ≠ (↑(List.length p1) : Int)) = true then some ([], false) else Option.bind (f_impl_FaultsLike_0 k (Prod.fst p0) (Prod.fst (Prod.snd p0)) (Prod.snd (Prod.snd p0)) p1 p2 p1 (↑(List.length p1) : Int) (0 : Int)) fun z1 => LR.on z1 (fun y1 => Option.bind (f_impl_caseEnds k (Prod.fst y1, Prod.fst (Prod.snd y1), Prod.fst (Prod.snd (Prod.snd y1))) (Prod.fst (Prod.snd (Prod.snd (Prod.snd y1))))) fun z2 => Option.bind (f_impl_FaultsLike_2 k [] z2 (Prod.fst (Prod.snd (Prod.snd (Prod.snd y1)))) (Prod.snd (Prod.snd (Prod.snd (Prod.snd y1)))) (↑(List.length z2) : Int) (0 : Int)) fun z5 => some (z5, true)) fun r1 => some r1
noncomputable def d_impl_FaultsLike : FnDef := .of q_impl_FaultsLike r_impl_FaultsLike (List Int × Bool) (fun k x => f_impl_FaultsLike k x.1 x.2.1 x.2.2.1) to_impl_FaultsLike of_impl_FaultsLike to_of_impl_FaultsLike
noncomputable def c_impl_FaultsLike : Code := Try.f57.body.getD .skip
noncomputable def x_impl_FaultsLike : Ctx (Tup r_impl_FaultsLike × OutD) := { T := T, G := [(86, d_impl_areTests.E), (94, d_impl_caseEnds.E), (101, d_slices_Equal_impl_Fall_impl_Fall.E)], mvs := [], no := 0, n := 78, res := resOf T q_impl_FaultsLike r_impl_FaultsLike Try.f57.results.toList, loops := [(0, f_impl_FaultsLike_0D.E), (4, f_impl_FaultsLike_4D.E), (2, f_impl_FaultsLike_2D.E)], regs := [], conds := [] }
theorem g_impl_FaultsLike (k : Nat) : EnvOK Try.prog k x_impl_FaultsLike.G := (EnvOK.cons (s_impl_areTests k) (EnvOK.cons (s_impl_caseEnds k) (EnvOK.cons (s_slices_Equal_impl_Fall_impl_Fall k) (EnvOK.nil mixed))))
noncomputable def f_impl_FaultsLike_0B : Code := (findLoop 0 c_impl_FaultsLike).getD .skip
theorem f_impl_FaultsLike_0h (k : Nat) (x : f_impl_FaultsLike_0i.D) : f_impl_FaultsLike_0D.lp (k + 1) x = loopK x_impl_FaultsLike f_impl_FaultsLike_0D 0 f_impl_FaultsLike_0B k x := by kernel_rfl
theorem f_impl_FaultsLike_0l (k : Nat) : LOK Try.prog x_impl_FaultsLike k f_impl_FaultsLike_0B := LOK.by [] (by kernel_rfl) AllOK.nil
theorem f_impl_FaultsLike_0z (x : f_impl_FaultsLike_0i.D) : f_impl_FaultsLike_0D.lp 0 x = none := by kernel_rfl
theorem f_impl_FaultsLike_0ok (k : Nat) : EOK Try.prog x_impl_FaultsLike k f_impl_FaultsLike_0D.E (.block 0 (.loop f_impl_FaultsLike_0B)) := loop_ok T_ok g_impl_FaultsLike f_impl_FaultsLike_0z f_impl_FaultsLike_0h f_impl_FaultsLike_0l k
noncomputable def f_impl_FaultsLike_4B : Code := (findLoop 4 c_impl_FaultsLike).getD .skip
theorem f_impl_FaultsLike_4h (k : Nat) (x : f_impl_FaultsLike_4i.D) : f_impl_FaultsLike_4D.lp (k + 1) x = loopK x_impl_FaultsLike f_impl_FaultsLike_4D 4 f_impl_FaultsLike_4B k x := by kernel_rfl
theorem f_impl_FaultsLike_4l (k : Nat) : LOK Try.prog x_impl_FaultsLike k f_impl_FaultsLike_4B := LOK.by [] (by kernel_rfl) AllOK.nil
theorem f_impl_FaultsLike_4z (x : f_impl_FaultsLike_4i.D) : f_impl_FaultsLike_4D.lp 0 x = none := by kernel_rfl
theorem f_impl_FaultsLike_4ok (k : Nat) : EOK Try.prog x_impl_FaultsLike k f_impl_FaultsLike_4D.E (.block 4 (.loop f_impl_FaultsLike_4B)) := loop_ok T_ok g_impl_FaultsLike f_impl_FaultsLike_4z f_impl_FaultsLike_4h f_impl_FaultsLike_4l k
noncomputable def f_impl_FaultsLike_2B : Code := (findLoop 2 c_impl_FaultsLike).getD .skip
theorem f_impl_FaultsLike_2h (k : Nat) (x : f_impl_FaultsLike_2i.D) : f_impl_FaultsLike_2D.lp (k + 1) x = loopK x_impl_FaultsLike f_impl_FaultsLike_2D 2 f_impl_FaultsLike_2B k x := by kernel_rfl
theorem f_impl_FaultsLike_2l (k : Nat) : LOK Try.prog x_impl_FaultsLike k f_impl_FaultsLike_2B := LOK.by [(f_impl_FaultsLike_4D.E, .block 4 (.loop f_impl_FaultsLike_4B))] (by kernel_rfl) (AllOK.cons (f_impl_FaultsLike_4ok k) AllOK.nil)
theorem f_impl_FaultsLike_2z (x : f_impl_FaultsLike_2i.D) : f_impl_FaultsLike_2D.lp 0 x = none := by kernel_rfl
theorem f_impl_FaultsLike_2ok (k : Nat) : EOK Try.prog x_impl_FaultsLike k f_impl_FaultsLike_2D.E (.block 2 (.loop f_impl_FaultsLike_2B)) := loop_ok T_ok g_impl_FaultsLike f_impl_FaultsLike_2z f_impl_FaultsLike_2h f_impl_FaultsLike_2l k
theorem h_impl_FaultsLike (k : Nat) (x : Tup d_impl_FaultsLike.ps) : d_impl_FaultsLike.f (k + 1) x = fnK d_impl_FaultsLike x_impl_FaultsLike c_impl_FaultsLike k x := by kernel_rfl
theorem z_impl_FaultsLike (x : Tup d_impl_FaultsLike.ps) : d_impl_FaultsLike.f 0 x = none := by kernel_rfl
theorem l_impl_FaultsLike (k : Nat) : LOK Try.prog x_impl_FaultsLike k c_impl_FaultsLike := LOK.by [(f_impl_FaultsLike_0D.E, .block 0 (.loop f_impl_FaultsLike_0B)), (f_impl_FaultsLike_2D.E, .block 2 (.loop f_impl_FaultsLike_2B))] (by kernel_rfl) (AllOK.cons (f_impl_FaultsLike_0ok k) (AllOK.cons (f_impl_FaultsLike_2ok k) AllOK.nil))
theorem s_impl_FaultsLike (k : Nat) : SoundAt Try.prog k 57 d_impl_FaultsLike.E := @fn_all Try.prog d_impl_FaultsLike x_impl_FaultsLike 57 Try.f57 c_impl_FaultsLike (by kernel_rfl) (by kernel_rfl) (by kernel_rfl) Try.func57 (by kernel_rfl) (by kernel_rfl) (by kernel_rfl) T_ok g_impl_FaultsLike l_impl_FaultsLike z_impl_FaultsLike h_impl_FaultsLike k
/-! function 78 -/
/-! function 91 -/
noncomputable def r_spec_tsMarks : List PK := [{ t := Ty.slice (25 : Nat) (Ty.slice (3 : Nat) (Ty.int IntKind.i64)) }]
noncomputable def q_spec_tsMarks : List PK := [{ t := Ty.pair (Ty.int IntKind.i64) (Ty.pair (Ty.int IntKind.i64) (Ty.slice (116 : Nat) (Ty.pair (Ty.int IntKind.i64) (Ty.int IntKind.i64)))), agg := true }, { t := Ty.slice (25 : Nat) (Ty.slice (3 : Nat) (Ty.int IntKind.i64)) }]
noncomputable def to_spec_tsMarks (r : List (List Int)) : Tup r_spec_tsMarks × OutD := ((r, ()), none)
noncomputable def of_spec_tsMarks : Tup r_spec_tsMarks × OutD → Option (List (List Int))
  | (a, none) => some (a.1)
  | _ => none
theorem to_of_spec_tsMarks : ∀ b r, of_spec_tsMarks b = some r → to_spec_tsMarks r = b := by
  rintro ⟨a, o⟩ r h
  cases o with
  | none => injection h with h; subst h; rfl
  | some _ => cases h
noncomputable def f_spec_tsMarks_4 : Nat → List (List (List (Int × Int × Int))) → List (List Int) → List Int → List (List Int) → Int → Int → Int → Int → Int → Int → Int → Int → Option (List (List (List (Int × Int × Int))) × List (List Int) × List Int × List (List Int) × Int × Int × Int × Int × Int × Int × Int)
  | 0, _, _, _, _, _, _, _, _, _, _, _, _ => none
  | k + 1, o1, o2, o3, v1, v7, v8, v10, v11, v16, v17, v23, v24 =>
    if decide (v11 < v7) = true then if (0 : Int) ≤ v10 then if v10 < (↑(List.length (List.getD o1 (Int.toNat v8) [])) : Int) then if (0 : Int) ≤ v11 then if v11 < (↑(List.length o1) : Int) then if (0 : Int) ≤ v10 then if v10 < (↑(List.length (List.getD o1 (Int.toNat v11) [])) : Int) then Option.bind (f_spec_faSame k (List.getD (List.getD o1 (Int.toNat v8) []) (Int.toNat v10) []) (List.getD (List.getD o1 (Int.toNat v11) []) (Int.toNat v10) [])) fun z1 => if decide (z1 ≥ (0 : Int)) = true then f_spec_tsMarks_4 k o1 o2 o3 v1 v7 v8 v10 (wrap64 (v11 + (1 : Int))) v16 v17 v23 v24 else some (o1, o2, o3, v1, v7, v8, v11, v16, v17, v23, v24) else none else none else none else none else none else none else some (o1, o2, o3, v1, v7, v8, v11, v16, v17, v23, v24)
noncomputable def f_spec_tsMarks_4i : Spec := { objs := [OSh.ro, OSh.row true (59 : Nat) (Ty.slice (45 : Nat) (Ty.slice (91 : Nat) (Ty.pair (Ty.int IntKind.i64) (Ty.pair (Ty.int IntKind.i64) (Ty.int IntKind.i64))))), OSh.row true (25 : Nat) (Ty.slice (3 : Nat) (Ty.int IntKind.i64)), OSh.row true (3 : Nat) (Ty.int IntKind.i64)], tmps := [((1 : Nat), TSh.at (Sh.snap (0 : Nat) (Ty.slice (3 : Nat) (Ty.int IntKind.i64)))), ((5 : Nat), TSh.at (Sh.sl (1 : Nat))), ((6 : Nat), TSh.at (Sh.sl (2 : Nat))), ((7 : Nat), TSh.at (Sh.int IntKind.i64)), ((8 : Nat), TSh.at (Sh.inn (1 : Nat))), ((9 : Nat), TSh.at (Sh.sl (3 : Nat))), ((10 : Nat), TSh.at (Sh.int IntKind.i64)), ((11 : Nat), TSh.at (Sh.int IntKind.i64)), ((15 : Nat), TSh.at (Sh.sl (1 : Nat))), ((16 : Nat), TSh.at (Sh.int IntKind.i64)), ((17 : Nat), TSh.at (Sh.int IntKind.i64)), ((23 : Nat), TSh.at (Sh.int IntKind.i64)), ((24 : Nat), TSh.at (Sh.int IntKind.i64))] }
noncomputable def f_spec_tsMarks_4o : Spec := { objs := [OSh.ro, OSh.row true (59 : Nat) (Ty.slice (45 : Nat) (Ty.slice (91 : Nat) (Ty.pair (Ty.int IntKind.i64) (Ty.pair (Ty.int IntKind.i64) (Ty.int IntKind.i64))))), OSh.row true (25 : Nat) (Ty.slice (3 : Nat) (Ty.int IntKind.i64)), OSh.row true (3 : Nat) (Ty.int IntKind.i64)], tmps := [((1 : Nat), TSh.at (Sh.snap (0 : Nat) (Ty.slice (3 : Nat) (Ty.int IntKind.i64)))), ((5 : Nat), TSh.at (Sh.sl (1 : Nat))), ((6 : Nat), TSh.at (Sh.sl (2 : Nat))), ((7 : Nat), TSh.at (Sh.int IntKind.i64)), ((8 : Nat), TSh.at (Sh.inn (1 : Nat))), ((9 : Nat), TSh.at (Sh.sl (3 : Nat))), ((11 : Nat), TSh.at (Sh.int IntKind.i64)), ((15 : Nat), TSh.at (Sh.sl (1 : Nat))), ((16 : Nat), TSh.at (Sh.int IntKind.i64)), ((17 : Nat), TSh.at (Sh.int IntKind.i64)), ((23 : Nat), TSh.at (Sh.int IntKind.i64)), ((24 : Nat), TSh.at (Sh.int IntKind.i64))] }
noncomputable def f_spec_tsMarks_4D : LoopDef (Tup r_spec_tsMarks × OutD) := .plain f_spec_tsMarks_4i f_spec_tsMarks_4o (List (List (List (Int × Int × Int))) × List (List Int) × List Int × List (List Int) × Int × Int × Int × Int × Int × Int × Int) (fun k x => f_spec_tsMarks_4 k x.1.2.1 x.1.2.2.1 x.1.2.2.2.1 x.2.1 x.2.2.2.2.1 x.2.2.2.2.2.1 x.2.2.2.2.2.2.2.1 x.2.2.2.2.2.2.2.2.1 x.2.2.2.2.2.2.2.2.2.2.1 x.2.2.2.2.2.2.2.2.2.2.2.1 x.2.2.2.2.2.2.2.2.2.2.2.2.1 x.2.2.2.2.2.2.2.2.2.2.2.2.2.1) (fun z => (((), z.1, z.2.1, z.2.2.1, ()), (z.2.2.2.1, (), (), z.2.2.2.2.1, z.2.2.2.2.2.1, (), z.2.2.2.2.2.2.1, (), z.2.2.2.2.2.2.2.1, z.2.2.2.2.2.2.2.2.1, z.2.2.2.2.2.2.2.2.2.1, z.2.2.2.2.2.2.2.2.2.2, ()))) (fun y => (y.1.2.1, y.1.2.2.1, y.1.2.2.2.1, y.2.1, y.2.2.2.2.1, y.2.2.2.2.2.1, y.2.2.2.2.2.2.2.1, y.2.2.2.2.2.2.2.2.2.1, y.2.2.2.2.2.2.2.2.2.2.1, y.2.2.2.2.2.2.2.2.2.2.2.1, y.2.2.2.2.2.2.2.2.2.2.2.2.1)) (fun _ => rfl)
noncomputable def f_spec_tsMarks_2 : Nat → List (List (List (Int × Int × Int))) → List (List Int) → List Int → List (List Int) → Int → Int → Int → Int → Int → Int → Option (List (List (List (Int × Int × Int))) × List (List Int) × List Int × List (List Int) × Int × Int)
  | 0, _, _, _, _, _, _, _, _, _, _ => none
  | k + 1, o1, o2, o3, v1, v7, v8, v16, v17, v23, v24 =>
    if decide (v24 < v23) = true then Option.bind (f_spec_tsMarks_4 k o1 o2 o3 v1 v7 v8 v24 (0 : Int) v16 v17 v23 v24) fun z2 => if List.length (Prod.fst (Prod.snd (Prod.snd z2))) + List.length [Prod.fst (Prod.snd (Prod.snd (Prod.snd (Prod.snd (Prod.snd (Prod.snd z2))))))] ≤ (140737488355328 / 8 : Nat) then f_spec_tsMarks_2 k (Prod.fst z2) (Prod.fst (Prod.snd z2)) (Prod.fst (Prod.snd (Prod.snd z2)) ++ [Prod.fst (Prod.snd (Prod.snd (Prod.snd (Prod.snd (Prod.snd (Prod.snd z2))))))]) (Prod.fst (Prod.snd (Prod.snd (Prod.snd z2)))) (Prod.fst (Prod.snd (Prod.snd (Prod.snd (Prod.snd z2))))) (Prod.fst (Prod.snd (Prod.snd (Prod.snd (Prod.snd (Prod.snd z2)))))) (Prod.fst (Prod.snd (Prod.snd (Prod.snd (Prod.snd (Prod.snd (Prod.snd (Prod.snd z2)))))))) (Prod.fst (Prod.snd (Prod.snd (Prod.snd (Prod.snd (Prod.snd (Prod.snd (Prod.snd (Prod.snd z2))))))))) (Prod.fst (Prod.snd (Prod.snd (Prod.snd (Prod.snd (Prod.snd (Prod.snd (Prod.snd (Prod.snd (Prod.snd z2)))))))))) (wrap64 (Prod.snd (Prod.snd (Prod.snd (Prod.snd (Prod.snd (Prod.snd (Prod.snd (Prod.snd (Prod.snd (Prod.snd z2))))))))) + (1 : Int))) else none else some (o1, o2, o3, v1, v16, v17)
noncomputable def f_spec_tsMarks_2i : Spec := { objs := [OSh.ro, OSh.row true (59 : Nat) (Ty.slice (45 : Nat) (Ty.slice (91 : Nat) (Ty.pair (Ty.int IntKind.i64) (Ty.pair (Ty.int IntKind.i64) (Ty.int IntKind.i64))))), OSh.row true (25 : Nat) (Ty.slice (3 : Nat) (Ty.int IntKind.i64)), OSh.row true (3 : Nat) (Ty.int IntKind.i64)], tmps := [((1 : Nat), TSh.at (Sh.snap (0 : Nat) (Ty.slice (3 : Nat) (Ty.int IntKind.i64)))), ((5 : Nat), TSh.at (Sh.sl (1 : Nat))), ((6 : Nat), TSh.at (Sh.sl (2 : Nat))), ((7 : Nat), TSh.at (Sh.int IntKind.i64)), ((8 : Nat), TSh.at (Sh.inn (1 : Nat))), ((9 : Nat), TSh.at (Sh.sl (3 : Nat))), ((15 : Nat), TSh.at (Sh.sl (1 : Nat))), ((16 : Nat), TSh.at (Sh.int IntKind.i64)), ((17 : Nat), TSh.at (Sh.int IntKind.i64)), ((23 : Nat), TSh.at (Sh.int IntKind.i64)), ((24 : Nat), TSh.at (Sh.int IntKind.i64))] }
noncomputable def f_spec_tsMarks_2o : Spec := { objs := [OSh.ro, OSh.row true (59 : Nat) (Ty.slice (45 : Nat) (Ty.slice (91 : Nat) (Ty.pair (Ty.int IntKind.i64) (Ty.pair (Ty.int IntKind.i64) (Ty.int IntKind.i64))))), OSh.row true (25 : Nat) (Ty.slice (3 : Nat) (Ty.int IntKind.i64)), OSh.row true (3 : Nat) (Ty.int IntKind.i64)], tmps := [((1 : Nat), TSh.at (Sh.snap (0 : Nat) (Ty.slice (3 : Nat) (Ty.int IntKind.i64)))), ((5 : Nat), TSh.at (Sh.sl (1 : Nat))), ((6 : Nat), TSh.at (Sh.sl (2 : Nat))), ((9 : Nat), TSh.at (Sh.sl (3 : Nat))), ((15 : Nat), TSh.at (Sh.sl (1 : Nat))), ((16 : Nat), TSh.at (Sh.int IntKind.i64)), ((17 : Nat), TSh.at (Sh.int IntKind.i64))] }
noncomputable def f_spec_tsMarks_2D : LoopDef (Tup r_spec_tsMarks × OutD) := .plain f_spec_tsMarks_2i f_spec_tsMarks_2o (List (List (List (Int × Int × Int))) × List (List Int) × List Int × List (List Int) × Int × Int) (fun k x => f_spec_tsMarks_2 k x.1.2.1 x.1.2.2.1 x.1.2.2.2.1 x.2.1 x.2.2.2.2.1 x.2.2.2.2.2.1 x.2.2.2.2.2.2.2.2.1 x.2.2.2.2.2.2.2.2.2.1 x.2.2.2.2.2.2.2.2.2.2.1 x.2.2.2.2.2.2.2.2.2.2.2.1) (fun z => (((), z.1, z.2.1, z.2.2.1, ()), (z.2.2.2.1, (), (), (), (), z.2.2.2.2.1, z.2.2.2.2.2, ()))) (fun y => (y.1.2.1, y.1.2.2.1, y.1.2.2.2.1, y.2.1, y.2.2.2.2.2.2.1, y.2.2.2.2.2.2.2.1)) (fun _ => rfl)
noncomputable def f_spec_tsMarks_0 : Nat → List (List (List (Int × Int × Int))) → List (List Int) → List (List Int) → Int → Int → Option (List (List Int))
  | 0, _, _, _, _, _ => none
  | k + 1, o1, o2, v1, v16, v17 =>
    if decide (v17 < v16) = true then if (0 : Int) ≤ v17 then if v17 < (↑(List.length o1) : Int) then Option.bind (f_spec_tsMarks_2 k o1 o2 [] v1 v17 v17 v16 v17 (↑(List.length v1) : Int) (0 : Int)) fun z3 => if List.length (Prod.fst (Prod.snd z3)) + List.length [Prod.fst (Prod.snd (Prod.snd z3))] ≤ (140737488355328 / 24 : Nat) then f_spec_tsMarks_0 k (Prod.fst z3) (Prod.fst (Prod.snd z3) ++ [Prod.fst (Prod.snd (Prod.snd z3))]) (Prod.fst (Prod.snd (Prod.snd (Prod.snd z3)))) (Prod.fst (Prod.snd (Prod.snd (Prod.snd (Prod.snd z3))))) (wrap64 (Prod.snd (Prod.snd (Prod.snd (Prod.snd (Prod.snd z3)))) + (1 : Int))) else none else none else none else some o2
noncomputable def f_spec_tsMarks_0i : Spec := { objs := [OSh.ro, OSh.row true (59 : Nat) (Ty.slice (45 : Nat) (Ty.slice (91 : Nat) (Ty.pair (Ty.int IntKind.i64) (Ty.pair (Ty.int IntKind.i64) (Ty.int IntKind.i64))))), OSh.row true (25 : Nat) (Ty.slice (3 : Nat) (Ty.int IntKind.i64))], tmps := [((1 : Nat), TSh.at (Sh.snap (0 : Nat) (Ty.slice (3 : Nat) (Ty.int IntKind.i64)))), ((5 : Nat), TSh.at (Sh.sl (1 : Nat))), ((6 : Nat), TSh.at (Sh.sl (2 : Nat))), ((15 : Nat), TSh.at (Sh.sl (1 : Nat))), ((16 : Nat), TSh.at (Sh.int IntKind.i64)), ((17 : Nat), TSh.at (Sh.int IntKind.i64))] }
noncomputable def f_spec_tsMarks_0o : Spec := { objs := [OSh.ro, OSh.row true (25 : Nat) (Ty.slice (3 : Nat) (Ty.int IntKind.i64))], tmps := [((6 : Nat), TSh.at (Sh.sl (1 : Nat)))] }
noncomputable def f_spec_tsMarks_0D : LoopDef (Tup r_spec_tsMarks × OutD) := .plain f_spec_tsMarks_0i f_spec_tsMarks_0o (List (List Int)) (fun k x => f_spec_tsMarks_0 k x.1.2.1 x.1.2.2.1 x.2.1 x.2.2.2.2.2.1 x.2.2.2.2.2.2.1) (fun z => (((), z, ()), ((), ()))) (fun y => (y.1.2.1)) (fun _ => rfl)
noncomputable def f_spec_tsMarks : Nat → Int × Int × List (Int × Int) → List (List Int) → Option (List (List Int))
  | 0, _, _ => none
  | k + 1, p0, p1 =>
    Option.bind (f_spec_tsCases k (Prod.fst p0, Prod.fst (Prod.snd p0), Prod.snd (Prod.snd p0)) p1) fun z0 => Option.bind (f_spec_tsMarks_0 k z0 [] p1 (↑(List.length z0) : Int) (0 : Int)) fun z4 => some z4
noncomputable def d_spec_tsMarks : FnDef := .of q_spec_tsMarks r_spec_tsMarks (List (List Int)) (fun k x => f_spec_tsMarks k x.1 x.2.1) to_spec_tsMarks of_spec_tsMarks to_of_spec_tsMarks
noncomputable def c_spec_tsMarks : Code := Try.f91.body.getD .skip
noncomputable def x_spec_tsMarks : Ctx (Tup r_spec_tsMarks × OutD) := { T := T, G := [(99, d_spec_tsCases.E), (100, d_spec_faSame.E)], mvs := [], no := 0, n := 58, res := resOf T q_spec_tsMarks r_spec_tsMarks Try.f91.results.toList, loops := [(4, f_spec_tsMarks_4D.E), (2, f_spec_tsMarks_2D.E), (0, f_spec_tsMarks_0D.E)], regs := [], conds := [] }
theorem g_spec_tsMarks (k : Nat) : EnvOK Try.prog k x_spec_tsMarks.G := (EnvOK.cons (s_spec_tsCases k) (EnvOK.cons (s_spec_faSame k) (EnvOK.nil mixed)))
noncomputable def f_spec_tsMarks_4B : Code := (findLoop 4 c_spec_tsMarks).getD .skip
theorem f_spec_tsMarks_4h (k : Nat) (x : f_spec_tsMarks_4i.D) : f_spec_tsMarks_4D.lp (k + 1) x = loopK x_spec_tsMarks f_spec_tsMarks_4D 4 f_spec_tsMarks_4B k x := by kernel_rfl
theorem f_spec_tsMarks_4l (k : Nat) : LOK Try.prog x_spec_tsMarks k f_spec_tsMarks_4B := LOK.by [] (by kernel_rfl) AllOK.nil
theorem f_spec_tsMarks_4z (x : f_spec_tsMarks_4i.D) : f_spec_tsMarks_4D.lp 0 x = none := by kernel_rfl
theorem f_spec_tsMarks_4ok (k : Nat) : EOK Try.prog x_spec_tsMarks k f_spec_tsMarks_4D.E (.block 4 (.loop f_spec_tsMarks_4B)) := loop_ok T_ok g_spec_tsMarks f_spec_tsMarks_4z f_spec_tsMarks_4h f_spec_tsMarks_4l k
noncomputable def f_spec_tsMarks_2B : Code := (findLoop 2 c_spec_tsMarks).getD .skip
theorem f_spec_tsMarks_2h (k : Nat) (x : f_spec_tsMarks_2i.D) : f_spec_tsMarks_2D.lp (k + 1) x = loopK x_spec_tsMarks f_spec_tsMarks_2D 2 f_spec_tsMarks_2B k x := by kernel_rfl
theorem f_spec_tsMarks_2l (k : Nat) : LOK Try.prog x_spec_tsMarks k f_spec_tsMarks_2B := LOK.by [(f_spec_tsMarks_4D.E, .block 4 (.loop f_spec_tsMarks_4B))] (by kernel_rfl) (AllOK.cons (f_spec_tsMarks_4ok k) AllOK.nil)
theorem f_spec_tsMarks_2z (x : f_spec_tsMarks_2i.D) : f_spec_tsMarks_2D.lp 0 x = none := by kernel_rfl
theorem f_spec_tsMarks_2ok (k : Nat) : EOK Try.prog x_spec_tsMarks k f_spec_tsMarks_2D.E (.block 2 (.loop f_spec_tsMarks_2B)) := loop_ok T_ok g_spec_tsMarks f_spec_tsMarks_2z f_spec_tsMarks_2h f_spec_tsMarks_2l k
noncomputable def f_spec_tsMarks_0B : Code := (findLoop 0 c_spec_tsMarks).getD .skip
theorem f_spec_tsMarks_0h (k : Nat) (x : f_spec_tsMarks_0i.D) : f_spec_tsMarks_0D.lp (k + 1) x = loopK x_spec_tsMarks f_spec_tsMarks_0D 0 f_spec_tsMarks_0B k x := by kernel_rfl
theorem f_spec_tsMarks_0l (k : Nat) : LOK Try.prog x_spec_tsMarks k f_spec_tsMarks_0B := LOK.by [(f_spec_tsMarks_2D.E, .block 2 (.loop f_spec_tsMarks_2B))] (by kernel_rfl) (AllOK.cons (f_spec_tsMarks_2ok k) AllOK.nil)
theorem f_spec_tsMarks_0z (x : f_spec_tsMarks_0i.D) : f_spec_tsMarks_0D.lp 0 x = none := by kernel_rfl
theorem f_spec_tsMarks_0ok (k : Nat) : EOK Try.prog x_spec_tsMarks k f_spec_tsMarks_0D.E (.block 0 (.loop f_spec_tsMarks_0B)) := loop_ok T_ok g_spec_tsMarks f_spec_tsMarks_0z f_spec_tsMarks_0h f_spec_tsMarks_0l k
theorem h_spec_tsMarks (k : Nat) (x : Tup d_spec_tsMarks.ps) : d_spec_tsMarks.f (k + 1) x = fnK d_spec_tsMarks x_spec_tsMarks c_spec_tsMarks k x := by kernel_rfl
theorem z_spec_tsMarks (x : Tup d_spec_tsMarks.ps) : d_spec_tsMarks.f 0 x = none := by kernel_rfl
theorem l_spec_tsMarks (k : Nat) : LOK Try.prog x_spec_tsMarks k c_spec_tsMarks := LOK.by [(f_spec_tsMarks_0D.E, .block 0 (.loop f_spec_tsMarks_0B))] (by kernel_rfl) (AllOK.cons (f_spec_tsMarks_0ok k) AllOK.nil)
theorem s_spec_tsMarks (k : Nat) : SoundAt Try.prog k 91 d_spec_tsMarks.E := @fn_all Try.prog d_spec_tsMarks x_spec_tsMarks 91 Try.f91 c_spec_tsMarks (by kernel_rfl) (by kernel_rfl) (by kernel_rfl) Try.func91 (by kernel_rfl) (by kernel_rfl) (by kernel_rfl) T_ok g_spec_tsMarks l_spec_tsMarks z_spec_tsMarks h_spec_tsMarks k
end
end Go.Proofs.Ytgpmbmnfcbippaa.Vs

set_option maxRecDepth 100000
set_option linter.unusedVariables false
set_option linter.unusedSimpArgs false
namespace Go.Proofs.Ytgpmbmnfcbippaa.Vs
open Go.RowKit
noncomputable section
/-! function 3 -/
/-! function 4 -/
/-! function 5 -/
/-! function 11 -/
noncomputable def r_laws_FnExactFaultsLike : List PK := [{ t := Ty.bool }]
noncomputable def q_laws_FnExactFaultsLike : List PK := [{ t := Ty.pair (Ty.int IntKind.i64) (Ty.pair (Ty.int IntKind.i64) (Ty.slice (118 : Nat) (Ty.pair (Ty.int IntKind.i64) (Ty.int IntKind.i64)))), agg := true }, { t := Ty.slice (25 : Nat) (Ty.slice (3 : Nat) (Ty.int IntKind.i64)) }, { t := Ty.slice (42 : Nat) (Ty.slice (93 : Nat) (Ty.pair (Ty.int IntKind.i64) (Ty.pair (Ty.int IntKind.i64) (Ty.int IntKind.i64)))) }]
noncomputable def to_laws_FnExactFaultsLike (r : Bool) : Tup r_laws_FnExactFaultsLike × OutD := ((r, ()), none)
noncomputable def of_laws_FnExactFaultsLike : Tup r_laws_FnExactFaultsLike × OutD → Option (Bool)
  | (a, none) => some (a.1)
  | _ => none
theorem to_of_laws_FnExactFaultsLike : ∀ b r, of_laws_FnExactFaultsLike b = some r → to_laws_FnExactFaultsLike r = b := by
  rintro ⟨a, o⟩ r h
  cases o with
  | none => injection h with h; subst h; rfl
  | some _ => cases h
noncomputable def f_laws_FnExactFaultsLike : Nat → Int × Int × List (Int × Int) → List (List Int) → List (List (Int × Int × Int)) → Option Bool
  | 0, _, _, _ => none
  | k + 1, p0, p1, p2 =>
    Option.bind (f_laws_szBoard k (Prod.fst p0, Prod.fst (Prod.snd p0), Prod.snd (Prod.snd p0)) (1048576 : Int)) fun z0 => if decide (z0 < (0 : Int)) = true then some true else Option.bind (f_laws_szIntSS k p1 z0) fun z1 => if decide (z1 < (0 : Int)) = true then some true else Option.bind (f_laws_szFallSS k p2 z1) fun z2 => if decide (z2 < (0 : Int)) = true then some true else Option.bind (f_laws_toBoard k (Prod.fst p0, Prod.fst (Prod.snd p0), Prod.snd (Prod.snd p0))) fun z3 => Option.bind (f_laws_toIntSS k p1) fun z4 => Option.bind (f_laws_toFallSS k p2) fun z5 => Option.bind (f_spec_FaultsLike k (Prod.fst z3, Prod.fst (Prod.snd z3), Prod.snd (Prod.snd z3)) z4 z5) fun z6 => Option.bind (f_laws_toBoard k (Prod.fst p0, Prod.fst (Prod.snd p0), Prod.snd (Prod.snd p0))) fun z7 => Option.bind (f_laws_toIntSS k p1) fun z8 => Option.bind (f_laws_toFallSS k p2) fun z9 => Option.bind (f_impl_FaultsLike k (Prod.fst z7, Prod.fst (Prod.snd z7), Prod.snd (Prod.snd z7)) z8 z9) fun z10 => Option.bind (f_laws_eqIntS k (Prod.fst z10) (Prod.fst z6)) fun z11 => if (!z11) = true then some false else if (!Prod.snd z10 == Prod.snd z6) = true then some false else Option.bind (f_laws_toBoard k (Prod.fst p0, Prod.fst (Prod.snd p0), Prod.snd (Prod.snd p0))) fun z12 => Option.bind (f_laws_eqBoard k (Prod.fst z7, Prod.fst (Prod.snd z7), Prod.snd (Prod.snd z7)) (Prod.fst z12, Prod.fst (Prod.snd z12), Prod.snd (Prod.snd z12))) fun z13 => if (!z13) = true then some false else Option.bind (f_laws_toIntSS k p1) fun z14 => Option.bind (f_laws_eqIntSS k z8 z14) fun z15 => if (!z15) = true then some false else Option.bind (f_laws_toFallSS k p2) fun z16 => Option.bind (f_laws_eqFallSS k z9 z16) fun z17 => if (!z17) = true then some false else Option.bind (f_laws_markBoard k (Prod.fst z7, Prod.fst (Prod.snd z7), Prod.snd (Prod.snd z7)) (1 : Int)) fun z18 => Option.bind (f_laws_markIntSS k z8 (Prod.fst z18)) fun z19 => Option.bind (f_laws_markFallSS k z9 (Prod.fst z19)) fun z20 => if decide (Prod.fst z20 < (0 : Int)) = true then some false else Option.bind (f_laws_eqIntS k (Prod.fst z10) (Prod.fst z6)) fun z21 => if (!z21) = true then some false else if (!Prod.snd z10 == Prod.snd z6) = true then some false else Option.bind (f_laws_markIntS k (Prod.fst z10) (1 : Int)) fun z22 => Option.bind (f_laws_heldIntS k (Prod.snd z22) (1 : Int)) fun z23 => if decide (z23 < (0 : Int)) = true then some false else if decide (z23 ≠ Prod.fst z22) = true then some false else Option.bind (f_laws_toBoard k (Prod.fst p0, Prod.fst (Prod.snd p0), Prod.snd (Prod.snd p0))) fun z24 => Option.bind (f_laws_toIntSS k p1) fun z25 => Option.bind (f_laws_toFallSS k p2) fun z26 => Option.bind (f_impl_FaultsLike k (Prod.fst z24, Prod.fst (Prod.snd z24), Prod.snd (Prod.snd z24)) z25 z26) fun z27 => Option.bind (f_laws_eqIntS k (Prod.fst z27) (Prod.fst z6)) fun z28 => if (!z28) = true then some false else if (!Prod.snd z27 == Prod.snd z6) = true then some false else Option.bind (f_laws_heldIntS k (Prod.snd z22) (1 : Int)) fun z29 => if decide (z29 < (0 : Int)) = true then some false else if decide (z29 ≠ Prod.fst z22) = true then some false else some true
noncomputable def d_laws_FnExactFaultsLike : FnDef := .of q_laws_FnExactFaultsLike r_laws_FnExactFaultsLike (Bool) (fun k x => f_laws_FnExactFaultsLike k x.1 x.2.1 x.2.2.1) to_laws_FnExactFaultsLike of_laws_FnExactFaultsLike to_of_laws_FnExactFaultsLike
noncomputable def c_laws_FnExactFaultsLike : Code := Try.f11.body.getD .skip
noncomputable def x_laws_FnExactFaultsLike : Ctx (Tup r_laws_FnExactFaultsLike × OutD) := { T := T, G := [(13, d_laws_szBoard.E), (42, d_laws_szIntSS.E), (54, d_laws_szFallSS.E), (15, d_laws_toBoard.E), (45, d_laws_toIntSS.E), (56, d_laws_toFallSS.E), (55, d_spec_FaultsLike.E), (57, d_impl_FaultsLike.E), (20, d_laws_eqIntS.E), (19, d_laws_eqBoard.E), (33, d_laws_eqIntSS.E), (47, d_laws_eqFallSS.E), (21, d_laws_markBoard.E), (34, d_laws_markIntSS.E), (48, d_laws_markFallSS.E), (22, d_laws_markIntS.E), (38, d_laws_heldIntS.E)], mvs := [], no := 0, n := 142, res := resOf T q_laws_FnExactFaultsLike r_laws_FnExactFaultsLike Try.f11.results.toList, loops := [], regs := [], conds := [] }
theorem g_laws_FnExactFaultsLike (k : Nat) : EnvOK Try.prog k x_laws_FnExactFaultsLike.G := (EnvOK.cons (s_laws_szBoard k) (EnvOK.cons (s_laws_szIntSS k) (EnvOK.cons (s_laws_szFallSS k) (EnvOK.cons (s_laws_toBoard k) (EnvOK.cons (s_laws_toIntSS k) (EnvOK.cons (s_laws_toFallSS k) (EnvOK.cons (s_spec_FaultsLike k) (EnvOK.cons (s_impl_FaultsLike k) (EnvOK.cons (s_laws_eqIntS k) (EnvOK.cons (s_laws_eqBoard k) (EnvOK.cons (s_laws_eqIntSS k) (EnvOK.cons (s_laws_eqFallSS k) (EnvOK.cons (s_laws_markBoard k) (EnvOK.cons (s_laws_markIntSS k) (EnvOK.cons (s_laws_markFallSS k) (EnvOK.cons (s_laws_markIntS k) (EnvOK.cons (s_laws_heldIntS k) (EnvOK.nil mixed))))))))))))))))))
theorem h_laws_FnExactFaultsLike (k : Nat) (x : Tup d_laws_FnExactFaultsLike.ps) : d_laws_FnExactFaultsLike.f (k + 1) x = fnK d_laws_FnExactFaultsLike x_laws_FnExactFaultsLike c_laws_FnExactFaultsLike k x := by kernel_rfl
theorem z_laws_FnExactFaultsLike (x : Tup d_laws_FnExactFaultsLike.ps) : d_laws_FnExactFaultsLike.f 0 x = none := by kernel_rfl
theorem l_laws_FnExactFaultsLike (k : Nat) : LOK Try.prog x_laws_FnExactFaultsLike k c_laws_FnExactFaultsLike := LOK.by [] (by kernel_rfl) AllOK.nil
theorem s_laws_FnExactFaultsLike (k : Nat) : SoundAt Try.prog k 11 d_laws_FnExactFaultsLike.E := @fn_all Try.prog d_laws_FnExactFaultsLike x_laws_FnExactFaultsLike 11 Try.f11 c_laws_FnExactFaultsLike (by kernel_rfl) (by kernel_rfl) (by kernel_rfl) Try.func11 (by kernel_rfl) (by kernel_rfl) (by kernel_rfl) T_ok g_laws_FnExactFaultsLike l_laws_FnExactFaultsLike z_laws_FnExactFaultsLike h_laws_FnExactFaultsLike k
/-! function 36 -/
/-! function 39 -/
/-! function 50 -/
noncomputable def r_spec_DetectedFaults : List PK := [{ t := Ty.slice (3 : Nat) (Ty.int IntKind.i64) }, { t := Ty.bool }]
noncomputable def q_spec_DetectedFaults : List PK := [{ t := Ty.pair (Ty.int IntKind.i64) (Ty.pair (Ty.int IntKind.i64) (Ty.slice (116 : Nat) (Ty.pair (Ty.int IntKind.i64) (Ty.int IntKind.i64)))), agg := true }, { t := Ty.slice (25 : Nat) (Ty.slice (3 : Nat) (Ty.int IntKind.i64)) }]
noncomputable def to_spec_DetectedFaults (r : List Int × Bool) : Tup r_spec_DetectedFaults × OutD := ((r.1, r.2, ()), none)
noncomputable def of_spec_DetectedFaults : Tup r_spec_DetectedFaults × OutD → Option (List Int × Bool)
  | (a, none) => some (a.1, a.2.1)
  | _ => none
theorem to_of_spec_DetectedFaults : ∀ b r, of_spec_DetectedFaults b = some r → to_spec_DetectedFaults r = b := by
  rintro ⟨a, o⟩ r h
  cases o with
  | none => injection h with h; subst h; rfl
  | some _ => cases h
noncomputable def f_spec_DetectedFaults : Nat → Int × Int × List (Int × Int) → List (List Int) → Option (List Int × Bool)
  | 0, _, _ => none
  | k + 1, p0, p1 =>
    Option.bind (f_spec_tsAsked k (Prod.fst p0, Prod.fst (Prod.snd p0), Prod.snd (Prod.snd p0)) p1) fun z0 => if (!z0) = true then some ([], false) else Option.bind (f_spec_tsMarks k (Prod.fst p0, Prod.fst (Prod.snd p0), Prod.snd (Prod.snd p0)) p1) fun z1 => Option.bind (f_spec_tsAll k p1) fun z2 => Option.bind (f_spec_tsDetected k z1 z2) fun z3 => some (z3, true)
noncomputable def d_spec_DetectedFaults : FnDef := .of q_spec_DetectedFaults r_spec_DetectedFaults (List Int × Bool) (fun k x => f_spec_DetectedFaults k x.1 x.2.1) to_spec_DetectedFaults of_spec_DetectedFaults to_of_spec_DetectedFaults
noncomputable def c_spec_DetectedFaults : Code := Try.f50.body.getD .skip
noncomputable def x_spec_DetectedFaults : Ctx (Tup r_spec_DetectedFaults × OutD) := { T := T, G := [(82, d_spec_tsAsked.E), (91, d_spec_tsMarks.E), (92, d_spec_tsAll.E), (90, d_spec_tsDetected.E)], mvs := [], no := 0, n := 16, res := resOf T q_spec_DetectedFaults r_spec_DetectedFaults Try.f50.results.toList, loops := [], regs := [], conds := [] }
theorem g_spec_DetectedFaults (k : Nat) : EnvOK Try.prog k x_spec_DetectedFaults.G := (EnvOK.cons (s_spec_tsAsked k) (EnvOK.cons (s_spec_tsMarks k) (EnvOK.cons (s_spec_tsAll k) (EnvOK.cons (s_spec_tsDetected k) (EnvOK.nil mixed)))))
theorem h_spec_DetectedFaults (k : Nat) (x : Tup d_spec_DetectedFaults.ps) : d_spec_DetectedFaults.f (k + 1) x = fnK d_spec_DetectedFaults x_spec_DetectedFaults c_spec_DetectedFaults k x := by kernel_rfl
theorem z_spec_DetectedFaults (x : Tup d_spec_DetectedFaults.ps) : d_spec_DetectedFaults.f 0 x = none := by kernel_rfl
theorem l_spec_DetectedFaults (k : Nat) : LOK Try.prog x_spec_DetectedFaults k c_spec_DetectedFaults := LOK.by [] (by kernel_rfl) AllOK.nil
theorem s_spec_DetectedFaults (k : Nat) : SoundAt Try.prog k 50 d_spec_DetectedFaults.E := @fn_all Try.prog d_spec_DetectedFaults x_spec_DetectedFaults 50 Try.f50 c_spec_DetectedFaults (by kernel_rfl) (by kernel_rfl) (by kernel_rfl) Try.func50 (by kernel_rfl) (by kernel_rfl) (by kernel_rfl) T_ok g_spec_DetectedFaults l_spec_DetectedFaults z_spec_DetectedFaults h_spec_DetectedFaults k
/-! function 52 -/
noncomputable def r_spec_FaultClasses : List PK := [{ t := Ty.slice (25 : Nat) (Ty.slice (3 : Nat) (Ty.int IntKind.i64)) }, { t := Ty.bool }]
noncomputable def q_spec_FaultClasses : List PK := [{ t := Ty.pair (Ty.int IntKind.i64) (Ty.pair (Ty.int IntKind.i64) (Ty.slice (116 : Nat) (Ty.pair (Ty.int IntKind.i64) (Ty.int IntKind.i64)))), agg := true }, { t := Ty.slice (25 : Nat) (Ty.slice (3 : Nat) (Ty.int IntKind.i64)) }]
noncomputable def to_spec_FaultClasses (r : List (List Int) × Bool) : Tup r_spec_FaultClasses × OutD := ((r.1, r.2, ()), none)
noncomputable def of_spec_FaultClasses : Tup r_spec_FaultClasses × OutD → Option (List (List Int) × Bool)
  | (a, none) => some (a.1, a.2.1)
  | _ => none
theorem to_of_spec_FaultClasses : ∀ b r, of_spec_FaultClasses b = some r → to_spec_FaultClasses r = b := by
  rintro ⟨a, o⟩ r h
  cases o with
  | none => injection h with h; subst h; rfl
  | some _ => cases h
noncomputable def f_spec_FaultClasses : Nat → Int × Int × List (Int × Int) → List (List Int) → Option (List (List Int) × Bool)
  | 0, _, _ => none
  | k + 1, p0, p1 =>
    Option.bind (f_spec_tsAsked k (Prod.fst p0, Prod.fst (Prod.snd p0), Prod.snd (Prod.snd p0)) p1) fun z0 => if (!z0) = true then some ([], false) else Option.bind (f_spec_tsMarks k (Prod.fst p0, Prod.fst (Prod.snd p0), Prod.snd (Prod.snd p0)) p1) fun z1 => Option.bind (f_spec_tsAll k p1) fun z2 => Option.bind (f_spec_tsClasses k z1 z2) fun z3 => Option.bind (f_spec_tsLists k z3) fun z4 => some (z4, true)
noncomputable def d_spec_FaultClasses : FnDef := .of q_spec_FaultClasses r_spec_FaultClasses (List (List Int) × Bool) (fun k x => f_spec_FaultClasses k x.1 x.2.1) to_spec_FaultClasses of_spec_FaultClasses to_of_spec_FaultClasses
noncomputable def c_spec_FaultClasses : Code := Try.f52.body.getD .skip
noncomputable def x_spec_FaultClasses : Ctx (Tup r_spec_FaultClasses × OutD) := { T := T, G := [(82, d_spec_tsAsked.E), (91, d_spec_tsMarks.E), (92, d_spec_tsAll.E), (97, d_spec_tsClasses.E), (96, d_spec_tsLists.E)], mvs := [], no := 0, n := 17, res := resOf T q_spec_FaultClasses r_spec_FaultClasses Try.f52.results.toList, loops := [], regs := [], conds := [] }
theorem g_spec_FaultClasses (k : Nat) : EnvOK Try.prog k x_spec_FaultClasses.G := (EnvOK.cons (s_spec_tsAsked k) (EnvOK.cons (s_spec_tsMarks k) (EnvOK.cons (s_spec_tsAll k) (EnvOK.cons (s_spec_tsClasses k) (EnvOK.cons (s_spec_tsLists k) (EnvOK.nil mixed))))))
theorem h_spec_FaultClasses (k : Nat) (x : Tup d_spec_FaultClasses.ps) : d_spec_FaultClasses.f (k + 1) x = fnK d_spec_FaultClasses x_spec_FaultClasses c_spec_FaultClasses k x := by kernel_rfl
theorem z_spec_FaultClasses (x : Tup d_spec_FaultClasses.ps) : d_spec_FaultClasses.f 0 x = none := by kernel_rfl
theorem l_spec_FaultClasses (k : Nat) : LOK Try.prog x_spec_FaultClasses k c_spec_FaultClasses := LOK.by [] (by kernel_rfl) AllOK.nil
theorem s_spec_FaultClasses (k : Nat) : SoundAt Try.prog k 52 d_spec_FaultClasses.E := @fn_all Try.prog d_spec_FaultClasses x_spec_FaultClasses 52 Try.f52 c_spec_FaultClasses (by kernel_rfl) (by kernel_rfl) (by kernel_rfl) Try.func52 (by kernel_rfl) (by kernel_rfl) (by kernel_rfl) T_ok g_spec_FaultClasses l_spec_FaultClasses z_spec_FaultClasses h_spec_FaultClasses k
/-! function 58 -/
end
end Go.Proofs.Ytgpmbmnfcbippaa.Vs

set_option maxRecDepth 100000
set_option linter.unusedVariables false
set_option linter.unusedSimpArgs false
namespace Go.Proofs.Ytgpmbmnfcbippaa.Vs
open Go.RowKit
noncomputable section
/-! function 6 -/
/-! function 7 -/
/-! function 9 -/
noncomputable def r_laws_FnExactDetectedFaults : List PK := [{ t := Ty.bool }]
noncomputable def q_laws_FnExactDetectedFaults : List PK := [{ t := Ty.pair (Ty.int IntKind.i64) (Ty.pair (Ty.int IntKind.i64) (Ty.slice (118 : Nat) (Ty.pair (Ty.int IntKind.i64) (Ty.int IntKind.i64)))), agg := true }, { t := Ty.slice (25 : Nat) (Ty.slice (3 : Nat) (Ty.int IntKind.i64)) }]
noncomputable def to_laws_FnExactDetectedFaults (r : Bool) : Tup r_laws_FnExactDetectedFaults × OutD := ((r, ()), none)
noncomputable def of_laws_FnExactDetectedFaults : Tup r_laws_FnExactDetectedFaults × OutD → Option (Bool)
  | (a, none) => some (a.1)
  | _ => none
theorem to_of_laws_FnExactDetectedFaults : ∀ b r, of_laws_FnExactDetectedFaults b = some r → to_laws_FnExactDetectedFaults r = b := by
  rintro ⟨a, o⟩ r h
  cases o with
  | none => injection h with h; subst h; rfl
  | some _ => cases h
noncomputable def f_laws_FnExactDetectedFaults : Nat → Int × Int × List (Int × Int) → List (List Int) → Option Bool
  | 0, _, _ => none
  | k + 1, p0, p1 =>
    Option.bind (f_laws_szBoard k (Prod.fst p0, Prod.fst (Prod.snd p0), Prod.snd (Prod.snd p0)) (1048576 : Int)) fun z0 => if decide (z0 < (0 : Int)) = true then some true else Option.bind (f_laws_szIntSS k p1 z0) fun z1 => if decide (z1 < (0 : Int)) = true then some true else Option.bind (f_laws_toBoard k (Prod.fst p0, Prod.fst (Prod.snd p0), Prod.snd (Prod.snd p0))) fun z2 => Option.bind (f_laws_toIntSS k p1) fun z3 => Option.bind (f_spec_DetectedFaults k (Prod.fst z2, Prod.fst (Prod.snd z2), Prod.snd (Prod.snd z2)) z3) fun z4 => Option.bind (f_laws_toBoard k (Prod.fst p0, Prod.fst (Prod.snd p0), Prod.snd (Prod.snd p0))) fun z5 => Option.bind (f_laws_toIntSS k p1) fun z6 => Option.bind (f_impl_DetectedFaults k (Prod.fst z5, Prod.fst (Prod.snd z5), Prod.snd (Prod.snd z5)) z6) fun z7 => Option.bind (f_laws_eqIntS k (Prod.fst z7) (Prod.fst z4)) fun z8 => if (!z8) = true then some false else if (!Prod.snd z7 == Prod.snd z4) = true then some false else Option.bind (f_laws_toBoard k (Prod.fst p0, Prod.fst (Prod.snd p0), Prod.snd (Prod.snd p0))) fun z9 => Option.bind (f_laws_eqBoard k (Prod.fst z5, Prod.fst (Prod.snd z5), Prod.snd (Prod.snd z5)) (Prod.fst z9, Prod.fst (Prod.snd z9), Prod.snd (Prod.snd z9))) fun z10 => if (!z10) = true then some false else Option.bind (f_laws_toIntSS k p1) fun z11 => Option.bind (f_laws_eqIntSS k z6 z11) fun z12 => if (!z12) = true then some false else Option.bind (f_laws_markBoard k (Prod.fst z5, Prod.fst (Prod.snd z5), Prod.snd (Prod.snd z5)) (1 : Int)) fun z13 => Option.bind (f_laws_markIntSS k z6 (Prod.fst z13)) fun z14 => if decide (Prod.fst z14 < (0 : Int)) = true then some false else Option.bind (f_laws_eqIntS k (Prod.fst z7) (Prod.fst z4)) fun z15 => if (!z15) = true then some false else if (!Prod.snd z7 == Prod.snd z4) = true then some false else Option.bind (f_laws_markIntS k (Prod.fst z7) (1 : Int)) fun z16 => Option.bind (f_laws_heldIntS k (Prod.snd z16) (1 : Int)) fun z17 => if decide (z17 < (0 : Int)) = true then some false else if decide (z17 ≠ Prod.fst z16) = true then some false else Option.bind (f_laws_toBoard k (Prod.fst p0, Prod.fst (Prod.snd p0), Prod.snd (Prod.snd p0))) fun z18 => Option.bind (f_laws_toIntSS k p1) fun z19 => Option.bind (f_impl_DetectedFaults k (Prod.fst z18, Prod.fst (Prod.snd z18), Prod.snd (Prod.snd z18)) z19) fun z20 => Option.bind (f_laws_eqIntS k (Prod.fst z20) (Prod.fst z4)) fun z21 => if (!z21) = true then some false else if (!Prod.snd z20 == Prod.snd z4) = true then some false else Option.bind (f_laws_heldIntS k (Prod.snd z16) (1 : Int)) fun z22 => if decide (z22 < (0 : Int)) = true then some false else if decide (z22 ≠ Prod.fst z16) = true then some false else some true
noncomputable def d_laws_FnExactDetectedFaults : FnDef := .of q_laws_FnExactDetectedFaults r_laws_FnExactDetectedFaults (Bool) (fun k x => f_laws_FnExactDetectedFaults k x.1 x.2.1) to_laws_FnExactDetectedFaults of_laws_FnExactDetectedFaults to_of_laws_FnExactDetectedFaults
noncomputable def c_laws_FnExactDetectedFaults : Code := Try.f9.body.getD .skip
noncomputable def x_laws_FnExactDetectedFaults : Ctx (Tup r_laws_FnExactDetectedFaults × OutD) := { T := T, G := [(13, d_laws_szBoard.E), (42, d_laws_szIntSS.E), (15, d_laws_toBoard.E), (45, d_laws_toIntSS.E), (50, d_spec_DetectedFaults.E), (51, d_impl_DetectedFaults.E), (20, d_laws_eqIntS.E), (19, d_laws_eqBoard.E), (33, d_laws_eqIntSS.E), (21, d_laws_markBoard.E), (34, d_laws_markIntSS.E), (22, d_laws_markIntS.E), (38, d_laws_heldIntS.E)], mvs := [], no := 0, n := 119, res := resOf T q_laws_FnExactDetectedFaults r_laws_FnExactDetectedFaults Try.f9.results.toList, loops := [], regs := [], conds := [] }
theorem g_laws_FnExactDetectedFaults (k : Nat) : EnvOK Try.prog k x_laws_FnExactDetectedFaults.G := (EnvOK.cons (s_laws_szBoard k) (EnvOK.cons (s_laws_szIntSS k) (EnvOK.cons (s_laws_toBoard k) (EnvOK.cons (s_laws_toIntSS k) (EnvOK.cons (s_spec_DetectedFaults k) (EnvOK.cons (s_impl_DetectedFaults k) (EnvOK.cons (s_laws_eqIntS k) (EnvOK.cons (s_laws_eqBoard k) (EnvOK.cons (s_laws_eqIntSS k) (EnvOK.cons (s_laws_markBoard k) (EnvOK.cons (s_laws_markIntSS k) (EnvOK.cons (s_laws_markIntS k) (EnvOK.cons (s_laws_heldIntS k) (EnvOK.nil mixed))))))))))))))
theorem h_laws_FnExactDetectedFaults (k : Nat) (x : Tup d_laws_FnExactDetectedFaults.ps) : d_laws_FnExactDetectedFaults.f (k + 1) x = fnK d_laws_FnExactDetectedFaults x_laws_FnExactDetectedFaults c_laws_FnExactDetectedFaults k x := by kernel_rfl
theorem z_laws_FnExactDetectedFaults (x : Tup d_laws_FnExactDetectedFaults.ps) : d_laws_FnExactDetectedFaults.f 0 x = none := by kernel_rfl
theorem l_laws_FnExactDetectedFaults (k : Nat) : LOK Try.prog x_laws_FnExactDetectedFaults k c_laws_FnExactDetectedFaults := LOK.by [] (by kernel_rfl) AllOK.nil
theorem s_laws_FnExactDetectedFaults (k : Nat) : SoundAt Try.prog k 9 d_laws_FnExactDetectedFaults.E := @fn_all Try.prog d_laws_FnExactDetectedFaults x_laws_FnExactDetectedFaults 9 Try.f9 c_laws_FnExactDetectedFaults (by kernel_rfl) (by kernel_rfl) (by kernel_rfl) Try.func9 (by kernel_rfl) (by kernel_rfl) (by kernel_rfl) T_ok g_laws_FnExactDetectedFaults l_laws_FnExactDetectedFaults z_laws_FnExactDetectedFaults h_laws_FnExactDetectedFaults k
/-! function 10 -/
noncomputable def r_laws_FnExactFaultClasses : List PK := [{ t := Ty.bool }]
noncomputable def q_laws_FnExactFaultClasses : List PK := [{ t := Ty.pair (Ty.int IntKind.i64) (Ty.pair (Ty.int IntKind.i64) (Ty.slice (118 : Nat) (Ty.pair (Ty.int IntKind.i64) (Ty.int IntKind.i64)))), agg := true }, { t := Ty.slice (25 : Nat) (Ty.slice (3 : Nat) (Ty.int IntKind.i64)) }]
noncomputable def to_laws_FnExactFaultClasses (r : Bool) : Tup r_laws_FnExactFaultClasses × OutD := ((r, ()), none)
noncomputable def of_laws_FnExactFaultClasses : Tup r_laws_FnExactFaultClasses × OutD → Option (Bool)
  | (a, none) => some (a.1)
  | _ => none
theorem to_of_laws_FnExactFaultClasses : ∀ b r, of_laws_FnExactFaultClasses b = some r → to_laws_FnExactFaultClasses r = b := by
  rintro ⟨a, o⟩ r h
  cases o with
  | none => injection h with h; subst h; rfl
  | some _ => cases h
noncomputable def f_laws_FnExactFaultClasses : Nat → Int × Int × List (Int × Int) → List (List Int) → Option Bool
  | 0, _, _ => none
  | k + 1, p0, p1 =>
    Option.bind (f_laws_szBoard k (Prod.fst p0, Prod.fst (Prod.snd p0), Prod.snd (Prod.snd p0)) (1048576 : Int)) fun z0 => if decide (z0 < (0 : Int)) = true then some true else Option.bind (f_laws_szIntSS k p1 z0) fun z1 => if decide (z1 < (0 : Int)) = true then some true else Option.bind (f_laws_toBoard k (Prod.fst p0, Prod.fst (Prod.snd p0), Prod.snd (Prod.snd p0))) fun z2 => Option.bind (f_laws_toIntSS k p1) fun z3 => Option.bind (f_spec_FaultClasses k (Prod.fst z2, Prod.fst (Prod.snd z2), Prod.snd (Prod.snd z2)) z3) fun z4 => Option.bind (f_laws_toBoard k (Prod.fst p0, Prod.fst (Prod.snd p0), Prod.snd (Prod.snd p0))) fun z5 => Option.bind (f_laws_toIntSS k p1) fun z6 => Option.bind (f_impl_FaultClasses k (Prod.fst z5, Prod.fst (Prod.snd z5), Prod.snd (Prod.snd z5)) z6) fun z7 => Option.bind (f_laws_eqIntSS k (Prod.fst z7) (Prod.fst z4)) fun z8 => if (!z8) = true then some false else if (!Prod.snd z7 == Prod.snd z4) = true then some false else Option.bind (f_laws_toBoard k (Prod.fst p0, Prod.fst (Prod.snd p0), Prod.snd (Prod.snd p0))) fun z9 => Option.bind (f_laws_eqBoard k (Prod.fst z5, Prod.fst (Prod.snd z5), Prod.snd (Prod.snd z5)) (Prod.fst z9, Prod.fst (Prod.snd z9), Prod.snd (Prod.snd z9))) fun z10 => if (!z10) = true then some false else Option.bind (f_laws_toIntSS k p1) fun z11 => Option.bind (f_laws_eqIntSS k z6 z11) fun z12 => if (!z12) = true then some false else Option.bind (f_laws_markBoard k (Prod.fst z5, Prod.fst (Prod.snd z5), Prod.snd (Prod.snd z5)) (1 : Int)) fun z13 => Option.bind (f_laws_markIntSS k z6 (Prod.fst z13)) fun z14 => if decide (Prod.fst z14 < (0 : Int)) = true then some false else Option.bind (f_laws_eqIntSS k (Prod.fst z7) (Prod.fst z4)) fun z15 => if (!z15) = true then some false else if (!Prod.snd z7 == Prod.snd z4) = true then some false else Option.bind (f_laws_markIntSS k (Prod.fst z7) (1 : Int)) fun z16 => Option.bind (f_laws_heldIntSS k (Prod.snd z16) (1 : Int)) fun z17 => if decide (z17 < (0 : Int)) = true then some false else if decide (z17 ≠ Prod.fst z16) = true then some false else Option.bind (f_laws_toBoard k (Prod.fst p0, Prod.fst (Prod.snd p0), Prod.snd (Prod.snd p0))) fun z18 => Option.bind (f_laws_toIntSS k p1) fun z19 => Option.bind (f_impl_FaultClasses k (Prod.fst z18, Prod.fst (Prod.snd z18), Prod.snd (Prod.snd z18)) z19) fun z20 => Option.bind (f_laws_eqIntSS k (Prod.fst z20) (Prod.fst z4)) fun z21 => if (!z21) = true then some false else if (!Prod.snd z20 == Prod.snd z4) = true then some false else Option.bind (f_laws_heldIntSS k (Prod.snd z16) (1 : Int)) fun z22 => if decide (z22 < (0 : Int)) = true then some false else if decide (z22 ≠ Prod.fst z16) = true then some false else some true
noncomputable def d_laws_FnExactFaultClasses : FnDef := .of q_laws_FnExactFaultClasses r_laws_FnExactFaultClasses (Bool) (fun k x => f_laws_FnExactFaultClasses k x.1 x.2.1) to_laws_FnExactFaultClasses of_laws_FnExactFaultClasses to_of_laws_FnExactFaultClasses
noncomputable def c_laws_FnExactFaultClasses : Code := Try.f10.body.getD .skip
noncomputable def x_laws_FnExactFaultClasses : Ctx (Tup r_laws_FnExactFaultClasses × OutD) := { T := T, G := [(13, d_laws_szBoard.E), (42, d_laws_szIntSS.E), (15, d_laws_toBoard.E), (45, d_laws_toIntSS.E), (52, d_spec_FaultClasses.E), (53, d_impl_FaultClasses.E), (33, d_laws_eqIntSS.E), (19, d_laws_eqBoard.E), (21, d_laws_markBoard.E), (34, d_laws_markIntSS.E), (35, d_laws_heldIntSS.E)], mvs := [], no := 0, n := 119, res := resOf T q_laws_FnExactFaultClasses r_laws_FnExactFaultClasses Try.f10.results.toList, loops := [], regs := [], conds := [] }
theorem g_laws_FnExactFaultClasses (k : Nat) : EnvOK Try.prog k x_laws_FnExactFaultClasses.G := (EnvOK.cons (s_laws_szBoard k) (EnvOK.cons (s_laws_szIntSS k) (EnvOK.cons (s_laws_toBoard k) (EnvOK.cons (s_laws_toIntSS k) (EnvOK.cons (s_spec_FaultClasses k) (EnvOK.cons (s_impl_FaultClasses k) (EnvOK.cons (s_laws_eqIntSS k) (EnvOK.cons (s_laws_eqBoard k) (EnvOK.cons (s_laws_markBoard k) (EnvOK.cons (s_laws_markIntSS k) (EnvOK.cons (s_laws_heldIntSS k) (EnvOK.nil mixed))))))))))))
theorem h_laws_FnExactFaultClasses (k : Nat) (x : Tup d_laws_FnExactFaultClasses.ps) : d_laws_FnExactFaultClasses.f (k + 1) x = fnK d_laws_FnExactFaultClasses x_laws_FnExactFaultClasses c_laws_FnExactFaultClasses k x := by kernel_rfl
theorem z_laws_FnExactFaultClasses (x : Tup d_laws_FnExactFaultClasses.ps) : d_laws_FnExactFaultClasses.f 0 x = none := by kernel_rfl
theorem l_laws_FnExactFaultClasses (k : Nat) : LOK Try.prog x_laws_FnExactFaultClasses k c_laws_FnExactFaultClasses := LOK.by [] (by kernel_rfl) AllOK.nil
theorem s_laws_FnExactFaultClasses (k : Nat) : SoundAt Try.prog k 10 d_laws_FnExactFaultClasses.E := @fn_all Try.prog d_laws_FnExactFaultClasses x_laws_FnExactFaultClasses 10 Try.f10 c_laws_FnExactFaultClasses (by kernel_rfl) (by kernel_rfl) (by kernel_rfl) Try.func10 (by kernel_rfl) (by kernel_rfl) (by kernel_rfl) T_ok g_laws_FnExactFaultClasses l_laws_FnExactFaultClasses z_laws_FnExactFaultClasses h_laws_FnExactFaultClasses k
end
end Go.Proofs.Ytgpmbmnfcbippaa.Vs

set_option linter.unusedVariables false
set_option linter.unusedSimpArgs false
namespace Go.Proofs.Ytgpmbmnfcbippaa.Vs
open Go.RowKit
theorem e_spec_l1In (a b c : Int) : Ev (fun k => f_spec_l1In k a b c) (decide (b ≤ a ∧ a ≤ c)) := by
  refine Ev.succ ?_
  simp only [f_spec_l1In]
  refine Ev.of ?_
  by_cases h1 : b ≤ a <;> by_cases h2 : a ≤ c <;> simp [h1, h2]
theorem e_spec_l1All_0 (lo hi : Int) : ∀ (r pre : List Int), (pre ++ r).length ≤ 9223372036854775806 → Ev (fun k => f_spec_l1All_0 k lo hi (pre ++ r) ((pre ++ r).length : Int) (pre.length : Int)) (if r.all (fun n => decide (lo ≤ n ∧ n ≤ hi)) then LR.go () else LR.ret false)
  | [], pre, hl => by
    refine Ev.succ ?_
    simp only [f_spec_l1All_0, nlt_end, decide_false, Bool.false_eq_true, if_false, List.all_nil, if_true]
    exact Ev.some _
  | x :: r, pre, hl => by
    have ih := e_spec_l1All_0 lo hi r (pre ++ [x]) (by simpa using hl)
    refine Ev.succ ?_
    simp only [f_spec_l1All_0, lt_mid, ge_mid, decide_true, if_true, Int.toNat_natCast, getD_mid]
    rw [next_mid pre x r (by omega)]
    rw [← shift_mid] at ih
    refine Ev.bind (e_spec_l1In x lo hi) ?_
    by_cases hx : lo ≤ x ∧ x ≤ hi
    · simp only [hx, and_self, List.all_cons, decide_true, Bool.true_and, Bool.not_true, Bool.false_eq_true, if_false]; exact ih
    · simp only [hx, List.all_cons, decide_false, Bool.false_and, Bool.not_false, if_true, Bool.false_eq_true, if_false]; exact Ev.some _
theorem e_spec_l1All (l : List Int) (lo hi : Int) (hl : l.length ≤ 9223372036854775806) : Ev (fun k => f_spec_l1All k l lo hi) (l.all fun n => decide (lo ≤ n ∧ n ≤ hi)) := by
  refine Ev.succ ?_
  simp only [f_spec_l1All]
  refine Ev.bind (e_spec_l1All_0 lo hi l [] (by simpa using hl)) ?_
  cases hx : l.all fun n => decide (lo ≤ n ∧ n ≤ hi) with
  | true => simp only [if_true]; exact Ev.go (Ev.some _)
  | false => simp only [Bool.false_eq_true, if_false]; exact Ev.ret (Ev.some _)
end Go.Proofs.Ytgpmbmnfcbippaa.Vs

set_option linter.unusedVariables false
set_option linter.unusedSimpArgs false
namespace Go.Proofs.Ytgpmbmnfcbippaa.Vs
open Go.RowKit
theorem e_laws_toCell (x : Int × Int) : Ev (fun k => f_laws_toCell k x) x := Ev.succ (Ev.of rfl)
theorem e_laws_eqCell (x y : Int × Int) : Ev (fun k => f_laws_eqCell k x y) (decide (x = y)) := by
  obtain ⟨a0, a1⟩ := x
  obtain ⟨b0, b1⟩ := y
  refine Ev.succ ?_
  simp only [f_laws_eqCell]
  refine Ev.of ?_
  by_cases h0 : a0 = b0 <;> by_cases h1 : a1 = b1 <;> simp [h0, h1]
theorem e_laws_szCellS (l : List (Int × Int)) (n : Int) (h0 : 0 ≤ n) (h1 : n ≤ 1048576) (hl : l.length ≤ 9223372036854775807) : Ev (fun k => f_laws_szCellS k l n) (if n - l.length < 0 then -1 else n - l.length) := by
  refine Ev.succ ?_
  simp only [f_laws_szCellS]
  refine Ev.of ?_
  rw [w64 (by omega) (by omega)]
  by_cases h : n - (l.length : Int) < 0 <;> simp [h]
theorem e_laws_toCellS_0 : ∀ (r pre rest : List (Int × Int)), rest.length = r.length → (pre ++ r).length ≤ 1048576 → Ev (fun k => f_laws_toCellS_0 k (pre ++ rest) (pre ++ r) (pre.length : Int)) (pre ++ r)
  | [], pre, rest, h, hl => by
    obtain rfl : rest = [] := List.eq_nil_of_length_eq_zero h
    refine Ev.succ ?_
    simp only [f_laws_toCellS_0, nlt_end, decide_false, Bool.false_eq_true, if_false]
    exact Ev.some _
  | x :: r, pre, [], h, hl => by simp at h
  | x :: r, pre, y :: rest, h, hl => by
    have ih := e_laws_toCellS_0 r (pre ++ [x]) rest (by simpa using h) (by simpa using hl)
    refine Ev.succ ?_
    simp only [f_laws_toCellS_0, lt_mid, ge_mid, decide_true, if_true, Int.toNat_natCast, getD_mid, set_mid]
    rw [next_mid pre x r (by omega)]
    refine Ev.bind (e_laws_toCell x) ?_
    rw [← shift_mid, ← shift_mid] at ih
    exact ih
theorem e_laws_toCellS (l : List (Int × Int)) (hl : l.length ≤ 1048576) : Ev (fun k => f_laws_toCellS k l) l := by
  refine Ev.succ ?_
  have hm : l.length * 16 ≤ 281474976710656 := by omega
  simp only [f_laws_toCellS, Int.toNat_natCast, hm, if_true]
  exact Ev.bind (e_laws_toCellS_0 l [] (List.replicate l.length (0, 0)) (by simp) (by simpa using hl)) (Ev.some _)
theorem e_laws_eqCellS_0 : ∀ (r s pre : List (Int × Int)) (pre' : List (Int × Int)), s.length = r.length → pre'.length = pre.length → (pre ++ r).length ≤ 9223372036854775806 → Ev (fun k => f_laws_eqCellS_0 k (pre ++ r) (pre' ++ s) (pre.length : Int)) (if r = s then LR.go () else LR.ret false)
  | [], s, pre, pre', h, hp, hl => by
    obtain rfl : s = [] := List.eq_nil_of_length_eq_zero h
    refine Ev.succ ?_
    simp only [f_laws_eqCellS_0, nlt_end, decide_false, Bool.false_eq_true, if_false, if_true]
    exact Ev.some _
  | x :: r, [], pre, pre', h, hp, hl => by simp at h
  | x :: r, y :: s, pre, pre', h, hp, hl => by
    have ih := e_laws_eqCellS_0 r s (pre ++ [x]) (pre' ++ [y]) (by simpa using h) (by simpa using hp) (by simpa using hl)
    have l2 : (pre.length : Int) < ((pre' ++ y :: s).length : Int) := by rw [← hp]; exact lt_mid _ _ _
    have g2 : List.getD (pre' ++ y :: s) pre.length (0, 0) = y := by rw [← hp]; exact getD_mid _ _ _ _
    refine Ev.succ ?_
    simp only [f_laws_eqCellS_0, lt_mid, ge_mid, l2, decide_true, if_true, Int.toNat_natCast, getD_mid, g2]
    rw [next_mid pre x r (by omega)]
    rw [← shift_mid, ← shift_mid] at ih
    refine Ev.bind (e_laws_eqCell x y) ?_
    by_cases hxy : x = y
    · subst hxy
      simp only [decide_true, Bool.not_true, Bool.false_eq_true, if_false]
      refine ih.congr ?_
      by_cases hrs : r = s <;> simp [hrs]
    · simp only [hxy, decide_false, Bool.not_false, if_true]
      refine Ev.of ?_
      rw [if_neg (by intro hc; injection hc with h1 h2; exact hxy h1)]
theorem e_laws_eqCellS (l m : List (Int × Int)) (hl : l.length ≤ 9223372036854775806) : Ev (fun k => f_laws_eqCellS k l m) (decide (l = m)) := by
  refine Ev.succ ?_
  simp only [f_laws_eqCellS]
  by_cases h : l.length = m.length
  · simp only [h, ne_eq, not_true_eq_false, decide_false, Bool.false_eq_true, if_false]
    refine Ev.bind (e_laws_eqCellS_0 l m [] [] h.symm rfl (by simpa using hl)) ?_
    by_cases hlm : l = m
    · rw [if_pos hlm]; simp only [hlm, decide_true]; exact Ev.go (Ev.some _)
    · rw [if_neg hlm]; simp only [hlm, decide_false]; exact Ev.ret (Ev.some _)
  · have h2 : ¬ (l.length : Int) = (m.length : Int) := by omega
    have h3 : ¬ l = m := fun hc => h (by rw [hc])
    simp only [ne_eq, h2, not_false_eq_true, decide_true, if_true, h3, decide_false]
    exact Ev.some _
abbrev CellD := Int × Int
abbrev BoardD := Int × Int × List (Int × Int)
abbrev FaultD := Int × Int × Int
def turning (x : CellD) : Bool := decide (x.1 = 3 ∨ x.1 = 6)
def cellOK (x : CellD) : Bool := decide (0 ≤ x.1 ∧ x.1 ≤ 7 ∧ (x.2 = 0 ∨ (x.2 = 1 ∧ (x.1 = 3 ∨ x.1 = 6))))
def boardOK (b : BoardD) : Bool := decide (1 ≤ b.1 ∧ b.1 ≤ 10 ∧ 1 ≤ b.2.1 ∧ b.2.1 ≤ 9 ∧ (b.2.2.length : Int) = b.1 * b.2.1) && b.2.2.all cellOK
theorem e_spec_paTurning (x : CellD) : Ev (fun k => f_spec_paTurning k x) (turning x) := by
  refine Ev.succ ?_
  simp only [f_spec_paTurning]
  refine Ev.of ?_
  by_cases h1 : x.1 = 3 <;> simp [turning, h1]
theorem e_impl_IsCell (x : CellD) : Ev (fun k => f_impl_IsCell k x) (cellOK x) := by
  refine Ev.succ ?_
  simp only [f_impl_IsCell, decide_eq_true_eq]
  refine Ev.of ?_
  unfold cellOK
  repeat' split
  all_goals (congr 1; first | (symm; rw [decide_eq_true_eq]; omega) | (symm; rw [decide_eq_false_iff_not]; omega) | (apply decide_eq_decide.2; omega))
theorem e_spec_paGood (x : CellD) : Ev (fun k => f_spec_paGood k x) (cellOK x) := by
  refine Ev.succ ?_
  simp only [f_spec_paGood]
  refine Ev.bind (e_spec_l1In _ _ _) ?_
  refine Ev.ite (fun h => ?_) (fun h => ?_)
  · simp only [decide_eq_true_eq] at h
    refine Ev.ite (fun h2 => ?_) (fun h2 => ?_)
    · simp only [decide_eq_true_eq] at h2
      refine Ev.of ?_
      congr 1; simp [cellOK]; omega
    · simp only [decide_eq_true_eq] at h2
      refine Ev.ite (fun h3 => ?_) (fun h3 => ?_)
      · simp only [decide_eq_true_eq] at h3
        refine Ev.bind (e_spec_paTurning x) (Ev.of ?_)
        congr 1; unfold turning cellOK; by_cases h4 : x.1 = 3 ∨ x.1 = 6 <;> simp [h4] <;> omega
      · simp only [decide_eq_true_eq] at h3
        refine Ev.of ?_
        congr 1; simp [cellOK]; omega
  · simp only [decide_eq_true_eq] at h
    refine Ev.of ?_
    congr 1; simp [cellOK]; omega
theorem e_impl_IsTurning (x : CellD) : Ev (fun k => f_impl_IsTurning k x) (cellOK x && turning x) := by
  refine Ev.succ ?_
  simp only [f_impl_IsTurning]
  refine Ev.bind (e_impl_IsCell x) ?_
  refine Ev.ite (fun h => ?_) (fun h => ?_)
  · rw [h, Bool.true_and]
    refine Ev.of ?_
    by_cases h1 : x.1 = 3 <;> simp [turning, h1]
  · refine Ev.of ?_
    simp only [Bool.not_eq_true] at h
    rw [h]; rfl

/-! ### Boards -/
theorem e_impl_validCells_0 : ∀ (r pre : List CellD), (pre ++ r).length ≤ 9223372036854775806 → Ev (fun k => f_impl_validCells_0 k (pre ++ r) ((pre ++ r).length : Int) (pre.length : Int)) (if r.all cellOK then LR.go () else LR.ret false)
  | [], pre, hl => by
    refine Ev.succ ?_
    simp only [f_impl_validCells_0, nlt_end, decide_false, Bool.false_eq_true, if_false, List.all_nil, if_true]
    exact Ev.some _
  | x :: r, pre, hl => by
    have ih := e_impl_validCells_0 r (pre ++ [x]) (by simpa using hl)
    refine Ev.succ ?_
    simp only [f_impl_validCells_0, lt_mid, ge_mid, decide_true, if_true, Int.toNat_natCast, getD_mid]
    rw [next_mid pre x r (by omega)]
    rw [← shift_mid] at ih
    refine Ev.bind (e_impl_IsCell x) ?_
    cases hx : cellOK x with
    | true => simp only [hx, List.all_cons, Bool.true_and, Bool.not_true, Bool.false_eq_true, if_false]; exact ih
    | false => simp only [hx, List.all_cons, Bool.false_and, Bool.not_false, if_true, Bool.false_eq_true, if_false]; exact Ev.some _
theorem e_impl_validCells (l : List CellD) (hl : l.length ≤ 9223372036854775806) : Ev (fun k => f_impl_validCells k l) (decide (l.length ≤ 90) && l.all cellOK) := by
  refine Ev.succ ?_
  simp only [f_impl_validCells]
  refine Ev.ite (fun h => ?_) (fun h => ?_)
  · simp only [decide_eq_true_eq] at h
    refine Ev.of ?_
    have : ¬ l.length ≤ 90 := by omega
    simp [this]
  · simp only [decide_eq_true_eq] at h
    have h2 : l.length ≤ 90 := by omega
    refine Ev.bind (e_impl_validCells_0 l [] (by simpa using hl)) ?_
    simp only [h2, decide_true, Bool.true_and]
    cases hx : l.all cellOK with
    | true => simp only [if_true]; exact Ev.go (Ev.some _)
    | false => simp only [Bool.false_eq_true, if_false]; exact Ev.ret (Ev.some _)
theorem prod_small {a b : Int} (h1 : 1 ≤ a) (h2 : a ≤ 10) (h3 : 1 ≤ b) (h4 : b ≤ 9) : 1 ≤ a * b ∧ a * b ≤ 90 :=
  ⟨by have := Int.mul_le_mul h1 h3 (by omega) (by omega); omega, by have := Int.mul_le_mul h2 h4 (by omega) (by omega); omega⟩
theorem e_impl_IsBoard (b : BoardD) (hl : b.2.2.length ≤ 9223372036854775806) : Ev (fun k => f_impl_IsBoard k b) (boardOK b) := by
  refine Ev.succ ?_
  simp only [f_impl_IsBoard, ge_iff_le]
  have no : ∀ {c : Prop}, ¬ c → (boardOK b = true → c) → Option.some false = Option.some (boardOK b) := by
    intro c h1 h2
    cases hb : boardOK b with
    | true => exact absurd (h2 hb) h1
    | false => rfl
  have hb : boardOK b = true → 1 ≤ b.1 ∧ b.1 ≤ 10 ∧ 1 ≤ b.2.1 ∧ b.2.1 ≤ 9 ∧ (b.2.2.length : Int) = b.1 * b.2.1 := fun h => by
    unfold boardOK at h; simp only [Bool.and_eq_true, decide_eq_true_eq] at h; exact h.1
  refine Ev.ite (fun h1 => ?_) (fun h => Ev.of (no h (fun hh => by simpa using (hb hh).1)))
  refine Ev.ite (fun h2 => ?_) (fun h => Ev.of (no h (fun hh => by simpa using (hb hh).2.1)))
  refine Ev.ite (fun h3 => ?_) (fun h => Ev.of (no h (fun hh => by simpa using (hb hh).2.2.1)))
  refine Ev.ite (fun h4 => ?_) (fun h => Ev.of (no h (fun hh => by simpa using (hb hh).2.2.2.1)))
  simp only [decide_eq_true_eq] at h1 h2 h3 h4
  have hp := prod_small h1 h2 h3 h4
  rw [w64 (by omega) (by omega)]
  refine Ev.ite (fun h5 => ?_) (fun h => Ev.of (no h (fun hh => by simpa using (hb hh).2.2.2.2)))
  simp only [decide_eq_true_eq] at h5
  refine Ev.bind (e_impl_validCells _ hl) (Ev.of ?_)
  have h6 : b.2.2.length ≤ 90 := by omega
  congr 1
  simp only [boardOK, h1, h2, h3, h4, ← h5, h6, and_self, decide_true, Bool.true_and]
theorem e_spec_boGood_0 : ∀ (r pre : List CellD), (pre ++ r).length ≤ 9223372036854775806 → Ev (fun k => f_spec_boGood_0 k (pre ++ r) ((pre ++ r).length : Int) (pre.length : Int)) (if r.all cellOK then LR.go () else LR.ret false)
  | [], pre, hl => by
    refine Ev.succ ?_
    simp only [f_spec_boGood_0, nlt_end, decide_false, Bool.false_eq_true, if_false, List.all_nil, if_true]
    exact Ev.some _
  | x :: r, pre, hl => by
    have ih := e_spec_boGood_0 r (pre ++ [x]) (by simpa using hl)
    refine Ev.succ ?_
    simp only [f_spec_boGood_0, lt_mid, ge_mid, decide_true, if_true, Int.toNat_natCast, getD_mid]
    rw [next_mid pre x r (by omega)]
    rw [← shift_mid] at ih
    refine Ev.bind (e_spec_paGood x) ?_
    cases hx : cellOK x with
    | true => simp only [hx, List.all_cons, Bool.true_and, Bool.not_true, Bool.false_eq_true, if_false]; exact ih
    | false => simp only [hx, List.all_cons, Bool.false_and, Bool.not_false, if_true, Bool.false_eq_true, if_false]; exact Ev.some _
theorem e_spec_boGood (b : BoardD) (hl : b.2.2.length ≤ 9223372036854775806) : Ev (fun k => f_spec_boGood k b) (boardOK b) := by
  refine Ev.succ ?_
  simp only [f_spec_boGood]
  have no : ∀ {c : Prop}, ¬ c → (boardOK b = true → c) → Option.some false = Option.some (boardOK b) := by
    intro c h1 h2
    cases hb : boardOK b with
    | true => exact absurd (h2 hb) h1
    | false => rfl
  have hb : boardOK b = true → 1 ≤ b.1 ∧ b.1 ≤ 10 ∧ 1 ≤ b.2.1 ∧ b.2.1 ≤ 9 ∧ (b.2.2.length : Int) = b.1 * b.2.1 := fun h => by
    unfold boardOK at h; simp only [Bool.and_eq_true, decide_eq_true_eq] at h; exact h.1
  refine Ev.bind (e_spec_l1In _ _ _) (Ev.ite (fun h => Ev.of (no (c := 1 ≤ b.1 ∧ b.1 ≤ 10) (nd h) (fun hh => ⟨(hb hh).1, (hb hh).2.1⟩))) (fun h1 => ?_))
  refine Ev.bind (e_spec_l1In _ _ _) (Ev.ite (fun h => Ev.of (no (c := 1 ≤ b.2.1 ∧ b.2.1 ≤ 9) (nd h) (fun hh => ⟨(hb hh).2.2.1, (hb hh).2.2.2.1⟩))) (fun h2 => ?_))
  have h1' : 1 ≤ b.1 ∧ b.1 ≤ 10 := yd h1
  have h2' : 1 ≤ b.2.1 ∧ b.2.1 ≤ 9 := yd h2
  have hp := prod_small h1'.1 h1'.2 h2'.1 h2'.2
  rw [w64 (by omega) (by omega)]
  refine Ev.ite (fun h => Ev.of (no (c := (b.2.2.length : Int) = b.1 * b.2.1) (by simpa using h) (fun hh => (hb hh).2.2.2.2))) (fun h3 => ?_)
  have h3' : (b.2.2.length : Int) = b.1 * b.2.1 := by simpa using h3
  refine Ev.bind (e_spec_boGood_0 b.2.2 [] (by simpa using hl)) ?_
  have hx2 : boardOK b = b.2.2.all cellOK := by unfold boardOK; simp only [h1'.1, h1'.2, h2'.1, h2'.2, h3', and_self, decide_true, Bool.true_and]
  rw [hx2]
  cases hx : b.2.2.all cellOK with
  | true => simp only [if_true]; exact Ev.go (Ev.some _)
  | false => simp only [Bool.false_eq_true, if_false]; exact Ev.ret (Ev.some _)
/-- What a valid board is. -/
theorem board_ok {b : BoardD} (h : boardOK b = true) : 1 ≤ b.1 ∧ b.1 ≤ 10 ∧ 1 ≤ b.2.1 ∧ b.2.1 ≤ 9 ∧ (b.2.2.length : Int) = b.1 * b.2.1 ∧ ∀ x ∈ b.2.2, cellOK x = true := by
  unfold boardOK at h
  simp only [Bool.and_eq_true, decide_eq_true_eq] at h
  exact ⟨h.1.1, h.1.2.1, h.1.2.2.1, h.1.2.2.2.1, h.1.2.2.2.2, List.all_eq_true.1 h.2⟩
/-- A place on a valid board. -/
theorem place_ok {b : BoardD} (h : boardOK b = true) {r c : Int} (h1 : 0 ≤ r) (h2 : r < b.1) (h3 : 0 ≤ c) (h4 : c < b.2.1) : 0 ≤ r * b.2.1 + c ∧ r * b.2.1 + c < (b.2.2.length : Int) ∧ r * b.2.1 + c ≤ 90 ∧ 0 ≤ r * b.2.1 ∧ r * b.2.1 ≤ 90 := by
  obtain ⟨g1, g2, g3, g4, g5, _⟩ := board_ok h
  have hp := prod_small g1 g2 g3 g4
  have k1 : 0 ≤ r * b.2.1 := Int.mul_nonneg h1 (by omega)
  have k2 : (r + 1) * b.2.1 ≤ b.1 * b.2.1 := Int.mul_le_mul_of_nonneg_right (by omega) (by omega)
  rw [Int.add_mul, Int.one_mul] at k2
  omega
theorem cell_in {l : List CellD} {i : Int} (h0 : 0 ≤ i) (h1 : i < (l.length : Int)) (d : CellD) : List.getD l i.toNat d ∈ l := by
  have : i.toNat < l.length := by omega
  simp [List.getD, List.getElem?_eq_getElem this]

theorem e_laws_szBoard (b : BoardD) (n : Int) (h0 : 0 ≤ n) (h1 : n ≤ 1048576) (hl : b.2.2.length ≤ 9223372036854775807) : Ev (fun k => f_laws_szBoard k b n) (if n - b.2.2.length < 0 then -1 else n - b.2.2.length) := by
  refine Ev.succ ?_
  simp only [f_laws_szBoard]
  refine Ev.bind (e_laws_szCellS _ n h0 h1 hl) ?_
  by_cases h : n - (b.2.2.length : Int) < 0 <;> simp only [h, if_true, if_false]
  · exact Ev.some _
  · simp only [h, decide_false, Bool.false_eq_true, if_false]; exact Ev.some _
theorem e_laws_toBoard (b : BoardD) (hl : b.2.2.length ≤ 1048576) : Ev (fun k => f_laws_toBoard k b) b := by
  refine Ev.succ ?_
  simp only [f_laws_toBoard]
  exact Ev.bind (e_laws_toCellS _ hl) (Ev.some _)
theorem e_laws_eqBoard (b c : BoardD) (hl : b.2.2.length ≤ 9223372036854775806) : Ev (fun k => f_laws_eqBoard k b c) (decide (b = c)) := by
  obtain ⟨b1, b2, b3⟩ := b
  obtain ⟨c1, c2, c3⟩ := c
  refine Ev.succ ?_
  simp only [f_laws_eqBoard]
  by_cases h1 : b1 = c1
  · by_cases h2 : b2 = c2
    · simp only [h1, h2, ne_eq, not_true_eq_false, decide_false, Bool.false_eq_true, if_false]
      refine Ev.bind (e_laws_eqCellS b3 c3 hl) ?_
      by_cases h3 : b3 = c3
      · simp only [h3, decide_true, Bool.not_true, Bool.false_eq_true, if_false]; exact Ev.some _
      · simp only [h3, decide_false, Bool.not_false, if_true, Prod.mk.injEq, and_false]; exact Ev.some _
    · simp only [h1, h2, ne_eq, not_true_eq_false, decide_false, Bool.false_eq_true, if_false, not_false_eq_true, decide_true, if_true, Prod.mk.injEq, false_and, and_false]; exact Ev.some _
  · simp only [h1, ne_eq, not_false_eq_true, decide_true, if_true, Prod.mk.injEq, false_and, decide_false]; exact Ev.some _
end Go.Proofs.Ytgpmbmnfcbippaa.Vs

set_option linter.unusedVariables false
set_option linter.unusedSimpArgs false
namespace Go.Proofs.Ytgpmbmnfcbippaa.Vs
open Go.RowKit
def geared (x : CellD) : Bool := decide (x.1 = 6 ∨ x.1 = 7)
theorem e_impl_isGeared (x : CellD) : Ev (fun k => f_impl_isGeared k x) (geared x) := by
  refine Ev.succ ?_
  simp only [f_impl_isGeared]
  refine Ev.of ?_
  by_cases h1 : x.1 = 6 <;> simp [geared, h1]
theorem e_spec_ggGear (x : CellD) : Ev (fun k => f_spec_ggGear k x) (geared x) := by
  refine Ev.succ ?_
  simp only [f_spec_ggGear]
  refine Ev.of ?_
  by_cases h1 : x.1 = 6 <;> simp [geared, h1]
/-- The places beside a place. -/
def nears (b : BoardD) (i : Int) : List Int := (if 0 < Int.tdiv i b.2.1 then [i - b.2.1] else []) ++ (if 0 < Int.tmod i b.2.1 then [i - 1] else []) ++ (if Int.tmod i b.2.1 + 1 < b.2.1 then [i + 1] else []) ++ (if Int.tdiv i b.2.1 + 1 < b.1 then [i + b.2.1] else [])
theorem place_parts {b : BoardD} (hb : boardOK b = true) {i : Int} (h0 : 0 ≤ i) (h1 : i < (b.2.2.length : Int)) : ∃ q m t : Int, Int.tdiv i b.2.1 = q ∧ Int.tmod i b.2.1 = m ∧ i = t + m ∧ 0 ≤ m ∧ m < b.2.1 ∧ 0 ≤ q ∧ q < b.1 ∧ 0 ≤ t ∧ t + b.2.1 ≤ (b.2.2.length : Int) ∧ (1 ≤ q → b.2.1 ≤ t) ∧ (q + 1 < b.1 → t + b.2.1 + b.2.1 ≤ (b.2.2.length : Int)) := by
  obtain ⟨g1, g2, g3, g4, g5, g6⟩ := board_ok hb
  have hq : Int.tdiv i b.2.1 = i / b.2.1 := Int.tdiv_eq_ediv_of_nonneg h0
  have hm : Int.tmod i b.2.1 = i % b.2.1 := Int.tmod_eq_emod_of_nonneg h0
  have e1 := Int.mul_ediv_add_emod i b.2.1
  have e2 := Int.emod_nonneg i (show b.2.1 ≠ 0 by omega)
  have e3 := Int.emod_lt_of_pos i (show 0 < b.2.1 by omega)
  have e4 : 0 ≤ i / b.2.1 := Int.ediv_nonneg h0 (by omega)
  have e5 : i / b.2.1 < b.1 := Int.ediv_lt_of_lt_mul (by omega) (by rw [← g5]; exact h1)
  have e6 : 0 ≤ b.2.1 * (i / b.2.1) := Int.mul_nonneg (by omega) e4
  have e7 : b.2.1 * (i / b.2.1 + 1) ≤ b.2.1 * b.1 := Int.mul_le_mul_of_nonneg_left (by omega) (by omega)
  rw [Int.mul_add, Int.mul_one, Int.mul_comm b.2.1 b.1, ← g5] at e7
  refine ⟨_, _, b.2.1 * (i / b.2.1), hq, hm, by omega, e2, e3, e4, e5, e6, e7, fun h => ?_, fun h => ?_⟩
  · have := Int.mul_le_mul_of_nonneg_left h (show 0 ≤ b.2.1 by omega)
    omega
  · have e8 : b.2.1 * (i / b.2.1 + 2) ≤ b.2.1 * b.1 := Int.mul_le_mul_of_nonneg_left (by omega) (by omega)
    rw [Int.mul_add, Int.mul_comm b.2.1 b.1, ← g5] at e8
    omega
theorem nears_in {b : BoardD} (hb : boardOK b = true) {i : Int} (h0 : 0 ≤ i) (h1 : i < (b.2.2.length : Int)) : ∀ n ∈ nears b i, 0 ≤ n ∧ n < (b.2.2.length : Int) := by
  obtain ⟨q, m, t, hq, hm, k1, k2, k3, k4, k5, k6, k7, k8, k9⟩ := place_parts hb h0 h1
  intro n hn
  unfold nears at hn
  rw [hq, hm] at hn
  simp only [List.mem_append] at hn
  rcases hn with ((hn | hn) | hn) | hn
  · split at hn
    · have := List.mem_singleton.1 hn; have := k8 (by omega); omega
    · cases hn
  · split at hn
    · have := List.mem_singleton.1 hn; omega
    · cases hn
  · split at hn
    · have := List.mem_singleton.1 hn; omega
    · cases hn
  · split at hn
    · have := List.mem_singleton.1 hn; have := k9 (by omega); omega
    · cases hn
theorem nears_len (b : BoardD) (i : Int) : (nears b i).length ≤ 4 := by
  unfold nears
  simp only [List.length_append]
  have h1 : ∀ (c : Prop) [Decidable c] (x : Int), (if c then [x] else []).length ≤ 1 := by intro c _ x; split <;> simp
  have a1 := h1 (0 < Int.tdiv i b.2.1) (i - b.2.1)
  have a2 := h1 (0 < Int.tmod i b.2.1) (i - 1)
  have a3 := h1 (Int.tmod i b.2.1 + 1 < b.2.1) (i + 1)
  have a4 := h1 (Int.tdiv i b.2.1 + 1 < b.1) (i + b.2.1)
  omega
theorem e_impl_besideOf (b : BoardD) (hb : boardOK b = true) (i : Int) (h0 : 0 ≤ i) (h1 : i < (b.2.2.length : Int)) : Ev (fun k => f_impl_besideOf k b i) (nears b i) := by
  obtain ⟨g1, g2, g3, g4, g5, g6⟩ := board_ok hb
  have hp := prod_small g1 g2 g3 g4
  obtain ⟨q, m, t, hq, hm, k1, k2, k3, k4, k5, k6, k7, k8, k9⟩ := place_parts hb h0 h1
  have hC : ¬ b.2.1 = 0 := by omega
  refine Ev.succ ?_
  simp only [f_impl_besideOf, hC, if_false, nears, hq, hm, gt_iff_lt]
  rw [w64 (n := q) (by omega) (by omega), w64 (n := q + 1) (by omega) (by omega), w64 (n := m + 1) (by omega) (by omega), w64 (n := i - b.2.1) (by omega) (by omega), w64 (n := i - 1) (by omega) (by omega), w64 (n := i + 1) (by omega) (by omega), w64 (n := i + b.2.1) (by omega) (by omega)]
  refine Ev.of ?_
  by_cases h1 : 0 < q <;> by_cases h2 : 0 < m <;> by_cases h3 : m + 1 < b.2.1 <;> by_cases h4 : q + 1 < b.1 <;> simp [h1, h2, h3, h4]
theorem e_spec_ggNear (b : BoardD) (hb : boardOK b = true) (i : Int) (h0 : 0 ≤ i) (h1 : i < (b.2.2.length : Int)) : Ev (fun k => f_spec_ggNear k b i) (nears b i) := by
  obtain ⟨g1, g2, g3, g4, g5, g6⟩ := board_ok hb
  have hp := prod_small g1 g2 g3 g4
  obtain ⟨q, m, t, hq, hm, k1, k2, k3, k4, k5, k6, k7, k8, k9⟩ := place_parts hb h0 h1
  have hC : ¬ b.2.1 = 0 := by omega
  refine Ev.succ ?_
  simp only [f_spec_ggNear, hC, if_false, nears, hq, hm, gt_iff_lt]
  rw [w64 (n := q) (by omega) (by omega), w64 (n := q + 1) (by omega) (by omega), w64 (n := m + 1) (by omega) (by omega), w64 (n := i - b.2.1) (by omega) (by omega), w64 (n := i - 1) (by omega) (by omega), w64 (n := i + 1) (by omega) (by omega), w64 (n := i + b.2.1) (by omega) (by omega)]
  refine Ev.of ?_
  by_cases h1 : 0 < q <;> by_cases h2 : 0 < m <;> by_cases h3 : m + 1 < b.2.1 <;> by_cases h4 : q + 1 < b.1 <;> simp [h1, h2, h3, h4]
/-! ### One wave -/
def visit (b : BoardD) (v : Int) (G : List Int × List Int) (n : Int) : List Int × List Int := if geared (List.getD b.2.2 n.toNat (0, 0)) && decide (List.getD G.1 n.toNat 0 < 0) then (List.set G.1 n.toNat v, G.2 ++ [n]) else G
/-- How many have no number yet. -/
def unl (l : List Int) : Nat := l.countP fun x => decide (x < 0)
theorem unl_set (v : Int) (hv : 0 ≤ v) : ∀ (l : List Int) (i : Nat), i < l.length → List.getD l i 0 < 0 → unl (l.set i v) + 1 = unl l
  | [], i, h, _ => by simp at h
  | x :: l, 0, _, h => by
    have h' : x < 0 := by simpa using h
    have : ¬ v < 0 := by omega
    simp [unl, h', this]
  | x :: l, i + 1, h, h2 => by
    have ih := unl_set v hv l i (by simpa using h) (by simpa using h2)
    simp only [unl, List.set_cons_succ, List.countP_cons] at ih ⊢
    omega
theorem unl_len (l : List Int) : unl l ≤ l.length := List.countP_le_length
theorem visit_len (b : BoardD) (v : Int) (G : List Int × List Int) (n : Int) : (visit b v G n).1.length = G.1.length := by
  unfold visit; split <;> simp
theorem visits_len (b : BoardD) (v : Int) : ∀ (r : List Int) (G : List Int × List Int), (r.foldl (visit b v) G).1.length = G.1.length
  | [], G => rfl
  | n :: r, G => by rw [List.foldl_cons, visits_len b v r, visit_len]
theorem visit_unl (b : BoardD) (v : Int) (hv : 0 ≤ v) (G : List Int × List Int) (n : Int) (h0 : 0 ≤ n) (h1 : n < (G.1.length : Int)) : unl (visit b v G n).1 + (visit b v G n).2.length = unl G.1 + G.2.length := by
  unfold visit
  split
  · rename_i hc
    simp only [Bool.and_eq_true, decide_eq_true_eq] at hc
    have := unl_set v hv G.1 n.toNat (by omega) hc.2
    simp only [List.length_append, List.length_singleton]
    omega
  · rfl
theorem visits_unl (b : BoardD) (v : Int) (hv : 0 ≤ v) : ∀ (r : List Int) (G : List Int × List Int), (∀ n ∈ r, 0 ≤ n ∧ n < (G.1.length : Int)) → unl (r.foldl (visit b v) G).1 + (r.foldl (visit b v) G).2.length = unl G.1 + G.2.length
  | [], G, _ => rfl
  | n :: r, G, h => by
    rw [List.foldl_cons, visits_unl b v hv r _ (fun m hm => by rw [visit_len]; exact h m (List.mem_cons_of_mem _ hm))]
    exact visit_unl b v hv G n (h n (List.mem_cons_self ..)).1 (h n (List.mem_cons_self ..)).2
theorem visits_app (b : BoardD) (v : Int) : ∀ (r : List Int) (o2 o3 a : List Int), (r.foldl (visit b v) (o2, o3 ++ a)) = ((r.foldl (visit b v) (o2, a)).1, o3 ++ (r.foldl (visit b v) (o2, a)).2)
  | [], o2, o3, a => rfl
  | n :: r, o2, o3, a => by
    simp only [List.foldl_cons]
    by_cases hc : (geared (List.getD b.2.2 n.toNat (0, 0)) && decide (List.getD o2 n.toNat 0 < 0)) = true
    · have e1 : visit b v (o2, o3 ++ a) n = (List.set o2 n.toNat v, o3 ++ (a ++ [n])) := by simp only [visit]; rw [if_pos hc, List.append_assoc]
      have e2 : visit b v (o2, a) n = (List.set o2 n.toNat v, a ++ [n]) := by simp only [visit]; rw [if_pos hc]
      rw [e1, e2]
      exact visits_app b v r _ o3 _
    · have e1 : visit b v (o2, o3 ++ a) n = (o2, o3 ++ a) := by simp only [visit]; rw [if_neg hc]
      have e2 : visit b v (o2, a) n = (o2, a) := by simp only [visit]; rw [if_neg hc]
      rw [e1, e2]
      exact visits_app b v r o2 o3 a
theorem visits_mem (b : BoardD) (v : Int) (P : Int → Prop) : ∀ (r : List Int) (G : List Int × List Int), (∀ n ∈ r, P n) → (∀ n ∈ G.2, P n) → ∀ n ∈ (r.foldl (visit b v) G).2, P n
  | [], G, _, h => h
  | m :: r, G, h, hg => by
    rw [List.foldl_cons]
    refine visits_mem b v P r _ (fun n hn => h n (List.mem_cons_of_mem _ hn)) (fun n hn => ?_)
    unfold visit at hn
    split at hn
    · rcases List.mem_append.1 hn with hn | hn
      · exact hg n hn
      · rw [List.mem_singleton.1 hn]; exact h m (List.mem_cons_self ..)
    · exact hg n hn
theorem e_impl_groupNumbers_6 (b : BoardD) (hb : boardOK b = true) (v : Int) (hv : 0 ≤ v) (v26 : List CellD) (v27 v28 : Int) : ∀ (r pre o2 o3 : List Int), (∀ n ∈ r, 0 ≤ n ∧ n < (b.2.2.length : Int)) → (pre ++ r).length ≤ 100 → o2.length = b.2.2.length → o3.length + unl o2 ≤ 1000 →
    Ev (fun k => f_impl_groupNumbers_6 k b.1 b.2.1 b.2.2 o2 o3 (pre ++ r) v  v26 v27 v28 ((pre ++ r).length : Int) (pre.length : Int)) (b.1, b.2.1, b.2.2, (r.foldl (visit b v) (o2, o3)).1, (r.foldl (visit b v) (o2, o3)).2, v, v26, v27, v28)
  | [], pre, o2, o3, hr, hl, h2, h3 => by
    refine Ev.succ ?_
    simp only [f_impl_groupNumbers_6, nlt_end, decide_false, Bool.false_eq_true, if_false]
    exact Ev.some _
  | x :: r, pre, o2, o3, hr, hl, h2, h3 => by
    obtain ⟨hx0, hx1⟩ := hr x (List.mem_cons_self ..)
    have hx2 : x < (o2.length : Int) := by omega
    have hr' : ∀ n ∈ r, 0 ≤ n ∧ n < (b.2.2.length : Int) := fun n hn => hr n (List.mem_cons_of_mem _ hn)
    have ih0 := e_impl_groupNumbers_6 b hb v hv  v26 v27 v28 r (pre ++ [x]) o2 o3 hr' (by simpa using hl) h2 h3
    rw [← shift_mid] at ih0
    have hn := next_mid pre x r (by omega)
    refine Ev.succ ?_
    simp only [f_impl_groupNumbers_6, lt_mid, ge_mid, decide_true, if_true, Int.toNat_natCast, getD_mid, hn, hx0, hx1, hx2]
    refine Ev.bind (e_impl_isGeared (List.getD b.2.2 x.toNat (0, 0))) ?_
    rw [List.foldl_cons]
    by_cases hg : geared (List.getD b.2.2 x.toNat (0, 0)) = true
    · simp only [hg, if_true]
      by_cases ho : List.getD o2 x.toNat 0 < 0
      · have e1 : visit b v (o2, o3) x = (List.set o2 x.toNat v, o3 ++ [x]) := by unfold visit; rw [if_pos (by simp only [hg, ho, decide_true, Bool.and_self])]
        have hu := unl_set v hv o2 x.toNat (by omega) ho
        have hle : o3.length + 1 ≤ 140737488355328 / 8 := by omega
        have ih := e_impl_groupNumbers_6 b hb v hv  v26 v27 v28 r (pre ++ [x]) (List.set o2 x.toNat v) (o3 ++ [x]) hr' (by simpa using hl) (by simpa using h2) (by simp; omega)
        rw [← shift_mid] at ih
        simp only [ho, decide_true, if_true, List.length_singleton, hle]
        rw [e1]
        exact ih
      · have e1 : visit b v (o2, o3) x = (o2, o3) := by unfold visit; rw [if_neg (by simp only [ho, decide_false, Bool.and_false, Bool.false_eq_true, not_false_eq_true])]
        simp only [ho, decide_false, Bool.false_eq_true, if_false]
        rw [e1]
        exact ih0
    · have e1 : visit b v (o2, o3) x = (o2, o3) := by unfold visit; rw [if_neg (by simp only [hg, Bool.false_and, Bool.false_eq_true, not_false_eq_true])]
      simp only [hg, Bool.false_eq_true, if_false]
      rw [e1]
      exact ih0
theorem e_spec_ggGroups_6 (b : BoardD) (hb : boardOK b = true) (v : Int) (hv : 0 ≤ v) (v9 : Int) (v26 : List CellD) (v27 v28 : Int) : ∀ (r pre o2 o3 : List Int), (∀ n ∈ r, 0 ≤ n ∧ n < (b.2.2.length : Int)) → (pre ++ r).length ≤ 100 → o2.length = b.2.2.length → o3.length + unl o2 ≤ 1000 →
    Ev (fun k => f_spec_ggGroups_6 k b.1 b.2.1 b.2.2 o2 o3 (pre ++ r) v v9 v26 v27 v28 ((pre ++ r).length : Int) (pre.length : Int)) (b.1, b.2.1, b.2.2, (r.foldl (visit b v) (o2, o3)).1, (r.foldl (visit b v) (o2, o3)).2, v, v9, v26, v27, v28)
  | [], pre, o2, o3, hr, hl, h2, h3 => by
    refine Ev.succ ?_
    simp only [f_spec_ggGroups_6, nlt_end, decide_false, Bool.false_eq_true, if_false]
    exact Ev.some _
  | x :: r, pre, o2, o3, hr, hl, h2, h3 => by
    obtain ⟨hx0, hx1⟩ := hr x (List.mem_cons_self ..)
    have hx2 : x < (o2.length : Int) := by omega
    have hr' : ∀ n ∈ r, 0 ≤ n ∧ n < (b.2.2.length : Int) := fun n hn => hr n (List.mem_cons_of_mem _ hn)
    have ih0 := e_spec_ggGroups_6 b hb v hv v9 v26 v27 v28 r (pre ++ [x]) o2 o3 hr' (by simpa using hl) h2 h3
    rw [← shift_mid] at ih0
    have hn := next_mid pre x r (by omega)
    refine Ev.succ ?_
    simp only [f_spec_ggGroups_6, lt_mid, ge_mid, decide_true, if_true, Int.toNat_natCast, getD_mid, hn, hx0, hx1, hx2]
    refine Ev.bind (e_spec_ggGear (List.getD b.2.2 x.toNat (0, 0))) ?_
    rw [List.foldl_cons]
    by_cases hg : geared (List.getD b.2.2 x.toNat (0, 0)) = true
    · simp only [hg, if_true]
      by_cases ho : List.getD o2 x.toNat 0 < 0
      · have e1 : visit b v (o2, o3) x = (List.set o2 x.toNat v, o3 ++ [x]) := by unfold visit; rw [if_pos (by simp only [hg, ho, decide_true, Bool.and_self])]
        have hu := unl_set v hv o2 x.toNat (by omega) ho
        have hle : o3.length + 1 ≤ 140737488355328 / 8 := by omega
        have ih := e_spec_ggGroups_6 b hb v hv v9 v26 v27 v28 r (pre ++ [x]) (List.set o2 x.toNat v) (o3 ++ [x]) hr' (by simpa using hl) (by simpa using h2) (by simp; omega)
        rw [← shift_mid] at ih
        simp only [ho, decide_true, if_true, List.length_singleton, hle]
        rw [e1]
        exact ih
      · have e1 : visit b v (o2, o3) x = (o2, o3) := by unfold visit; rw [if_neg (by simp only [ho, decide_false, Bool.and_false, Bool.false_eq_true, not_false_eq_true])]
        simp only [ho, decide_false, Bool.false_eq_true, if_false]
        rw [e1]
        exact ih0
    · have e1 : visit b v (o2, o3) x = (o2, o3) := by unfold visit; rw [if_neg (by simp only [hg, Bool.false_and, Bool.false_eq_true, not_false_eq_true])]
      simp only [hg, Bool.false_eq_true, if_false]
      rw [e1]
      exact ih0
/-- Waves, as long as there are places to look at. -/
def bfs (b : BoardD) (v : Int) : Nat → List Int → List Int → List Int
  | 0, o2, _ => o2
  | _ + 1, o2, [] => o2
  | n + 1, o2, x :: q => bfs b v n ((nears b x).foldl (visit b v) (o2, [])).1 (q ++ ((nears b x).foldl (visit b v) (o2, [])).2)
theorem bfs_len (b : BoardD) (v : Int) : ∀ (n : Nat) (o2 q : List Int), (bfs b v n o2 q).length = o2.length
  | 0, o2, _ => rfl
  | _ + 1, o2, [] => rfl
  | n + 1, o2, x :: q => by simp only [bfs]; rw [bfs_len b v n, visits_len]
theorem e_impl_groupNumbers_4 (b : BoardD) (hb : boardOK b = true) (v : Int) (hv : 0 ≤ v) (v26 : List CellD) (v27 v28 : Int) : ∀ (n : Nat) (o2 q : List Int), (∀ m ∈ q, 0 ≤ m ∧ m < (b.2.2.length : Int)) → o2.length = b.2.2.length → unl o2 + q.length + 1 ≤ n → q.length + unl o2 ≤ 1000 →
    Ev (fun k => f_impl_groupNumbers_4 k b.1 b.2.1 b.2.2 o2 q v v26 v27 v28) (b.1, b.2.1, b.2.2, bfs b v n o2 q, v, v26, v27, v28)
  | 0, o2, q, hq, h2, hn, hm => by omega
  | n + 1, o2, [], hq, h2, hn, hm => by
    refine Ev.succ ?_
    simp only [f_impl_groupNumbers_4, List.length_nil]
    have : ¬ ((0 : Nat) : Int) > 0 := by omega
    simp only [this, decide_false, Bool.false_eq_true, if_false]
    exact Ev.some _
  | n + 1, o2, x :: q, hq, h2, hn, hm => by
    obtain ⟨hx0, hx1⟩ := hq x (List.mem_cons_self ..)
    have hlen : (((x :: q).length : Nat) : Int) > 0 := by simp only [List.length_cons]; omega
    have hlen1 : (1 : Int) ≤ (((x :: q).length : Nat) : Int) := by omega
    have hlen0 : (0 : Int) < (((x :: q).length : Nat) : Int) := by omega
    have hin := nears_in hb hx0 hx1
    have hun := visits_unl b v hv (nears b x) (o2, []) (fun m hm => by rw [h2]; exact hin m hm)
    simp only [List.length_nil, Nat.add_zero] at hun
    simp only [List.length_cons] at hn hm
    refine Ev.succ ?_
    simp only [f_impl_groupNumbers_4, hlen, hlen1, hlen0, Int.le_refl, decide_true, if_true]
    refine Ev.bind (e_impl_besideOf b hb x hx0 hx1) ?_
    have h6 := e_impl_groupNumbers_6 b hb v hv v26 v27 v28 (nears b x) [] o2 q hin (by have := nears_len b x; simp; omega) h2 (by omega)
    refine Ev.bind h6 ?_
    have happ := visits_app b v (nears b x) o2 q []
    rw [List.append_nil] at happ
    rw [happ]
    show Ev (fun k => f_impl_groupNumbers_4 k b.1 b.2.1 b.2.2 (List.foldl (visit b v) (o2, []) (nears b x)).1 (q ++ (List.foldl (visit b v) (o2, []) (nears b x)).2) v v26 v27 v28) _
    exact e_impl_groupNumbers_4 b hb v hv v26 v27 v28 n _ _ (fun m hm => by
      rcases List.mem_append.1 hm with hm | hm
      · exact hq m (List.mem_cons_of_mem _ hm)
      · exact visits_mem b v (fun m => 0 ≤ m ∧ m < (b.2.2.length : Int)) (nears b x) (o2, []) hin (fun m hm => by cases hm) m hm) (by rw [visits_len]; exact h2) (by rw [List.length_append]; omega) (by rw [List.length_append]; omega)
theorem e_spec_ggGroups_4 (b : BoardD) (hb : boardOK b = true) (v : Int) (hv : 0 ≤ v) (v26 : List CellD) (v27 v28 : Int) : ∀ (n : Nat) (o2 q pre : List Int), (∀ m ∈ q, 0 ≤ m ∧ m < (b.2.2.length : Int)) → o2.length = b.2.2.length → unl o2 + q.length + 1 ≤ n → (pre ++ q).length + unl o2 ≤ 1000 →
    Ev (fun k => f_spec_ggGroups_4 k b.1 b.2.1 b.2.2 o2 (pre ++ q) v (pre.length : Int) v26 v27 v28) (b.1, b.2.1, b.2.2, bfs b v n o2 q, v, v26, v27, v28)
  | 0, o2, q, pre, hq, h2, hn, hm => by omega
  | n + 1, o2, [], pre, hq, h2, hn, hm => by
    refine Ev.succ ?_
    simp only [f_spec_ggGroups_4, nlt_end, decide_false, Bool.false_eq_true, if_false]
    exact Ev.some _
  | n + 1, o2, x :: q, pre, hq, h2, hn, hm => by
    obtain ⟨hx0, hx1⟩ := hq x (List.mem_cons_self ..)
    have hin := nears_in hb hx0 hx1
    have hun := visits_unl b v hv (nears b x) (o2, []) (fun m hm => by rw [h2]; exact hin m hm)
    simp only [List.length_nil, Nat.add_zero] at hun
    have hm' := hm
    simp only [List.length_cons, List.length_append] at hn hm'
    refine Ev.succ ?_
    simp only [f_spec_ggGroups_4, lt_mid, ge_mid, decide_true, if_true, Int.toNat_natCast, getD_mid]
    refine Ev.bind (e_spec_ggNear b hb x hx0 hx1) ?_
    have h6 := e_spec_ggGroups_6 b hb v hv (pre.length : Int) v26 v27 v28 (nears b x) [] o2 (pre ++ x :: q) hin (by have := nears_len b x; simp; omega) h2 hm
    refine Ev.bind h6 ?_
    have happ := visits_app b v (nears b x) o2 (pre ++ x :: q) []
    rw [List.append_nil] at happ
    rw [happ]
    show Ev (fun k => f_spec_ggGroups_4 k b.1 b.2.1 b.2.2 (List.foldl (visit b v) (o2, []) (nears b x)).1 ((pre ++ x :: q) ++ (List.foldl (visit b v) (o2, []) (nears b x)).2) v (wrap64 ((pre.length : Int) + 1)) v26 v27 v28) _
    rw [next_mid pre x q (by simp; omega), shift_mid, List.append_assoc]
    exact e_spec_ggGroups_4 b hb v hv v26 v27 v28 n _ _ (pre ++ [x]) (fun m hm => by
      rcases List.mem_append.1 hm with hm | hm
      · exact hq m (List.mem_cons_of_mem _ hm)
      · exact visits_mem b v (fun m => 0 ≤ m ∧ m < (b.2.2.length : Int)) (nears b x) (o2, []) hin (fun m hm => by cases hm) m hm) (by rw [visits_len]; exact h2) (by rw [List.length_append]; omega) (by simp only [List.length_append, List.length_singleton]; omega)
/-! ### All groups -/
def groupsFrom (b : BoardD) : Int → List CellD → List Int → Int → List Int
  | _, [], o2, _ => o2
  | i, x :: r, o2, v => if geared x && decide (List.getD o2 i.toNat 0 < 0) then groupsFrom b (i + 1) r (bfs b v 200 (List.set o2 i.toNat v) [i]) (v + 1) else groupsFrom b (i + 1) r o2 v
theorem groupsFrom_len (b : BoardD) : ∀ (r : List CellD) (i : Int) (o2 : List Int) (v : Int), (groupsFrom b i r o2 v).length = o2.length
  | [], _, _, _ => rfl
  | x :: r, i, o2, v => by
    simp only [groupsFrom]
    split
    · rw [groupsFrom_len b r, bfs_len, List.length_set]
    · exact groupsFrom_len b r _ _ _
def groupsOf (b : BoardD) : List Int := groupsFrom b 0 b.2.2 (List.replicate b.2.2.length (-1)) 0
theorem groupsOf_len (b : BoardD) : (groupsOf b).length = b.2.2.length := by unfold groupsOf; rw [groupsFrom_len]; simp
theorem e_impl_groupNumbers_0 (b : BoardD) (m : Int) : ∀ (r pre : List Int), m = ((pre ++ r).length : Int) → (pre ++ r).length ≤ 1000 → Ev (fun k => f_impl_groupNumbers_0 k b.1 b.2.1 b.2.2 (pre ++ r) m (pre.length : Int)) (b.1, b.2.1, b.2.2, pre ++ List.replicate r.length (-1))
  | [], pre, hm, hl => by
    refine Ev.succ ?_
    have : ¬ (pre.length : Int) < m := by rw [hm]; exact nlt_end pre
    simp only [f_impl_groupNumbers_0, this, decide_false, Bool.false_eq_true, if_false]
    exact Ev.of (by simp)
  | x :: r, pre, hm, hl => by
    have ih := e_impl_groupNumbers_0 b m r (pre ++ [-1]) (by rw [hm]; simp) (by simpa using hl)
    have hlt : (pre.length : Int) < m := by rw [hm]; exact lt_mid _ _ _
    have hn2 : ((pre ++ [x]).length : Int) = ((pre ++ [(-1 : Int)]).length : Int) := by simp
    refine Ev.succ ?_
    simp only [f_impl_groupNumbers_0, hlt, lt_mid, ge_mid, decide_true, if_true, Int.toNat_natCast, set_mid]
    rw [next_mid pre x r (by omega), hn2]
    rw [← shift_mid] at ih
    refine ih.congr ?_
    simp [List.replicate_succ]
theorem e_impl_groupNumbers_2 (b : BoardD) (hb : boardOK b = true) : ∀ (r pre : List CellD) (o2 : List Int) (v : Int), pre ++ r = b.2.2 → o2.length = b.2.2.length → 0 ≤ v → v ≤ pre.length → Ev (fun k => f_impl_groupNumbers_2 k b.1 b.2.1 b.2.2 o2 v (pre ++ r) ((pre ++ r).length : Int) (pre.length : Int)) (groupsFrom b pre.length r o2 v)
  | [], pre, o2, v, hpr, h2, hv, hv2 => by
    refine Ev.succ ?_
    simp only [f_impl_groupNumbers_2, nlt_end, decide_false, Bool.false_eq_true, if_false]
    exact Ev.some _
  | x :: r, pre, o2, v, hpr, h2, hv, hv2 => by
    obtain ⟨g1, g2, g3, g4, g5, g6⟩ := board_ok hb
    have hp := prod_small g1 g2 g3 g4
    have hl90 : (pre ++ x :: r).length ≤ 90 := by rw [hpr]; omega
    have hn := next_mid pre x r (by omega)
    have hc : ((pre ++ [x]).length : Int) = (pre.length : Int) + 1 := by simp
    have hlt := lt_mid pre x r
    have hlo : (pre.length : Int) < (o2.length : Int) := by rw [h2, ← hpr]; exact hlt
    have ih0 := e_impl_groupNumbers_2 b hb r (pre ++ [x]) o2 v (by rw [← hpr]; simp) h2 hv (by simp; omega)
    rw [← shift_mid, hc] at ih0
    refine Ev.succ ?_
    simp only [f_impl_groupNumbers_2, lt_mid, ge_mid, decide_true, if_true, Int.toNat_natCast, getD_mid, hn, hc, hlo]
    refine Ev.bind (e_impl_isGeared x) ?_
    cases hg : geared x with
    | false =>
      simp only [Bool.not_false, if_true, groupsFrom, hg, Bool.false_and, Bool.false_eq_true, if_false]
      exact ih0
    | true =>
      simp only [Bool.not_true, Bool.false_eq_true, if_false]
      refine Ev.ite (fun h => ?_) (fun h => ?_)
      · simp only [ge_iff_le, decide_eq_true_eq] at h
        have hno : ¬ List.getD o2 pre.length 0 < 0 := by omega
        simp only [groupsFrom, hg, Int.toNat_natCast, hno, decide_false, Bool.and_false, Bool.false_eq_true, if_false]
        exact ih0
      · simp only [ge_iff_le, decide_eq_true_eq] at h
        have hno : List.getD o2 pre.length 0 < 0 := by omega
        have hul := unl_len (List.set o2 pre.length v)
        rw [List.length_set, h2, ← hpr] at hul
        have h4 := e_impl_groupNumbers_4 b hb v hv (pre ++ x :: r) ((pre ++ x :: r).length : Int) (pre.length : Int) 200 (List.set o2 pre.length v) [(pre.length : Int)] (fun m hm => by rw [List.mem_singleton.1 hm, ← hpr]; exact ⟨by omega, hlt⟩) (by rw [List.length_set]; exact h2) (by simp; omega) (by simp; omega)
        refine Ev.bind h4 ?_
        have ih := e_impl_groupNumbers_2 b hb r (pre ++ [x]) (bfs b v 200 (List.set o2 pre.length v) [(pre.length : Int)]) (v + 1) (by rw [← hpr]; simp) (by rw [bfs_len, List.length_set]; exact h2) (by omega) (by simp; omega)
        rw [← shift_mid, hc] at ih
        show Ev (fun k => f_impl_groupNumbers_2 k b.1 b.2.1 b.2.2 (bfs b v 200 (List.set o2 pre.length v) [(pre.length : Int)]) (wrap64 (v + 1)) (pre ++ x :: r) ((pre ++ x :: r).length : Int) (wrap64 ((pre.length : Int) + 1))) _
        rw [w64 (n := v + 1) (by omega) (by omega), hn, hc]
        simp only [groupsFrom, hg, Int.toNat_natCast, hno, decide_true, Bool.and_self, if_true]
        exact ih
theorem e_impl_groupNumbers (b : BoardD) (hb : boardOK b = true) : Ev (fun k => f_impl_groupNumbers k b) (groupsOf b) := by
  obtain ⟨g1, g2, g3, g4, g5, g6⟩ := board_ok hb
  have hp := prod_small g1 g2 g3 g4
  have hm : b.2.2.length * 8 ≤ 281474976710656 := by omega
  refine Ev.succ ?_
  simp only [f_impl_groupNumbers, Int.toNat_natCast, hm, if_true]
  refine Ev.bind (e_impl_groupNumbers_0 b _ (List.replicate b.2.2.length 0) [] rfl (by simp; omega)) ?_
  have hrep : ([] : List Int) ++ List.replicate (List.replicate b.2.2.length (0 : Int)).length (-1) = List.replicate b.2.2.length (-1) := by simp
  rw [hrep]
  exact Ev.bind (e_impl_groupNumbers_2 b hb b.2.2 [] (List.replicate b.2.2.length (-1)) 0 rfl (by simp) (by omega) (by simp)) (Ev.some _)
theorem e_spec_ggGroups_0 (b : BoardD) (m : Int) : ∀ (r pre : List Int), m = ((pre ++ r).length : Int) → (pre ++ r).length ≤ 1000 → Ev (fun k => f_spec_ggGroups_0 k b.1 b.2.1 b.2.2 (pre ++ r) m (pre.length : Int)) (b.1, b.2.1, b.2.2, pre ++ List.replicate r.length (-1))
  | [], pre, hm, hl => by
    refine Ev.succ ?_
    have : ¬ (pre.length : Int) < m := by rw [hm]; exact nlt_end pre
    simp only [f_spec_ggGroups_0, this, decide_false, Bool.false_eq_true, if_false]
    exact Ev.of (by simp)
  | x :: r, pre, hm, hl => by
    have ih := e_spec_ggGroups_0 b m r (pre ++ [-1]) (by rw [hm]; simp) (by simpa using hl)
    have hlt : (pre.length : Int) < m := by rw [hm]; exact lt_mid _ _ _
    have hn2 : ((pre ++ [x]).length : Int) = ((pre ++ [(-1 : Int)]).length : Int) := by simp
    refine Ev.succ ?_
    simp only [f_spec_ggGroups_0, hlt, lt_mid, ge_mid, decide_true, if_true, Int.toNat_natCast, set_mid]
    rw [next_mid pre x r (by omega), hn2]
    rw [← shift_mid] at ih
    refine ih.congr ?_
    simp [List.replicate_succ]
theorem e_spec_ggGroups_2 (b : BoardD) (hb : boardOK b = true) : ∀ (r pre : List CellD) (o2 : List Int) (v : Int), pre ++ r = b.2.2 → o2.length = b.2.2.length → 0 ≤ v → v ≤ pre.length → Ev (fun k => f_spec_ggGroups_2 k b.1 b.2.1 b.2.2 o2 v (pre ++ r) ((pre ++ r).length : Int) (pre.length : Int)) (groupsFrom b pre.length r o2 v)
  | [], pre, o2, v, hpr, h2, hv, hv2 => by
    refine Ev.succ ?_
    simp only [f_spec_ggGroups_2, nlt_end, decide_false, Bool.false_eq_true, if_false]
    exact Ev.some _
  | x :: r, pre, o2, v, hpr, h2, hv, hv2 => by
    obtain ⟨g1, g2, g3, g4, g5, g6⟩ := board_ok hb
    have hp := prod_small g1 g2 g3 g4
    have hl90 : (pre ++ x :: r).length ≤ 90 := by rw [hpr]; omega
    have hn := next_mid pre x r (by omega)
    have hc : ((pre ++ [x]).length : Int) = (pre.length : Int) + 1 := by simp
    have hlt := lt_mid pre x r
    have hlo : (pre.length : Int) < (o2.length : Int) := by rw [h2, ← hpr]; exact hlt
    have ih0 := e_spec_ggGroups_2 b hb r (pre ++ [x]) o2 v (by rw [← hpr]; simp) h2 hv (by simp; omega)
    rw [← shift_mid, hc] at ih0
    refine Ev.succ ?_
    simp only [f_spec_ggGroups_2, lt_mid, ge_mid, decide_true, if_true, Int.toNat_natCast, getD_mid, hn, hc, hlo]
    refine Ev.bind (e_spec_ggGear x) ?_
    cases hg : geared x with
    | false =>
      simp only [Bool.not_false, if_true, groupsFrom, hg, Bool.false_and, Bool.false_eq_true, if_false]
      exact ih0
    | true =>
      simp only [Bool.not_true, Bool.false_eq_true, if_false]
      refine Ev.ite (fun h => ?_) (fun h => ?_)
      · simp only [ge_iff_le, decide_eq_true_eq] at h
        have hno : ¬ List.getD o2 pre.length 0 < 0 := by omega
        simp only [groupsFrom, hg, Int.toNat_natCast, hno, decide_false, Bool.and_false, Bool.false_eq_true, if_false]
        exact ih0
      · simp only [ge_iff_le, decide_eq_true_eq] at h
        have hno : List.getD o2 pre.length 0 < 0 := by omega
        have hul := unl_len (List.set o2 pre.length v)
        rw [List.length_set, h2, ← hpr] at hul
        have h4 := e_spec_ggGroups_4 b hb v hv (pre ++ x :: r) ((pre ++ x :: r).length : Int) (pre.length : Int) 200 (List.set o2 pre.length v) [(pre.length : Int)] [] (fun m hm => by rw [List.mem_singleton.1 hm, ← hpr]; exact ⟨by omega, hlt⟩) (by rw [List.length_set]; exact h2) (by simp; omega) (by simp; omega)
        refine Ev.bind h4 ?_
        have ih := e_spec_ggGroups_2 b hb r (pre ++ [x]) (bfs b v 200 (List.set o2 pre.length v) [(pre.length : Int)]) (v + 1) (by rw [← hpr]; simp) (by rw [bfs_len, List.length_set]; exact h2) (by omega) (by simp; omega)
        rw [← shift_mid, hc] at ih
        show Ev (fun k => f_spec_ggGroups_2 k b.1 b.2.1 b.2.2 (bfs b v 200 (List.set o2 pre.length v) [(pre.length : Int)]) (wrap64 (v + 1)) (pre ++ x :: r) ((pre ++ x :: r).length : Int) (wrap64 ((pre.length : Int) + 1))) _
        rw [w64 (n := v + 1) (by omega) (by omega), hn, hc]
        simp only [groupsFrom, hg, Int.toNat_natCast, hno, decide_true, Bool.and_self, if_true]
        exact ih
theorem e_spec_ggGroups (b : BoardD) (hb : boardOK b = true) : Ev (fun k => f_spec_ggGroups k b) (groupsOf b) := by
  obtain ⟨g1, g2, g3, g4, g5, g6⟩ := board_ok hb
  have hp := prod_small g1 g2 g3 g4
  have hm : b.2.2.length * 8 ≤ 281474976710656 := by omega
  refine Ev.succ ?_
  simp only [f_spec_ggGroups, Int.toNat_natCast, hm, if_true]
  refine Ev.bind (e_spec_ggGroups_0 b _ (List.replicate b.2.2.length 0) [] rfl (by simp; omega)) ?_
  have hrep : ([] : List Int) ++ List.replicate (List.replicate b.2.2.length (0 : Int)).length (-1) = List.replicate b.2.2.length (-1) := by simp
  rw [hrep]
  exact Ev.bind (e_spec_ggGroups_2 b hb b.2.2 [] (List.replicate b.2.2.length (-1)) 0 rfl (by simp) (by omega) (by simp)) (Ev.some _)
end Go.Proofs.Ytgpmbmnfcbippaa.Vs

set_option linter.unusedVariables false
set_option linter.unusedSimpArgs false
namespace Go.Proofs.Ytgpmbmnfcbippaa.Vs
open Go.RowKit
/-! ### Faults -/
def fits (x : CellD) (kd : Int) : Bool := decide (kd = 2) || (decide (kd = 1) && turning x) || (decide (kd = 3) && (turning x || decide (x.1 = 1 ∨ x.1 = 2)))
theorem e_spec_faFits (x : CellD) (kd : Int) : Ev (fun k => f_spec_faFits k x kd) (fits x kd) := by
  refine Ev.succ ?_
  simp only [f_spec_faFits]
  refine Ev.ite (fun h => ?_) (fun h => ?_)
  · simp only [decide_eq_true_eq] at h
    refine Ev.bind (e_spec_paTurning x) (Ev.of ?_)
    simp [fits, h]
  · simp only [decide_eq_true_eq] at h
    refine Ev.ite (fun h2 => ?_) (fun h2 => ?_)
    · simp only [decide_eq_true_eq] at h2
      exact Ev.of (by simp [fits, h2])
    · simp only [decide_eq_true_eq] at h2
      refine Ev.ite (fun h3 => ?_) (fun h3 => ?_)
      · simp only [decide_eq_true_eq] at h3
        refine Ev.bind (e_spec_paTurning x) (Ev.ite (fun h4 => ?_) (fun h4 => ?_))
        · exact Ev.of (by simp [fits, h3, h4])
        · refine Ev.of ?_
          simp only [Bool.not_eq_true] at h4
          by_cases h5 : x.1 = 1 <;> simp [fits, h3, h4, h5]
      · simp only [decide_eq_true_eq] at h3
        exact Ev.of (by simp [fits, h, h2, h3])
theorem e_impl_canHave (x : CellD) (kd : Int) (hx : cellOK x = true) : Ev (fun k => f_impl_canHave k x kd) (fits x kd) := by
  have ht : Ev (fun k => f_impl_IsTurning k x) (turning x) := by simpa [hx] using e_impl_IsTurning x
  refine Ev.succ ?_
  simp only [f_impl_canHave]
  refine Ev.ite (fun h => ?_) (fun h => ?_)
  · simp only [decide_eq_true_eq] at h
    refine Ev.bind ht (Ev.of ?_)
    simp [fits, h]
  · simp only [decide_eq_true_eq] at h
    refine Ev.ite (fun h2 => ?_) (fun h2 => ?_)
    · simp only [decide_eq_true_eq] at h2
      exact Ev.of (by simp [fits, h2])
    · simp only [decide_eq_true_eq] at h2
      refine Ev.ite (fun h3 => ?_) (fun h3 => ?_)
      · simp only [decide_eq_true_eq] at h3
        refine Ev.bind ht (Ev.ite (fun h4 => ?_) (fun h4 => ?_))
        · exact Ev.of (by simp [fits, h3, h4])
        · refine Ev.of ?_
          simp only [Bool.not_eq_true] at h4
          by_cases h5 : x.1 = 1 <;> simp [fits, h3, h4, h5]
      · simp only [decide_eq_true_eq] at h3
        exact Ev.of (by simp [fits, h, h2, h3])
/-- Faults in strictly increasing order of their cells, each on the board and of a kind that its cell can have. -/
def faultsOK (b : BoardD) : Int → List FaultD → Bool
  | _, [] => true
  | last, x :: r => decide (0 ≤ x.2.1 ∧ x.2.1 < b.1 ∧ 0 ≤ x.2.2 ∧ x.2.2 < b.2.1 ∧ last < x.2.1 * b.2.1 + x.2.2) && fits (List.getD b.2.2 (x.2.1 * b.2.1 + x.2.2).toNat (0, 0)) x.1 && faultsOK b (x.2.1 * b.2.1 + x.2.2) r
end Go.Proofs.Ytgpmbmnfcbippaa.Vs

set_option linter.unusedVariables false
set_option linter.unusedSimpArgs false
namespace Go.Proofs.Ytgpmbmnfcbippaa.Vs
open Go.RowKit
/-! ### Faults by their places -/
def placeOf (b : BoardD) (f : FaultD) : Int := f.2.1 * b.2.1 + f.2.2
def kindsOf (b : BoardD) (l : List FaultD) (K : List Int) : List Int := l.foldl (fun K f => List.set K (placeOf b f).toNat f.1) K
def faAtD (r c d : Int) : List FaultD → Int
  | [] => d
  | f :: l => if f.2.1 = r ∧ f.2.2 = c then f.1 else faAtD r c d l
theorem faults_cons {b : BoardD} {last : Int} {f : FaultD} {l : List FaultD} (h : faultsOK b last (f :: l) = true) : (0 ≤ f.2.1 ∧ f.2.1 < b.1 ∧ 0 ≤ f.2.2 ∧ f.2.2 < b.2.1 ∧ last < placeOf b f) ∧ faultsOK b (placeOf b f) l = true := by
  simp only [faultsOK, Bool.and_eq_true, decide_eq_true_eq] at h
  exact ⟨h.1.1, h.2⟩
theorem faults_on {b : BoardD} : ∀ {l : List FaultD} {last : Int}, faultsOK b last l = true → ∀ f ∈ l, 0 ≤ f.2.1 ∧ f.2.1 < b.1 ∧ 0 ≤ f.2.2 ∧ f.2.2 < b.2.1
  | [], _, _, f, hf => by cases hf
  | g :: l, last, h, f, hf => by
    obtain ⟨h1, h2⟩ := faults_cons h
    rcases List.mem_cons.1 hf with rfl | hf
    · exact ⟨h1.1, h1.2.1, h1.2.2.1, h1.2.2.2.1⟩
    · exact faults_on h2 f hf
theorem place_inj {C r c r' c' : Int} (h1 : 0 ≤ c) (h2 : c < C) (h3 : 0 ≤ c') (h4 : c' < C) (h : r * C + c = r' * C + c') : r = r' ∧ c = c' := by
  have key : ∀ {x y : Int}, x < y → x * C + C ≤ y * C := by
    intro x y hxy
    have := Int.mul_le_mul_of_nonneg_right (show x + 1 ≤ y by omega) (show 0 ≤ C by omega)
    rw [Int.add_mul, Int.one_mul] at this
    exact this
  rcases Int.lt_trichotomy r r' with hr | hr | hr
  · have := key hr; omega
  · subst hr; omega
  · have := key hr; omega
theorem faAtD_later {b : BoardD} {r c : Int} (d : Int) : ∀ {l : List FaultD} {last : Int}, faultsOK b last l = true → r * b.2.1 + c ≤ last → faAtD r c d l = d
  | [], _, _, _ => rfl
  | f :: l, last, h, hp => by
    obtain ⟨h1, h2⟩ := faults_cons h
    unfold placeOf at h1 h2
    simp only [faAtD]
    rw [if_neg (by rintro ⟨rfl, rfl⟩; omega)]
    exact faAtD_later d h2 (by omega)
theorem kindsOf_len (b : BoardD) : ∀ (l : List FaultD) (K : List Int), (kindsOf b l K).length = K.length
  | [], _ => rfl
  | f :: l, K => by
    show (kindsOf b l (List.set K (placeOf b f).toNat f.1)).length = _
    rw [kindsOf_len b l, List.length_set]
theorem getD_set_if {α : Type} (l : List α) (i j : Nat) (x d : α) (hi : i < l.length) : List.getD (List.set l i x) j d = if i = j then x else List.getD l j d := by
  simp only [List.getD, List.getElem?_set]
  by_cases h : i = j
  · subst h; simp [hi]
  · simp [h]
theorem kindsOf_at {b : BoardD} (hb : boardOK b = true) {r c : Int} (h1 : 0 ≤ r) (h2 : r < b.1) (h3 : 0 ≤ c) (h4 : c < b.2.1) : ∀ {l : List FaultD} {last : Int} {K : List Int}, faultsOK b last l = true → K.length = b.2.2.length → List.getD (kindsOf b l K) (r * b.2.1 + c).toNat 0 = faAtD r c (List.getD K (r * b.2.1 + c).toNat 0) l
  | [], _, _, _, _ => rfl
  | f :: l, last, K, h, hK => by
    obtain ⟨g1, g2⟩ := faults_cons h
    have hp := place_ok hb h1 h2 h3 h4
    have hf := place_ok hb g1.1 g1.2.1 g1.2.2.1 g1.2.2.2.1
    show List.getD (kindsOf b l (List.set K (placeOf b f).toNat f.1)) _ 0 = _
    rw [kindsOf_at hb h1 h2 h3 h4 g2 (by rw [List.length_set]; exact hK)]
    rw [getD_set_if _ _ _ _ _ (by unfold placeOf; omega)]
    simp only [faAtD]
    by_cases hm : f.2.1 = r ∧ f.2.2 = c
    · rw [if_pos hm, if_pos (by unfold placeOf; rw [hm.1, hm.2])]
      exact faAtD_later _ g2 (by unfold placeOf; rw [hm.1, hm.2]; omega)
    · rw [if_neg hm, if_neg (fun he => hm (place_inj g1.2.2.1 g1.2.2.2.1 h3 h4 (by unfold placeOf at he; omega)))]
theorem e_impl_faultsByCell_0 (b : BoardD) (hb : boardOK b = true) : ∀ (r pre : List FaultD) (K : List Int), (∀ f ∈ r, 0 ≤ f.2.1 ∧ f.2.1 < b.1 ∧ 0 ≤ f.2.2 ∧ f.2.2 < b.2.1) → (pre ++ r).length ≤ 9223372036854775806 → K.length = b.2.2.length → Ev (fun k => f_impl_faultsByCell_0 k b.1 b.2.1 b.2.2 K (pre ++ r) ((pre ++ r).length : Int) (pre.length : Int)) (kindsOf b r K)
  | [], pre, K, hr, hl, hK => by
    refine Ev.succ ?_
    simp only [f_impl_faultsByCell_0, nlt_end, decide_false, Bool.false_eq_true, if_false]
    exact Ev.some _
  | f :: r, pre, K, hr, hl, hK => by
    obtain ⟨k1, k2, k3, k4⟩ := hr f (List.mem_cons_self ..)
    have hp := place_ok hb k1 k2 k3 k4
    have hpK : f.2.1 * b.2.1 + f.2.2 < (K.length : Int) := by omega
    have ih := e_impl_faultsByCell_0 b hb r (pre ++ [f]) (List.set K (placeOf b f).toNat f.1) (fun g hg => hr g (List.mem_cons_of_mem _ hg)) (by simpa using hl) (by rw [List.length_set]; exact hK)
    refine Ev.succ ?_
    simp only [f_impl_faultsByCell_0, lt_mid, ge_mid, decide_true, if_true, Int.toNat_natCast, getD_mid]
    rw [next_mid pre f r (by omega), w64 (n := f.2.1 * b.2.1) (by omega) (by omega), w64 (n := f.2.1 * b.2.1 + f.2.2) (by omega) (by omega)]
    simp only [hp.1, hpK, if_true]
    rw [← shift_mid] at ih
    exact ih
def kindsB (b : BoardD) (l : List FaultD) : List Int := kindsOf b l (List.replicate b.2.2.length 0)
theorem kindsB_len (b : BoardD) (l : List FaultD) : (kindsB b l).length = b.2.2.length := by unfold kindsB; rw [kindsOf_len]; simp
theorem e_impl_faultsByCell (b : BoardD) (hb : boardOK b = true) (l : List FaultD) (hl : faultsOK b (-1) l = true) (hlen : l.length ≤ 9223372036854775806) : Ev (fun k => f_impl_faultsByCell k b l) (kindsB b l) := by
  obtain ⟨g1, g2, g3, g4, g5, g6⟩ := board_ok hb
  have hp := prod_small g1 g2 g3 g4
  have hm : b.2.2.length * 8 ≤ 281474976710656 := by omega
  refine Ev.succ ?_
  simp only [f_impl_faultsByCell, Int.toNat_natCast, hm, if_true]
  exact Ev.bind (e_impl_faultsByCell_0 b hb l [] _ (faults_on hl) (by simpa using hlen) (by simp)) (Ev.some _)
theorem e_spec_faAt_0 (r c : Int) : ∀ (l pre : List FaultD), (pre ++ l).length ≤ 9223372036854775806 → ∀ {z : LR Unit Int}, (z = LR.go () ∧ faAtD r c 0 l = 0 ∨ z = LR.ret (faAtD r c 0 l)) → (∀ f ∈ l, ¬ (f.2.1 = r ∧ f.2.2 = c)) ∧ z = LR.go () ∨ (∃ f ∈ l, f.2.1 = r ∧ f.2.2 = c) ∧ z = LR.ret (faAtD r c 0 l) → Ev (fun k => f_spec_faAt_0 k r c (pre ++ l) ((pre ++ l).length : Int) (pre.length : Int)) z
  | [], pre, hl, z, _, hz => by
    refine Ev.succ ?_
    simp only [f_spec_faAt_0, nlt_end, decide_false, Bool.false_eq_true, if_false]
    rcases hz with ⟨_, rfl⟩ | ⟨⟨f, hf, _⟩, _⟩
    · exact Ev.some _
    · cases hf
  | f :: l, pre, hl, z, hz0, hz => by
    have hn := next_mid pre f l (by omega)
    have hl' : ((pre ++ [f]) ++ l).length ≤ 9223372036854775806 := by simpa using hl
    refine Ev.succ ?_
    simp only [f_spec_faAt_0, lt_mid, ge_mid, decide_true, if_true, Int.toNat_natCast, getD_mid, hn]
    by_cases hm : f.2.1 = r ∧ f.2.2 = c
    · simp only [hm.1, hm.2, decide_true, if_true]
      rcases hz with ⟨h, _⟩ | ⟨_, rfl⟩
      · exact absurd hm (h f (List.mem_cons_self ..))
      · simp only [faAtD, hm, and_self, if_true]; exact Ev.some _
    · have hfa : faAtD r c 0 (f :: l) = faAtD r c 0 l := by simp only [faAtD]; rw [if_neg hm]
      have ih : Ev (fun k => f_spec_faAt_0 k r c (pre ++ f :: l) ((pre ++ f :: l).length : Int) ((pre ++ [f]).length : Int)) z := by
        rw [shift_mid]
        refine e_spec_faAt_0 r c l (pre ++ [f]) hl' (by rw [← hfa]; exact hz0) ?_
        rcases hz with ⟨h, h2⟩ | ⟨⟨g, hg, hgm⟩, h2⟩
        · exact .inl ⟨fun g hg => h g (List.mem_cons_of_mem _ hg), h2⟩
        · rcases List.mem_cons.1 hg with rfl | hg
          · exact absurd hgm hm
          · exact .inr ⟨⟨g, hg, hgm⟩, by rw [← hfa]; exact h2⟩
      refine Ev.ite (fun g1 => Ev.ite (fun g2 => ?_) (fun _ => ih)) (fun _ => ih)
      simp only [decide_eq_true_eq] at g1 g2
      exact absurd ⟨g1, g2⟩ hm
theorem faAtD_none {r c d : Int} : ∀ {l : List FaultD}, (∀ f ∈ l, ¬ (f.2.1 = r ∧ f.2.2 = c)) → faAtD r c d l = d
  | [], _ => rfl
  | f :: l, h => by
    simp only [faAtD]
    rw [if_neg (h f (List.mem_cons_self ..))]
    exact faAtD_none (fun g hg => h g (List.mem_cons_of_mem _ hg))
theorem e_spec_faAt (l : List FaultD) (r c : Int) (hl : l.length ≤ 9223372036854775806) : Ev (fun k => f_spec_faAt k l r c) (faAtD r c 0 l) := by
  refine Ev.succ ?_
  simp only [f_spec_faAt]
  by_cases h : ∃ f ∈ l, f.2.1 = r ∧ f.2.2 = c
  · exact Ev.bind (e_spec_faAt_0 r c l [] (by simpa using hl) (z := LR.ret (faAtD r c 0 l)) (.inr rfl) (.inr ⟨h, rfl⟩)) (Ev.ret (Ev.some _))
  · have h' : ∀ f ∈ l, ¬ (f.2.1 = r ∧ f.2.2 = c) := fun f hf hm => h ⟨f, hf, hm⟩
    have h0 := faAtD_none (d := 0) h'
    refine Ev.bind (e_spec_faAt_0 r c l [] (by simpa using hl) (z := LR.go ()) (.inl ⟨rfl, h0⟩) (.inl ⟨h', rfl⟩)) ?_
    rw [h0]
    exact Ev.go (Ev.some _)
/-! ### Turning -/
def flip1 (x : CellD) : CellD := (x.1, 1 - x.2)
def turnGo (G K : List Int) (at' : Nat) (ka : Int) : Nat → List CellD → List CellD
  | _, [] => []
  | i, x :: r => (if (i = at' ∨ (ka = 6 ∧ x.1 = 6 ∧ List.getD G i 0 = List.getD G at' 0)) ∧ List.getD K i 0 ≠ 1 then flip1 x else x) :: turnGo G K at' ka (i + 1) r
def passGo (G : List Int) (ga : Int) : Nat → List CellD → List CellD
  | _, [] => []
  | i, x :: r => (if x.1 = 6 ∧ List.getD G i 0 = ga then flip1 x else x) :: passGo G ga (i + 1) r
theorem cell_two {x : CellD} (h : cellOK x = true) : 0 ≤ x.1 ∧ x.1 ≤ 7 ∧ (x.2 = 0 ∨ x.2 = 1) := by
  unfold cellOK at h
  simp only [decide_eq_true_eq] at h
  omega
theorem fst_same {p r : List CellD} {x y d : CellD} (h : y.1 = x.1) (n : Nat) : (List.getD (p ++ y :: r) n d).1 = (List.getD (p ++ x :: r) n d).1 := by
  simp only [List.getD]
  rcases Nat.lt_trichotomy n p.length with hn | hn | hn
  · rw [List.getElem?_append_left hn, List.getElem?_append_left hn]
  · subst hn; simp [h]
  · rw [List.getElem?_append_right (by omega), List.getElem?_append_right (by omega)]
    have : ∃ m, n - p.length = m + 1 := ⟨n - p.length - 1, by omega⟩
    obtain ⟨m, hm⟩ := this
    rw [hm]
    rfl
theorem e_impl_turnFaulty_0 (R C : Int) (G K : List Int) (at' : Nat) (ka : Int) : ∀ (r pre : List CellD), (pre ++ r).length ≤ 1000 → at' < (pre ++ r).length → G.length = (pre ++ r).length → K.length = (pre ++ r).length → (List.getD (pre ++ r) at' (0, 0)).1 = ka → (∀ x ∈ r, cellOK x = true) →
    Ev (fun k => f_impl_turnFaulty_0 k (pre ++ r) R C G K (at' : Int) ((pre ++ r).length : Int) (pre.length : Int)) (pre ++ turnGo G K at' ka pre.length r)
  | [], pre, hl, ha, hG, hK, hka, hx => by
    refine Ev.succ ?_
    simp only [f_impl_turnFaulty_0, nlt_end, decide_false, Bool.false_eq_true, if_false, turnGo]
    exact Ev.some _
  | x :: r, pre, hl, ha, hG, hK, hka, hx => by
    have hn := next_mid pre x r (by omega)
    have hlt := lt_mid pre x r
    have hGl : (pre.length : Int) < (G.length : Int) := by rw [hG]; exact hlt
    have hKl : (pre.length : Int) < (K.length : Int) := by rw [hK]; exact hlt
    have ha0 : (0 : Int) ≤ (at' : Int) := Int.natCast_nonneg _
    have ha1 : (at' : Int) < ((pre ++ x :: r).length : Int) := by omega
    have haG : (at' : Int) < (G.length : Int) := by rw [hG]; exact ha1
    obtain ⟨c1, c2, c3⟩ := cell_two (hx x (List.mem_cons_self ..))
    have hr' : ∀ y ∈ r, cellOK y = true := fun y hy => hx y (List.mem_cons_of_mem _ hy)
    have next : ∀ y : CellD, y.1 = x.1 → Ev (fun k => f_impl_turnFaulty_0 k (pre ++ y :: r) R C G K (at' : Int) ((pre ++ x :: r).length : Int) ((pre ++ [x]).length : Int)) (pre ++ y :: turnGo G K at' ka (pre.length + 1) r) := by
      intro y hy
      have ih := e_impl_turnFaulty_0 R C G K at' ka r (pre ++ [y]) (by simpa using hl) (by simpa using ha) (by simpa using hG) (by simpa using hK) (by rw [← shift_mid, fst_same hy]; exact hka) hr'
      have e1 : ((pre ++ [y] ++ r).length : Int) = ((pre ++ x :: r).length : Int) := by simp
      have e2 : ((pre ++ [y]).length : Int) = ((pre ++ [x]).length : Int) := by simp
      have e3 : (pre ++ [y]).length = pre.length + 1 := by simp
      rw [e1, e2, e3, ← shift_mid, ← shift_mid] at ih
      exact ih
    refine Ev.succ ?_
    simp only [f_impl_turnFaulty_0, lt_mid, ge_mid, decide_true, if_true, Int.toNat_natCast, getD_mid, set_mid, hn, hGl, hKl, ha0, ha1, haG, hka]
    rw [w64 (n := 1 - x.2) (by omega) (by omega)]
    simp only [turnGo]
    by_cases hia : pre.length = at'
    · have hia' : (pre.length : Int) = (at' : Int) := by omega
      simp only [hia', decide_true, if_true]
      rw [← hia]
      refine Ev.ite (fun h => ?_) (fun h => ?_)
      · simp only [ne_eq, decide_eq_true_eq] at h
        rw [if_pos ⟨.inl rfl, h⟩]
        have := next (flip1 x) rfl
        rw [← hia] at this
        exact this
      · simp only [ne_eq, decide_eq_true_eq, Decidable.not_not] at h
        rw [if_neg (fun hc => hc.2 h)]
        have := next x rfl
        rw [← hia] at this
        exact this
    · have hia' : ¬ (pre.length : Int) = (at' : Int) := by omega
      simp only [hia', decide_false, Bool.false_eq_true, if_false]
      have no : ¬ (ka = 6 ∧ x.1 = 6 ∧ List.getD G pre.length 0 = List.getD G at' 0) → Ev (fun k => f_impl_turnFaulty_0 k (pre ++ x :: r) R C G K (at' : Int) ((pre ++ x :: r).length : Int) ((pre ++ [x]).length : Int)) (pre ++ (if (pre.length = at' ∨ (ka = 6 ∧ x.1 = 6 ∧ List.getD G pre.length 0 = List.getD G at' 0)) ∧ List.getD K pre.length 0 ≠ 1 then flip1 x else x) :: turnGo G K at' ka (pre.length + 1) r) := by
        intro hno
        rw [if_neg (fun hc => hc.1.elim hia hno)]
        exact next x rfl
      refine Ev.ite (fun h1 => ?_) (fun h1 => no (fun hc => h1 (decide_eq_true hc.1)))
      refine Ev.ite (fun h2 => ?_) (fun h2 => no (fun hc => h2 (decide_eq_true hc.2.1)))
      refine Ev.ite (fun h3 => ?_) (fun h3 => no (fun hc => h3 (decide_eq_true hc.2.2)))
      simp only [decide_eq_true_eq] at h1 h2 h3
      refine Ev.ite (fun h => ?_) (fun h => ?_)
      · simp only [ne_eq, decide_eq_true_eq] at h
        rw [if_pos ⟨.inr ⟨h1, h2, h3⟩, h⟩]
        exact next (flip1 x) rfl
      · simp only [ne_eq, decide_eq_true_eq, Decidable.not_not] at h
        rw [if_neg (fun hc => hc.2 h)]
        exact next x rfl
def turnAt (G K : List Int) (at' : Nat) (o : List CellD) : List CellD := turnGo G K at' (List.getD o at' (0, 0)).1 0 o
theorem e_impl_turnFaulty (R C : Int) (o : List CellD) (G K : List Int) (at' : Nat) (hl : o.length ≤ 1000) (ha : at' < o.length) (hG : G.length = o.length) (hK : K.length = o.length) (hx : ∀ x ∈ o, cellOK x = true) : Ev (fun k => f_impl_turnFaulty k (R, C, o) G K (at' : Int)) (turnAt G K at' o) := by
  refine Ev.succ ?_
  simp only [f_impl_turnFaulty]
  exact Ev.bind (e_impl_turnFaulty_0 R C G K at' _ o [] hl ha hG hK rfl hx) (Ev.some _)
theorem e_spec_paTurn (x : CellD) (h : cellOK x = true) : Ev (fun k => f_spec_paTurn k x) (flip1 x) := by
  obtain ⟨c1, c2, c3⟩ := cell_two h
  refine Ev.succ ?_
  simp only [f_spec_paTurn]
  rw [w64 (n := 1 - x.2) (by omega) (by omega)]
  exact Ev.some _
theorem e_spec_flPass_1 (R C : Int) (G : List Int) (at' : Nat) : ∀ (r pre : List CellD), (pre ++ r).length ≤ 1000 → at' < (pre ++ r).length → G.length = (pre ++ r).length → (∀ x ∈ r, cellOK x = true) →
    Ev (fun k => f_spec_flPass_1 k (pre ++ r) R C G (at' : Int) ((pre ++ r).length : Int) (pre.length : Int)) (pre ++ passGo G (List.getD G at' 0) pre.length r)
  | [], pre, hl, ha, hG, hx => by
    refine Ev.succ ?_
    simp only [f_spec_flPass_1, nlt_end, decide_false, Bool.false_eq_true, if_false, passGo]
    exact Ev.some _
  | x :: r, pre, hl, ha, hG, hx => by
    have hn := next_mid pre x r (by omega)
    have hlt := lt_mid pre x r
    have hGl : (pre.length : Int) < (G.length : Int) := by rw [hG]; exact hlt
    have ha0 : (0 : Int) ≤ (at' : Int) := Int.natCast_nonneg _
    have ha1 : (at' : Int) < ((pre ++ x :: r).length : Int) := by omega
    have haG : (at' : Int) < (G.length : Int) := by rw [hG]; exact ha1
    have hr' : ∀ y ∈ r, cellOK y = true := fun y hy => hx y (List.mem_cons_of_mem _ hy)
    have next : ∀ y : CellD, Ev (fun k => f_spec_flPass_1 k (pre ++ y :: r) R C G (at' : Int) ((pre ++ x :: r).length : Int) ((pre ++ [x]).length : Int)) (pre ++ y :: passGo G (List.getD G at' 0) (pre.length + 1) r) := by
      intro y
      have ih := e_spec_flPass_1 R C G at' r (pre ++ [y]) (by simpa using hl) (by simpa using ha) (by simpa using hG) hr'
      have e1 : ((pre ++ [y] ++ r).length : Int) = ((pre ++ x :: r).length : Int) := by simp
      have e2 : ((pre ++ [y]).length : Int) = ((pre ++ [x]).length : Int) := by simp
      have e3 : (pre ++ [y]).length = pre.length + 1 := by simp
      rw [e1, e2, e3, ← shift_mid, ← shift_mid] at ih
      exact ih
    refine Ev.succ ?_
    simp only [f_spec_flPass_1, lt_mid, ge_mid, decide_true, if_true, Int.toNat_natCast, getD_mid, set_mid, hn, hGl, ha0, haG]
    simp only [passGo]
    refine Ev.ite (fun h1 => Ev.ite (fun h2 => ?_) (fun h2 => ?_)) (fun h1 => ?_)
    · simp only [decide_eq_true_eq] at h1 h2
      rw [if_pos ⟨h1, h2⟩]
      exact Ev.bind (e_spec_paTurn x (hx x (List.mem_cons_self ..))) (next (flip1 x))
    · simp only [decide_eq_true_eq] at h2
      rw [if_neg (fun hc => h2 hc.2)]
      exact next x
    · simp only [decide_eq_true_eq] at h1
      rw [if_neg (fun hc => h1 hc.1)]
      exact next x
def passAt (G : List Int) (at' : Nat) (o : List CellD) : List CellD := if (List.getD o at' (0, 0)).1 = 3 then List.set o at' (flip1 (List.getD o at' (0, 0))) else if (List.getD o at' (0, 0)).1 = 6 then passGo G (List.getD G at' 0) 0 o else o
theorem e_spec_flPass (R C : Int) (o : List CellD) (G : List Int) (at' : Nat) (hl : o.length ≤ 1000) (ha : at' < o.length) (hG : G.length = o.length) (hx : ∀ x ∈ o, cellOK x = true) : Ev (fun k => f_spec_flPass k (R, C, o) G (at' : Int)) (passAt G at' o) := by
  have ha0 : (0 : Int) ≤ (at' : Int) := Int.natCast_nonneg _
  have ha1 : (at' : Int) < (o.length : Int) := by omega
  refine Ev.succ ?_
  simp only [f_spec_flPass, ha0, ha1, if_true, Int.toNat_natCast]
  unfold passAt
  refine Ev.ite (fun h1 => ?_) (fun h1 => Ev.ite (fun h2 => ?_) (fun h2 => ?_))
  · simp only [decide_eq_true_eq] at h1
    rw [if_pos h1]
    exact Ev.bind (e_spec_paTurn _ (hx _ (cell_in ha0 ha1 _))) (Ev.some _)
  · simp only [decide_eq_true_eq] at h1 h2
    rw [if_neg h1, if_pos h2]
    exact Ev.bind (e_spec_flPass_1 R C G at' o [] hl ha hG hx) (Ev.some _)
  · simp only [decide_eq_true_eq] at h1 h2
    rw [if_neg h1, if_neg h2]
    exact Ev.some _
theorem turnGo_len (G K : List Int) (at' : Nat) (ka : Int) : ∀ (l : List CellD) (i : Nat), (turnGo G K at' ka i l).length = l.length
  | [], _ => rfl
  | x :: r, i => by simp [turnGo, turnGo_len G K at' ka r]
theorem passGo_len (G : List Int) (ga : Int) : ∀ (l : List CellD) (i : Nat), (passGo G ga i l).length = l.length
  | [], _ => rfl
  | x :: r, i => by simp [passGo, passGo_len G ga r]
theorem turnGo_at (G K : List Int) (at' : Nat) (ka : Int) : ∀ (l : List CellD) (j i : Nat), (turnGo G K at' ka j l)[i]? = l[i]?.map fun x => if (j + i = at' ∨ (ka = 6 ∧ x.1 = 6 ∧ List.getD G (j + i) 0 = List.getD G at' 0)) ∧ List.getD K (j + i) 0 ≠ 1 then flip1 x else x
  | [], _, i => by simp [turnGo]
  | x :: r, j, 0 => by simp [turnGo]
  | x :: r, j, i + 1 => by
    simp only [turnGo, List.getElem?_cons_succ]
    rw [turnGo_at G K at' ka r (j + 1) i, show j + 1 + i = j + (i + 1) by omega]
theorem passGo_at (G : List Int) (ga : Int) : ∀ (l : List CellD) (j i : Nat), (passGo G ga j l)[i]? = l[i]?.map fun x => if x.1 = 6 ∧ List.getD G (j + i) 0 = ga then flip1 x else x
  | [], _, i => by simp [passGo]
  | x :: r, j, 0 => by simp [passGo]
  | x :: r, j, i + 1 => by
    simp only [passGo, List.getElem?_cons_succ]
    rw [passGo_at G ga r (j + 1) i, show j + 1 + i = j + (i + 1) by omega]
/-! ### What is stuck comes back -/
def restore (b : BoardD) (l : List FaultD) (o : List CellD) : List CellD := l.foldl (fun o f => if f.1 = 1 then List.set o (placeOf b f).toNat (List.getD b.2.2 (placeOf b f).toNat (0, 0)) else o) o
theorem restore_len (b : BoardD) : ∀ (l : List FaultD) (o : List CellD), (restore b l o).length = o.length
  | [], _ => rfl
  | f :: l, o => by
    show (restore b l (if f.1 = 1 then _ else _)).length = _
    rw [restore_len b l]
    split <;> simp
theorem restore_at (b : BoardD) : ∀ (l : List FaultD) (o : List CellD) (i : Nat), i < o.length → (restore b l o)[i]? = if ∃ f ∈ l, f.1 = 1 ∧ (placeOf b f).toNat = i then some (List.getD b.2.2 i (0, 0)) else o[i]?
  | [], o, i, hi => by rw [if_neg (by rintro ⟨f, hf, _⟩; cases hf)]; rfl
  | f :: l, o, i, hi => by
    show (restore b l (if f.1 = 1 then _ else _))[i]? = _
    by_cases hf : f.1 = 1
    · rw [if_pos hf, restore_at b l _ i (by rw [List.length_set]; exact hi)]
      by_cases h : ∃ g ∈ l, g.1 = 1 ∧ (placeOf b g).toNat = i
      · rw [if_pos h]
        obtain ⟨g, hg, h2⟩ := h
        rw [if_pos ⟨g, List.mem_cons_of_mem _ hg, h2⟩]
      · rw [if_neg h]
        by_cases hp : (placeOf b f).toNat = i
        · rw [if_pos ⟨f, List.mem_cons_self .., hf, hp⟩, hp, List.getElem?_set_self hi]
        · rw [List.getElem?_set_ne hp, if_neg (by
            rintro ⟨g, hg, h2, h3⟩
            rcases List.mem_cons.1 hg with rfl | hg
            · exact hp h3
            · exact h ⟨g, hg, h2, h3⟩)]
    · rw [if_neg hf, restore_at b l o i hi]
      by_cases h : ∃ g ∈ l, g.1 = 1 ∧ (placeOf b g).toNat = i
      · rw [if_pos h]
        obtain ⟨g, hg, h2⟩ := h
        rw [if_pos ⟨g, List.mem_cons_of_mem _ hg, h2⟩]
      · rw [if_neg h, if_neg (by
            rintro ⟨g, hg, h2, h3⟩
            rcases List.mem_cons.1 hg with rfl | hg
            · exact hf h2
            · exact h ⟨g, hg, h2, h3⟩)]
theorem faAtD_mem {r c : Int} : ∀ {l : List FaultD} {f : FaultD}, f ∈ l → f.2.1 = r → f.2.2 = c → ∀ {b : BoardD} {last : Int}, faultsOK b last l = true → faAtD r c 0 l = f.1
  | g :: l, f, hf, h1, h2, b, last, hok => by
    obtain ⟨k1, k2⟩ := faults_cons hok
    simp only [faAtD]
    rcases List.mem_cons.1 hf with rfl | hf
    · rw [if_pos ⟨h1, h2⟩]
    · have hno : ¬ (g.2.1 = r ∧ g.2.2 = c) := by
        rintro ⟨e1, e2⟩
        have key : ∀ {l : List FaultD} {last : Int}, faultsOK b last l = true → ∀ f ∈ l, last < placeOf b f := by
          intro l
          induction l with
          | nil => intro last _ f hf; cases hf
          | cons g l ih =>
            intro last h f hf
            obtain ⟨a1, a2⟩ := faults_cons h
            rcases List.mem_cons.1 hf with rfl | hf
            · exact a1.2.2.2.2
            · have := ih a2 f hf; omega
        have := key k2 f hf
        unfold placeOf at this
        rw [h1, h2, e1, e2] at this
        omega
      rw [if_neg hno]
      exact faAtD_mem hf h1 h2 k2
theorem faAtD_one {r c : Int} : ∀ {l : List FaultD}, faAtD r c 0 l = 1 → ∃ f ∈ l, f.1 = 1 ∧ f.2.1 = r ∧ f.2.2 = c
  | [], h => by simp [faAtD] at h
  | f :: l, h => by
    simp only [faAtD] at h
    split at h
    · rename_i hm
      exact ⟨f, List.mem_cons_self .., h, hm.1, hm.2⟩
    · obtain ⟨g, hg, h2⟩ := faAtD_one h
      exact ⟨g, List.mem_cons_of_mem _ hg, h2⟩
/-- Where the kinds tell of a stuck cell, there is such a fault. -/
theorem stuck_iff {b : BoardD} (hb : boardOK b = true) {l : List FaultD} (hl : faultsOK b (-1) l = true) {i : Nat} (hi : i < b.2.2.length) : List.getD (kindsB b l) i 0 = 1 ↔ ∃ f ∈ l, f.1 = 1 ∧ (placeOf b f).toNat = i := by
  obtain ⟨q, m, t, hq, hm, k1, k2, k3, k4, k5, k6, k7, k8, k9⟩ := place_parts hb (i := (i : Int)) (by omega) (by omega)
  have hC : 0 < b.2.1 := by omega
  have e0 : Int.tdiv (i : Int) b.2.1 = (i : Int) / b.2.1 := Int.tdiv_eq_ediv_of_nonneg (by omega)
  have e1 : Int.tmod (i : Int) b.2.1 = (i : Int) % b.2.1 := Int.tmod_eq_emod_of_nonneg (by omega)
  have e2 := Int.mul_ediv_add_emod (i : Int) b.2.1
  rw [← e0, ← e1, hq, hm] at e2
  have hi2 : (i : Int) = q * b.2.1 + m := by rw [Int.mul_comm]; omega
  have hi3 : i = (q * b.2.1 + m).toNat := by omega
  have hk : List.getD (kindsB b l) i 0 = faAtD q m 0 l := by
    unfold kindsB
    rw [hi3, kindsOf_at hb k4 k5 k2 k3 hl (by simp)]
    congr 1
    simp only [List.getD, List.getElem?_replicate]
    split <;> rfl
  rw [hk]
  constructor
  · intro h
    obtain ⟨f, hf, h1, h2, h3⟩ := faAtD_one h
    exact ⟨f, hf, h1, by unfold placeOf; rw [h2, h3]; exact hi3.symm⟩
  · rintro ⟨f, hf, h1, h2⟩
    obtain ⟨o1, o2, o3, o4⟩ := faults_on hl f hf
    have hp := place_ok hb o1 o2 o3 o4
    have := place_inj o3 o4 k2 k3 (show f.2.1 * b.2.1 + f.2.2 = q * b.2.1 + m by unfold placeOf at h2; omega)
    rw [faAtD_mem hf this.1 this.2 hl, h1]
def stepAt (G K : List Int) (at' : Nat) (o : List CellD) : List CellD := if turning (List.getD o at' (0, 0)) then turnAt G K at' o else o
theorem restore_pass {b : BoardD} (hb : boardOK b = true) {l : List FaultD} (hl : faultsOK b (-1) l = true) (G : List Int) {at' : Nat} {o : List CellD} (ho : o.length = b.2.2.length) (ha : at' < o.length) (hs : ∀ i, i < o.length → List.getD (kindsB b l) i 0 = 1 → o[i]? = some (List.getD b.2.2 i (0, 0))) :
    restore b l (passAt G at' o) = stepAt G (kindsB b l) at' o := by
  have hpl : (passAt G at' o).length = o.length := by
    unfold passAt; split
    · simp
    · split
      · exact passGo_len _ _ _ _
      · rfl
  apply List.ext_getElem?
  intro i
  rcases Nat.lt_or_ge i o.length with hi | hi
  · rw [restore_at b l _ i (by rw [hpl]; exact hi)]
    have hst := stuck_iff hb hl (i := i) (by omega)
    have hox : o[i]? = some o[i] := List.getElem?_eq_getElem hi
    have hax : List.getD o at' (0, 0) = o[at'] := by simp [List.getD, List.getElem?_eq_getElem ha]
    by_cases hk : List.getD (kindsB b l) i 0 = 1
    · rw [if_pos (hst.1 hk), ← hs i hi hk]
      unfold stepAt turnAt
      split
      · rw [turnGo_at, hox, Option.map_some, if_neg (fun hc => hc.2 (by rw [Nat.zero_add]; exact hk))]
      · rfl
    · rw [if_neg (fun h => hk (hst.2 h))]
      unfold stepAt turnAt passAt turning
      rw [hax]
      by_cases h3 : (o[at']).1 = 3
      · simp only [h3, true_or, decide_true, if_true]
        rw [turnGo_at, hox, Option.map_some, Nat.zero_add]
        by_cases hia : at' = i
        · subst hia
          rw [List.getElem?_set_self hi, if_pos ⟨.inl rfl, hk⟩]
        · have hno : ¬ ((i = at' ∨ ((3 : Int) = 6 ∧ (o[i]).1 = 6 ∧ List.getD G i 0 = List.getD G at' 0)) ∧ List.getD (kindsB b l) i 0 ≠ 1) := by
            rintro ⟨h | ⟨h, _⟩, _⟩
            · exact hia h.symm
            · omega
          rw [List.getElem?_set_ne hia, hox, if_neg hno]
      · by_cases h6 : (o[at']).1 = 6
        · have h36 : ¬ (6 : Int) = 3 := by omega
          simp only [h6, h36, or_true, decide_true, if_true, if_false]
          rw [turnGo_at, passGo_at, hox, Option.map_some, Option.map_some, Nat.zero_add]
          congr 1
          by_cases hc : (o[i]).1 = 6 ∧ List.getD G i 0 = List.getD G at' 0
          · rw [if_pos hc, if_pos ⟨.inr ⟨rfl, hc⟩, hk⟩]
          · rw [if_neg hc, if_neg (by
              rintro ⟨h | ⟨_, h⟩, _⟩
              · subst h; exact hc ⟨h6, rfl⟩
              · exact hc h)]
        · simp only [h3, h6, or_self, decide_false, Bool.false_eq_true, if_false]
  · rw [List.getElem?_eq_none (by rw [restore_len, hpl]; exact hi), List.getElem?_eq_none ?_]
    unfold stepAt turnAt
    split
    · rw [turnGo_len]; exact hi
    · exact hi
end Go.Proofs.Ytgpmbmnfcbippaa.Vs
