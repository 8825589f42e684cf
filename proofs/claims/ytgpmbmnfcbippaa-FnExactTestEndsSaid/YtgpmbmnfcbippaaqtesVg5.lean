/- Functions of the program by plain functions, each with its contract. -/
import Derived.Test.YtgpmbmnfcbippaaqtesVsT
import Derived.Test.YtgpmbmnfcbippaaqtesVg0
import Derived.Test.YtgpmbmnfcbippaaqtesVg1
import Derived.Test.YtgpmbmnfcbippaaqtesVg2
import Derived.Test.YtgpmbmnfcbippaaqtesVg3
import Derived.Test.YtgpmbmnfcbippaaqtesVg4
set_option maxRecDepth 100000
set_option linter.unusedVariables false
set_option linter.unusedSimpArgs false
namespace Go.Proofs.Ytgpmbmnfcbippaa.Vs
open Go.RowKit
noncomputable section
/-! function 17 -/
/-! function 43 -/
noncomputable def r_spec_TestEnds : List PK := [{ t := Ty.slice (45 : Nat) (Ty.slice (91 : Nat) (Ty.pair (Ty.int IntKind.i64) (Ty.pair (Ty.int IntKind.i64) (Ty.int IntKind.i64)))) }, { t := Ty.bool }]
noncomputable def q_spec_TestEnds : List PK := [{ t := Ty.pair (Ty.int IntKind.i64) (Ty.pair (Ty.int IntKind.i64) (Ty.slice (116 : Nat) (Ty.pair (Ty.int IntKind.i64) (Ty.int IntKind.i64)))), agg := true }, { t := Ty.slice (83 : Nat) (Ty.pair (Ty.int IntKind.i64) (Ty.pair (Ty.int IntKind.i64) (Ty.int IntKind.i64))) }, { t := Ty.slice (25 : Nat) (Ty.slice (3 : Nat) (Ty.int IntKind.i64)) }]
noncomputable def to_spec_TestEnds (r : List (List (Int × Int × Int)) × Bool) : Tup r_spec_TestEnds × OutD := ((r.1, r.2, ()), none)
noncomputable def of_spec_TestEnds : Tup r_spec_TestEnds × OutD → Option (List (List (Int × Int × Int)) × Bool)
  | (a, none) => some (a.1, a.2.1)
  | _ => none
theorem to_of_spec_TestEnds : ∀ b r, of_spec_TestEnds b = some r → to_spec_TestEnds r = b := by
  rintro ⟨a, o⟩ r h
  cases o with
  | none => injection h with h; subst h; rfl
  | some _ => cases h
noncomputable def f_spec_TestEnds : Nat → Int × Int × List (Int × Int) → List (Int × Int × Int) → List (List Int) → Option (List (List (Int × Int × Int)) × Bool)
  | 0, _, _, _ => none
  | k + 1, p0, p1, p2 =>
    Option.bind (f_spec_tsAsked k (Prod.fst p0, Prod.fst (Prod.snd p0), Prod.snd (Prod.snd p0)) p2) fun z0 => if (!z0) = true then some ([], false) else Option.bind (f_spec_faGood k (Prod.fst p0, Prod.fst (Prod.snd p0), Prod.snd (Prod.snd p0)) p1) fun z1 => if (!z1) = true then some ([], false) else Option.bind (f_spec_tsEnds k (Prod.fst p0, Prod.fst (Prod.snd p0), Prod.snd (Prod.snd p0)) p1 p2) fun z2 => some (z2, true)
noncomputable def d_spec_TestEnds : FnDef := .of q_spec_TestEnds r_spec_TestEnds (List (List (Int × Int × Int)) × Bool) (fun k x => f_spec_TestEnds k x.1 x.2.1 x.2.2.1) to_spec_TestEnds of_spec_TestEnds to_of_spec_TestEnds
noncomputable def c_spec_TestEnds : Code := Try.f43.body.getD .skip
noncomputable def x_spec_TestEnds : Ctx (Tup r_spec_TestEnds × OutD) := { T := T, G := [(82, d_spec_tsAsked.E), (83, d_spec_faGood.E), (84, d_spec_tsEnds.E)], mvs := [], no := 0, n := 22, res := resOf T q_spec_TestEnds r_spec_TestEnds Try.f43.results.toList, loops := [], regs := [], conds := [] }
theorem g_spec_TestEnds (k : Nat) : EnvOK Try.prog k x_spec_TestEnds.G := (EnvOK.cons (s_spec_tsAsked k) (EnvOK.cons (s_spec_faGood k) (EnvOK.cons (s_spec_tsEnds k) (EnvOK.nil mixed))))
theorem h_spec_TestEnds (k : Nat) (x : Tup d_spec_TestEnds.ps) : d_spec_TestEnds.f (k + 1) x = fnK d_spec_TestEnds x_spec_TestEnds c_spec_TestEnds k x := by kernel_rfl
theorem z_spec_TestEnds (x : Tup d_spec_TestEnds.ps) : d_spec_TestEnds.f 0 x = none := by kernel_rfl
theorem l_spec_TestEnds (k : Nat) : LOK Try.prog x_spec_TestEnds k c_spec_TestEnds := LOK.by [] (by kernel_rfl) AllOK.nil
theorem s_spec_TestEnds (k : Nat) : SoundAt Try.prog k 43 d_spec_TestEnds.E := @fn_all Try.prog d_spec_TestEnds x_spec_TestEnds 43 Try.f43 c_spec_TestEnds (by kernel_rfl) (by kernel_rfl) (by kernel_rfl) Try.func43 (by kernel_rfl) (by kernel_rfl) (by kernel_rfl) T_ok g_spec_TestEnds l_spec_TestEnds z_spec_TestEnds h_spec_TestEnds k
/-! function 46 -/
noncomputable def r_impl_TestEnds : List PK := [{ t := Ty.slice (45 : Nat) (Ty.slice (91 : Nat) (Ty.pair (Ty.int IntKind.i64) (Ty.pair (Ty.int IntKind.i64) (Ty.int IntKind.i64)))) }, { t := Ty.bool }]
noncomputable def q_impl_TestEnds : List PK := [{ t := Ty.pair (Ty.int IntKind.i64) (Ty.pair (Ty.int IntKind.i64) (Ty.slice (116 : Nat) (Ty.pair (Ty.int IntKind.i64) (Ty.int IntKind.i64)))), agg := true }, { t := Ty.slice (83 : Nat) (Ty.pair (Ty.int IntKind.i64) (Ty.pair (Ty.int IntKind.i64) (Ty.int IntKind.i64))) }, { t := Ty.slice (25 : Nat) (Ty.slice (3 : Nat) (Ty.int IntKind.i64)) }]
noncomputable def to_impl_TestEnds (r : List (List (Int × Int × Int)) × Bool) : Tup r_impl_TestEnds × OutD := ((r.1, r.2, ()), none)
noncomputable def of_impl_TestEnds : Tup r_impl_TestEnds × OutD → Option (List (List (Int × Int × Int)) × Bool)
  | (a, none) => some (a.1, a.2.1)
  | _ => none
theorem to_of_impl_TestEnds : ∀ b r, of_impl_TestEnds b = some r → to_impl_TestEnds r = b := by
  rintro ⟨a, o⟩ r h
  cases o with
  | none => injection h with h; subst h; rfl
  | some _ => cases h
noncomputable def f_impl_TestEnds : Nat → Int × Int × List (Int × Int) → List (Int × Int × Int) → List (List Int) → Option (List (List (Int × Int × Int)) × Bool)
  | 0, _, _, _ => none
  | k + 1, p0, p1, p2 =>
    Option.bind (f_impl_areTests k (Prod.fst p0, Prod.fst (Prod.snd p0), Prod.snd (Prod.snd p0)) p2) fun z0 => if (!z0) = true then some ([], false) else Option.bind (f_impl_areFaults k (Prod.fst p0, Prod.fst (Prod.snd p0), Prod.snd (Prod.snd p0)) p1) fun z1 => if (!z1) = true then some ([], false) else Option.bind (f_impl_testEnds k (Prod.fst p0, Prod.fst (Prod.snd p0), Prod.snd (Prod.snd p0)) p1 p2) fun z2 => some (z2, true)
noncomputable def d_impl_TestEnds : FnDef := .of q_impl_TestEnds r_impl_TestEnds (List (List (Int × Int × Int)) × Bool) (fun k x => f_impl_TestEnds k x.1 x.2.1 x.2.2.1) to_impl_TestEnds of_impl_TestEnds to_of_impl_TestEnds
noncomputable def c_impl_TestEnds : Code := Try.f46.body.getD .skip
noncomputable def x_impl_TestEnds : Ctx (Tup r_impl_TestEnds × OutD) := { T := T, G := [(86, d_impl_areTests.E), (87, d_impl_areFaults.E), (88, d_impl_testEnds.E)], mvs := [], no := 0, n := 22, res := resOf T q_impl_TestEnds r_impl_TestEnds Try.f46.results.toList, loops := [], regs := [], conds := [] }
theorem g_impl_TestEnds (k : Nat) : EnvOK Try.prog k x_impl_TestEnds.G := (EnvOK.cons (s_impl_areTests k) (EnvOK.cons (s_impl_areFaults k) (EnvOK.cons (s_impl_testEnds k) (EnvOK.nil mixed))))
theorem h_impl_TestEnds (k : Nat) (x : Tup d_impl_TestEnds.ps) : d_impl_TestEnds.f (k + 1) x = fnK d_impl_TestEnds x_impl_TestEnds c_impl_TestEnds k x := by kernel_rfl
theorem z_impl_TestEnds (x : Tup d_impl_TestEnds.ps) : d_impl_TestEnds.f 0 x = none := by kernel_rfl
theorem l_impl_TestEnds (k : Nat) : LOK Try.prog x_impl_TestEnds k c_impl_TestEnds := LOK.by [] (by kernel_rfl) AllOK.nil
theorem s_impl_TestEnds (k : Nat) : SoundAt Try.prog k 46 d_impl_TestEnds.E := @fn_all Try.prog d_impl_TestEnds x_impl_TestEnds 46 Try.f46 c_impl_TestEnds (by kernel_rfl) (by kernel_rfl) (by kernel_rfl) Try.func46 (by kernel_rfl) (by kernel_rfl) (by kernel_rfl) T_ok g_impl_TestEnds l_impl_TestEnds z_impl_TestEnds h_impl_TestEnds k
/-! function 62 -/
/-! function 71 -/
/-! function 74 -/
/-! function 76 -/
/-! function 77 -/
/-! function 94 -/
noncomputable def r_impl_caseEnds : List PK := [{ t := Ty.slice (59 : Nat) (Ty.slice (45 : Nat) (Ty.slice (91 : Nat) (Ty.pair (Ty.int IntKind.i64) (Ty.pair (Ty.int IntKind.i64) (Ty.int IntKind.i64))))) }]
noncomputable def q_impl_caseEnds : List PK := [{ t := Ty.pair (Ty.int IntKind.i64) (Ty.pair (Ty.int IntKind.i64) (Ty.slice (116 : Nat) (Ty.pair (Ty.int IntKind.i64) (Ty.int IntKind.i64)))), agg := true }, { t := Ty.slice (25 : Nat) (Ty.slice (3 : Nat) (Ty.int IntKind.i64)) }]
noncomputable def to_impl_caseEnds (r : List (List (List (Int × Int × Int)))) : Tup r_impl_caseEnds × OutD := ((r, ()), none)
noncomputable def of_impl_caseEnds : Tup r_impl_caseEnds × OutD → Option (List (List (List (Int × Int × Int))))
  | (a, none) => some (a.1)
  | _ => none
theorem to_of_impl_caseEnds : ∀ b r, of_impl_caseEnds b = some r → to_impl_caseEnds r = b := by
  rintro ⟨a, o⟩ r h
  cases o with
  | none => injection h with h; subst h; rfl
  | some _ => cases h
noncomputable def f_impl_caseEnds_0 : Nat → Int → Int → List (Int × Int) → List (List (List (Int × Int × Int))) → List (Int × Int × Int) → List (List Int) → Int → Int → Option (List (List (List (Int × Int × Int))))
  | 0, _, _, _, _, _, _, _, _ => none
  | k + 1, b1_0, b1_1, b1_2, o2, o3, v1, v14, v15 =>
    if decide (v15 < v14) = true then if (0 : Int) ≤ v15 then if v15 < (↑(List.length o3) : Int) then Option.bind (f_impl_testEnds k (b1_0, b1_1, b1_2) [(Prod.fst (List.getD o3 (Int.toNat v15) ((0 : Int), (0 : Int), (0 : Int))), Prod.fst (Prod.snd (List.getD o3 (Int.toNat v15) ((0 : Int), (0 : Int), (0 : Int)))), Prod.snd (Prod.snd (List.getD o3 (Int.toNat v15) ((0 : Int), (0 : Int), (0 : Int)))))] v1) fun z2 => if List.length o2 + List.length [z2] ≤ (140737488355328 / 24 : Nat) then f_impl_caseEnds_0 k b1_0 b1_1 b1_2 (o2 ++ [z2]) o3 v1 v14 (wrap64 (v15 + (1 : Int))) else none else none else none else some o2
noncomputable def f_impl_caseEnds_0i : Spec := { objs := [OSh.ro, OSh.box (32 : Nat) [Sh.int IntKind.i64, Sh.int IntKind.i64, Sh.snap (0 : Nat) (Ty.pair (Ty.int IntKind.i64) (Ty.int IntKind.i64))], OSh.row true (59 : Nat) (Ty.slice (45 : Nat) (Ty.slice (91 : Nat) (Ty.pair (Ty.int IntKind.i64) (Ty.pair (Ty.int IntKind.i64) (Ty.int IntKind.i64))))), OSh.row true (83 : Nat) (Ty.pair (Ty.int IntKind.i64) (Ty.pair (Ty.int IntKind.i64) (Ty.int IntKind.i64)))], tmps := [((1 : Nat), TSh.at (Sh.snap (0 : Nat) (Ty.slice (3 : Nat) (Ty.int IntKind.i64)))), ((2 : Nat), TSh.at (Sh.ptr (1 : Nat) (0 : Nat))), ((5 : Nat), TSh.at (Sh.sl (2 : Nat))), ((13 : Nat), TSh.at (Sh.sl (3 : Nat))), ((14 : Nat), TSh.at (Sh.int IntKind.i64)), ((15 : Nat), TSh.at (Sh.int IntKind.i64))] }
noncomputable def f_impl_caseEnds_0o : Spec := { objs := [OSh.ro, OSh.row true (59 : Nat) (Ty.slice (45 : Nat) (Ty.slice (91 : Nat) (Ty.pair (Ty.int IntKind.i64) (Ty.pair (Ty.int IntKind.i64) (Ty.int IntKind.i64)))))], tmps := [((5 : Nat), TSh.at (Sh.sl (1 : Nat)))] }
noncomputable def f_impl_caseEnds_0D : LoopDef (Tup r_impl_caseEnds × OutD) := .plain f_impl_caseEnds_0i f_impl_caseEnds_0o (List (List (List (Int × Int × Int)))) (fun k x => f_impl_caseEnds_0 k x.1.2.1.1 x.1.2.1.2.1 x.1.2.1.2.2.1 x.1.2.2.1 x.1.2.2.2.1 x.2.1 x.2.2.2.2.2.1 x.2.2.2.2.2.2.1) (fun z => (((), z, ()), ((), ()))) (fun y => (y.1.2.1)) (fun _ => rfl)
noncomputable def f_impl_caseEnds : Nat → Int × Int × List (Int × Int) → List (List Int) → Option (List (List (List (Int × Int × Int))))
  | 0, _, _ => none
  | k + 1, p0, p1 =>
    Option.bind (f_impl_testEnds k (Prod.fst p0, Prod.fst (Prod.snd p0), Prod.snd (Prod.snd p0)) [] p1) fun z0 => Option.bind (f_impl_possibleFaults k (Prod.fst p0, Prod.fst (Prod.snd p0), Prod.snd (Prod.snd p0))) fun z1 => Option.bind (f_impl_caseEnds_0 k (Prod.fst p0) (Prod.fst (Prod.snd p0)) (Prod.snd (Prod.snd p0)) [z0] z1 p1 (↑(List.length z1) : Int) (0 : Int)) fun z3 => some z3
noncomputable def d_impl_caseEnds : FnDef := .of q_impl_caseEnds r_impl_caseEnds (List (List (List (Int × Int × Int)))) (fun k x => f_impl_caseEnds k x.1 x.2.1) to_impl_caseEnds of_impl_caseEnds to_of_impl_caseEnds
noncomputable def c_impl_caseEnds : Code := Try.f94.body.getD .skip
noncomputable def x_impl_caseEnds : Ctx (Tup r_impl_caseEnds × OutD) := { T := T, G := [(88, d_impl_testEnds.E), (65, d_impl_possibleFaults.E)], mvs := [], no := 0, n := 29, res := resOf T q_impl_caseEnds r_impl_caseEnds Try.f94.results.toList, loops := [(0, f_impl_caseEnds_0D.E)], regs := [], conds := [] }
theorem g_impl_caseEnds (k : Nat) : EnvOK Try.prog k x_impl_caseEnds.G := (EnvOK.cons (s_impl_testEnds k) (EnvOK.cons (s_impl_possibleFaults k) (EnvOK.nil mixed)))
noncomputable def f_impl_caseEnds_0B : Code := (findLoop 0 c_impl_caseEnds).getD .skip
theorem f_impl_caseEnds_0h (k : Nat) (x : f_impl_caseEnds_0i.D) : f_impl_caseEnds_0D.lp (k + 1) x = loopK x_impl_caseEnds f_impl_caseEnds_0D 0 f_impl_caseEnds_0B k x := by kernel_rfl
theorem f_impl_caseEnds_0l (k : Nat) : LOK Try.prog x_impl_caseEnds k f_impl_caseEnds_0B := LOK.by [] (by kernel_rfl) AllOK.nil
theorem f_impl_caseEnds_0z (x : f_impl_caseEnds_0i.D) : f_impl_caseEnds_0D.lp 0 x = none := by kernel_rfl
theorem f_impl_caseEnds_0ok (k : Nat) : EOK Try.prog x_impl_caseEnds k f_impl_caseEnds_0D.E (.block 0 (.loop f_impl_caseEnds_0B)) := loop_ok T_ok g_impl_caseEnds f_impl_caseEnds_0z f_impl_caseEnds_0h f_impl_caseEnds_0l k
theorem h_impl_caseEnds (k : Nat) (x : Tup d_impl_caseEnds.ps) : d_impl_caseEnds.f (k + 1) x = fnK d_impl_caseEnds x_impl_caseEnds c_impl_caseEnds k x := by kernel_rfl
theorem z_impl_caseEnds (x : Tup d_impl_caseEnds.ps) : d_impl_caseEnds.f 0 x = none := by kernel_rfl
theorem l_impl_caseEnds (k : Nat) : LOK Try.prog x_impl_caseEnds k c_impl_caseEnds := LOK.by [(f_impl_caseEnds_0D.E, .block 0 (.loop f_impl_caseEnds_0B))] (by kernel_rfl) (AllOK.cons (f_impl_caseEnds_0ok k) AllOK.nil)
theorem s_impl_caseEnds (k : Nat) : SoundAt Try.prog k 94 d_impl_caseEnds.E := @fn_all Try.prog d_impl_caseEnds x_impl_caseEnds 94 Try.f94 c_impl_caseEnds (by kernel_rfl) (by kernel_rfl) (by kernel_rfl) Try.func94 (by kernel_rfl) (by kernel_rfl) (by kernel_rfl) T_ok g_impl_caseEnds l_impl_caseEnds z_impl_caseEnds h_impl_caseEnds k
/-! function 99 -/
noncomputable def r_spec_tsCases : List PK := [{ t := Ty.slice (59 : Nat) (Ty.slice (45 : Nat) (Ty.slice (91 : Nat) (Ty.pair (Ty.int IntKind.i64) (Ty.pair (Ty.int IntKind.i64) (Ty.int IntKind.i64))))) }]
noncomputable def q_spec_tsCases : List PK := [{ t := Ty.pair (Ty.int IntKind.i64) (Ty.pair (Ty.int IntKind.i64) (Ty.slice (116 : Nat) (Ty.pair (Ty.int IntKind.i64) (Ty.int IntKind.i64)))), agg := true }, { t := Ty.slice (25 : Nat) (Ty.slice (3 : Nat) (Ty.int IntKind.i64)) }]
noncomputable def to_spec_tsCases (r : List (List (List (Int × Int × Int)))) : Tup r_spec_tsCases × OutD := ((r, ()), none)
noncomputable def of_spec_tsCases : Tup r_spec_tsCases × OutD → Option (List (List (List (Int × Int × Int))))
  | (a, none) => some (a.1)
  | _ => none
theorem to_of_spec_tsCases : ∀ b r, of_spec_tsCases b = some r → to_spec_tsCases r = b := by
  rintro ⟨a, o⟩ r h
  cases o with
  | none => injection h with h; subst h; rfl
  | some _ => cases h
noncomputable def f_spec_tsCases_0 : Nat → Int → Int → List (Int × Int) → List (List (List (Int × Int × Int))) → List (Int × Int × Int) → List (List Int) → Int → Int → Option (List (List (List (Int × Int × Int))))
  | 0, _, _, _, _, _, _, _, _ => none
  | k + 1, b1_0, b1_1, b1_2, o2, o3, v1, v14, v15 =>
    if decide (v15 < v14) = true then if (0 : Int) ≤ v15 then if v15 < (↑(List.length o3) : Int) then Option.bind (f_spec_tsEnds k (b1_0, b1_1, b1_2) [(Prod.fst (List.getD o3 (Int.toNat v15) ((0 : Int), (0 : Int), (0 : Int))), Prod.fst (Prod.snd (List.getD o3 (Int.toNat v15) ((0 : Int), (0 : Int), (0 : Int)))), Prod.snd (Prod.snd (List.getD o3 (Int.toNat v15) ((0 : Int), (0 : Int), (0 : Int)))))] v1) fun z2 => if List.length o2 + List.length [z2] ≤ (140737488355328 / 24 : Nat) then f_spec_tsCases_0 k b1_0 b1_1 b1_2 (o2 ++ [z2]) o3 v1 v14 (wrap64 (v15 + (1 : Int))) else none else none else none else some o2
noncomputable def f_spec_tsCases_0i : Spec := { objs := [OSh.ro, OSh.box (32 : Nat) [Sh.int IntKind.i64, Sh.int IntKind.i64, Sh.snap (0 : Nat) (Ty.pair (Ty.int IntKind.i64) (Ty.int IntKind.i64))], OSh.row true (59 : Nat) (Ty.slice (45 : Nat) (Ty.slice (91 : Nat) (Ty.pair (Ty.int IntKind.i64) (Ty.pair (Ty.int IntKind.i64) (Ty.int IntKind.i64))))), OSh.row true (83 : Nat) (Ty.pair (Ty.int IntKind.i64) (Ty.pair (Ty.int IntKind.i64) (Ty.int IntKind.i64)))], tmps := [((1 : Nat), TSh.at (Sh.snap (0 : Nat) (Ty.slice (3 : Nat) (Ty.int IntKind.i64)))), ((2 : Nat), TSh.at (Sh.ptr (1 : Nat) (0 : Nat))), ((5 : Nat), TSh.at (Sh.sl (2 : Nat))), ((13 : Nat), TSh.at (Sh.sl (3 : Nat))), ((14 : Nat), TSh.at (Sh.int IntKind.i64)), ((15 : Nat), TSh.at (Sh.int IntKind.i64))] }
noncomputable def f_spec_tsCases_0o : Spec := { objs := [OSh.ro, OSh.row true (59 : Nat) (Ty.slice (45 : Nat) (Ty.slice (91 : Nat) (Ty.pair (Ty.int IntKind.i64) (Ty.pair (Ty.int IntKind.i64) (Ty.int IntKind.i64)))))], tmps := [((5 : Nat), TSh.at (Sh.sl (1 : Nat)))] }
noncomputable def f_spec_tsCases_0D : LoopDef (Tup r_spec_tsCases × OutD) := .plain f_spec_tsCases_0i f_spec_tsCases_0o (List (List (List (Int × Int × Int)))) (fun k x => f_spec_tsCases_0 k x.1.2.1.1 x.1.2.1.2.1 x.1.2.1.2.2.1 x.1.2.2.1 x.1.2.2.2.1 x.2.1 x.2.2.2.2.2.1 x.2.2.2.2.2.2.1) (fun z => (((), z, ()), ((), ()))) (fun y => (y.1.2.1)) (fun _ => rfl)
noncomputable def f_spec_tsCases : Nat → Int × Int × List (Int × Int) → List (List Int) → Option (List (List (List (Int × Int × Int))))
  | 0, _, _ => none
  | k + 1, p0, p1 =>
    Option.bind (f_spec_tsEnds k (Prod.fst p0, Prod.fst (Prod.snd p0), Prod.snd (Prod.snd p0)) [] p1) fun z0 => Option.bind (f_spec_faPossible k (Prod.fst p0, Prod.fst (Prod.snd p0), Prod.snd (Prod.snd p0))) fun z1 => Option.bind (f_spec_tsCases_0 k (Prod.fst p0) (Prod.fst (Prod.snd p0)) (Prod.snd (Prod.snd p0)) [z0] z1 p1 (↑(List.length z1) : Int) (0 : Int)) fun z3 => some z3
noncomputable def d_spec_tsCases : FnDef := .of q_spec_tsCases r_spec_tsCases (List (List (List (Int × Int × Int)))) (fun k x => f_spec_tsCases k x.1 x.2.1) to_spec_tsCases of_spec_tsCases to_of_spec_tsCases
noncomputable def c_spec_tsCases : Code := Try.f99.body.getD .skip
noncomputable def x_spec_tsCases : Ctx (Tup r_spec_tsCases × OutD) := { T := T, G := [(84, d_spec_tsEnds.E), (105, d_spec_faPossible.E)], mvs := [], no := 0, n := 29, res := resOf T q_spec_tsCases r_spec_tsCases Try.f99.results.toList, loops := [(0, f_spec_tsCases_0D.E)], regs := [], conds := [] }
theorem g_spec_tsCases (k : Nat) : EnvOK Try.prog k x_spec_tsCases.G := (EnvOK.cons (s_spec_tsEnds k) (EnvOK.cons (s_spec_faPossible k) (EnvOK.nil mixed)))
noncomputable def f_spec_tsCases_0B : Code := (findLoop 0 c_spec_tsCases).getD .skip
theorem f_spec_tsCases_0h (k : Nat) (x : f_spec_tsCases_0i.D) : f_spec_tsCases_0D.lp (k + 1) x = loopK x_spec_tsCases f_spec_tsCases_0D 0 f_spec_tsCases_0B k x := by kernel_rfl
theorem f_spec_tsCases_0l (k : Nat) : LOK Try.prog x_spec_tsCases k f_spec_tsCases_0B := LOK.by [] (by kernel_rfl) AllOK.nil
theorem f_spec_tsCases_0z (x : f_spec_tsCases_0i.D) : f_spec_tsCases_0D.lp 0 x = none := by kernel_rfl
theorem f_spec_tsCases_0ok (k : Nat) : EOK Try.prog x_spec_tsCases k f_spec_tsCases_0D.E (.block 0 (.loop f_spec_tsCases_0B)) := loop_ok T_ok g_spec_tsCases f_spec_tsCases_0z f_spec_tsCases_0h f_spec_tsCases_0l k
theorem h_spec_tsCases (k : Nat) (x : Tup d_spec_tsCases.ps) : d_spec_tsCases.f (k + 1) x = fnK d_spec_tsCases x_spec_tsCases c_spec_tsCases k x := by kernel_rfl
theorem z_spec_tsCases (x : Tup d_spec_tsCases.ps) : d_spec_tsCases.f 0 x = none := by kernel_rfl
theorem l_spec_tsCases (k : Nat) : LOK Try.prog x_spec_tsCases k c_spec_tsCases := LOK.by [(f_spec_tsCases_0D.E, .block 0 (.loop f_spec_tsCases_0B))] (by kernel_rfl) (AllOK.cons (f_spec_tsCases_0ok k) AllOK.nil)
theorem s_spec_tsCases (k : Nat) : SoundAt Try.prog k 99 d_spec_tsCases.E := @fn_all Try.prog d_spec_tsCases x_spec_tsCases 99 Try.f99 c_spec_tsCases (by kernel_rfl) (by kernel_rfl) (by kernel_rfl) Try.func99 (by kernel_rfl) (by kernel_rfl) (by kernel_rfl) T_ok g_spec_tsCases l_spec_tsCases z_spec_tsCases h_spec_tsCases k
end
end Go.Proofs.Ytgpmbmnfcbippaa.Vs
