/- Functions of the program by plain functions, each with its contract. -/
import Derived.Test.YtgpmbmnfcbippaaqnnuVsT
import Derived.Test.YtgpmbmnfcbippaaqnnuVg0
import Derived.Test.YtgpmbmnfcbippaaqnnuVg1
import Derived.Test.YtgpmbmnfcbippaaqnnuVg2
import Derived.Test.YtgpmbmnfcbippaaqnnuVg3
import Derived.Test.YtgpmbmnfcbippaaqnnuVg4
set_option maxRecDepth 100000
set_option linter.unusedVariables false
set_option linter.unusedSimpArgs false
namespace Go.Proofs.Ytgpmbmnfcbippaa.Vs
open Go.RowKit
noncomputable section
/-! function 17 -/
/-! function 43 -/
/-! function 46 -/
/-! function 62 -/
/-! function 71 -/
noncomputable def r_spec_dgSingle : List PK := [{ t := Ty.slice (83 : Nat) (Ty.pair (Ty.int IntKind.i64) (Ty.pair (Ty.int IntKind.i64) (Ty.int IntKind.i64))) }]
noncomputable def q_spec_dgSingle : List PK := [{ t := Ty.pair (Ty.int IntKind.i64) (Ty.pair (Ty.int IntKind.i64) (Ty.slice (116 : Nat) (Ty.pair (Ty.int IntKind.i64) (Ty.int IntKind.i64)))), agg := true }, { t := Ty.slice (3 : Nat) (Ty.int IntKind.i64) }, { t := Ty.slice (91 : Nat) (Ty.pair (Ty.int IntKind.i64) (Ty.pair (Ty.int IntKind.i64) (Ty.int IntKind.i64))) }]
noncomputable def to_spec_dgSingle (r : List (Int × Int × Int)) : Tup r_spec_dgSingle × OutD := ((r, ()), none)
noncomputable def of_spec_dgSingle : Tup r_spec_dgSingle × OutD → Option (List (Int × Int × Int))
  | (a, none) => some (a.1)
  | _ => none
theorem to_of_spec_dgSingle : ∀ b r, of_spec_dgSingle b = some r → to_spec_dgSingle r = b := by
  rintro ⟨a, o⟩ r h
  cases o with
  | none => injection h with h; subst h; rfl
  | some _ => cases h
noncomputable def f_spec_dgSingle_0 : Nat → Int → Int → List (Int × Int) → List (Int × Int × Int) → List (Int × Int × Int) → List Int → List (Int × Int × Int) → Int → Int → Option (List (Int × Int × Int))
  | 0, _, _, _, _, _, _, _, _, _ => none
  | k + 1, b1_0, b1_1, b1_2, o2, o3, v1, v2, v12, v13 =>
    if decide (v13 < v12) = true then if (0 : Int) ≤ v13 then if v13 < (↑(List.length o3) : Int) then Option.bind (f_spec_dgExplains k (b1_0, b1_1, b1_2) [(Prod.fst (List.getD o3 (Int.toNat v13) ((0 : Int), (0 : Int), (0 : Int))), Prod.fst (Prod.snd (List.getD o3 (Int.toNat v13) ((0 : Int), (0 : Int), (0 : Int)))), Prod.snd (Prod.snd (List.getD o3 (Int.toNat v13) ((0 : Int), (0 : Int), (0 : Int)))))] v1 v2) fun z1 => if z1 = true then if List.length o2 + List.length [(Prod.fst (List.getD o3 (Int.toNat v13) ((0 : Int), (0 : Int), (0 : Int))), Prod.fst (Prod.snd (List.getD o3 (Int.toNat v13) ((0 : Int), (0 : Int), (0 : Int)))), Prod.snd (Prod.snd (List.getD o3 (Int.toNat v13) ((0 : Int), (0 : Int), (0 : Int)))))] ≤ (140737488355328 / 24 : Nat) then f_spec_dgSingle_0 k b1_0 b1_1 b1_2 (o2 ++ [(Prod.fst (List.getD o3 (Int.toNat v13) ((0 : Int), (0 : Int), (0 : Int))), Prod.fst (Prod.snd (List.getD o3 (Int.toNat v13) ((0 : Int), (0 : Int), (0 : Int)))), Prod.snd (Prod.snd (List.getD o3 (Int.toNat v13) ((0 : Int), (0 : Int), (0 : Int)))))]) o3 v1 v2 v12 (wrap64 (v13 + (1 : Int))) else none else f_spec_dgSingle_0 k b1_0 b1_1 b1_2 o2 o3 v1 v2 v12 (wrap64 (v13 + (1 : Int))) else none else none else some o2
noncomputable def f_spec_dgSingle_0i : Spec := { objs := [OSh.ro, OSh.box (32 : Nat) [Sh.int IntKind.i64, Sh.int IntKind.i64, Sh.snap (0 : Nat) (Ty.pair (Ty.int IntKind.i64) (Ty.int IntKind.i64))], OSh.row true (83 : Nat) (Ty.pair (Ty.int IntKind.i64) (Ty.pair (Ty.int IntKind.i64) (Ty.int IntKind.i64))), OSh.row true (83 : Nat) (Ty.pair (Ty.int IntKind.i64) (Ty.pair (Ty.int IntKind.i64) (Ty.int IntKind.i64)))], tmps := [((1 : Nat), TSh.at (Sh.snap (0 : Nat) (Ty.int IntKind.i64))), ((2 : Nat), TSh.at (Sh.snap (0 : Nat) (Ty.pair (Ty.int IntKind.i64) (Ty.pair (Ty.int IntKind.i64) (Ty.int IntKind.i64))))), ((3 : Nat), TSh.at (Sh.ptr (1 : Nat) (0 : Nat))), ((7 : Nat), TSh.at (Sh.sl (2 : Nat))), ((11 : Nat), TSh.at (Sh.sl (3 : Nat))), ((12 : Nat), TSh.at (Sh.int IntKind.i64)), ((13 : Nat), TSh.at (Sh.int IntKind.i64))] }
noncomputable def f_spec_dgSingle_0o : Spec := { objs := [OSh.ro, OSh.row true (83 : Nat) (Ty.pair (Ty.int IntKind.i64) (Ty.pair (Ty.int IntKind.i64) (Ty.int IntKind.i64)))], tmps := [((7 : Nat), TSh.at (Sh.sl (1 : Nat)))] }
noncomputable def f_spec_dgSingle_0D : LoopDef (Tup r_spec_dgSingle × OutD) := .plain f_spec_dgSingle_0i f_spec_dgSingle_0o (List (Int × Int × Int)) (fun k x => f_spec_dgSingle_0 k x.1.2.1.1 x.1.2.1.2.1 x.1.2.1.2.2.1 x.1.2.2.1 x.1.2.2.2.1 x.2.1 x.2.2.1 x.2.2.2.2.2.2.1 x.2.2.2.2.2.2.2.1) (fun z => (((), z, ()), ((), ()))) (fun y => (y.1.2.1)) (fun _ => rfl)
noncomputable def f_spec_dgSingle : Nat → Int × Int × List (Int × Int) → List Int → List (Int × Int × Int) → Option (List (Int × Int × Int))
  | 0, _, _, _ => none
  | k + 1, p0, p1, p2 =>
    Option.bind (f_spec_faPossible k (Prod.fst p0, Prod.fst (Prod.snd p0), Prod.snd (Prod.snd p0))) fun z0 => Option.bind (f_spec_dgSingle_0 k (Prod.fst p0) (Prod.fst (Prod.snd p0)) (Prod.snd (Prod.snd p0)) [] z0 p1 p2 (↑(List.length z0) : Int) (0 : Int)) fun z2 => some z2
noncomputable def d_spec_dgSingle : FnDef := .of q_spec_dgSingle r_spec_dgSingle (List (Int × Int × Int)) (fun k x => f_spec_dgSingle k x.1 x.2.1 x.2.2.1) to_spec_dgSingle of_spec_dgSingle to_of_spec_dgSingle
noncomputable def c_spec_dgSingle : Code := Try.f71.body.getD .skip
noncomputable def x_spec_dgSingle : Ctx (Tup r_spec_dgSingle × OutD) := { T := T, G := [(105, d_spec_faPossible.E), (115, d_spec_dgExplains.E)], mvs := [], no := 0, n := 29, res := resOf T q_spec_dgSingle r_spec_dgSingle Try.f71.results.toList, loops := [(0, f_spec_dgSingle_0D.E)], regs := [], conds := [] }
theorem g_spec_dgSingle (k : Nat) : EnvOK Try.prog k x_spec_dgSingle.G := (EnvOK.cons (s_spec_faPossible k) (EnvOK.cons (s_spec_dgExplains k) (EnvOK.nil mixed)))
noncomputable def f_spec_dgSingle_0B : Code := (findLoop 0 c_spec_dgSingle).getD .skip
theorem f_spec_dgSingle_0h (k : Nat) (x : f_spec_dgSingle_0i.D) : f_spec_dgSingle_0D.lp (k + 1) x = loopK x_spec_dgSingle f_spec_dgSingle_0D 0 f_spec_dgSingle_0B k x := by kernel_rfl
theorem f_spec_dgSingle_0l (k : Nat) : LOK Try.prog x_spec_dgSingle k f_spec_dgSingle_0B := LOK.by [] (by kernel_rfl) AllOK.nil
theorem f_spec_dgSingle_0z (x : f_spec_dgSingle_0i.D) : f_spec_dgSingle_0D.lp 0 x = none := by kernel_rfl
theorem f_spec_dgSingle_0ok (k : Nat) : EOK Try.prog x_spec_dgSingle k f_spec_dgSingle_0D.E (.block 0 (.loop f_spec_dgSingle_0B)) := loop_ok T_ok g_spec_dgSingle f_spec_dgSingle_0z f_spec_dgSingle_0h f_spec_dgSingle_0l k
theorem h_spec_dgSingle (k : Nat) (x : Tup d_spec_dgSingle.ps) : d_spec_dgSingle.f (k + 1) x = fnK d_spec_dgSingle x_spec_dgSingle c_spec_dgSingle k x := by kernel_rfl
theorem z_spec_dgSingle (x : Tup d_spec_dgSingle.ps) : d_spec_dgSingle.f 0 x = none := by kernel_rfl
theorem l_spec_dgSingle (k : Nat) : LOK Try.prog x_spec_dgSingle k c_spec_dgSingle := LOK.by [(f_spec_dgSingle_0D.E, .block 0 (.loop f_spec_dgSingle_0B))] (by kernel_rfl) (AllOK.cons (f_spec_dgSingle_0ok k) AllOK.nil)
theorem s_spec_dgSingle (k : Nat) : SoundAt Try.prog k 71 d_spec_dgSingle.E := @fn_all Try.prog d_spec_dgSingle x_spec_dgSingle 71 Try.f71 c_spec_dgSingle (by kernel_rfl) (by kernel_rfl) (by kernel_rfl) Try.func71 (by kernel_rfl) (by kernel_rfl) (by kernel_rfl) T_ok g_spec_dgSingle l_spec_dgSingle z_spec_dgSingle h_spec_dgSingle k
/-! function 74 -/
noncomputable def r_impl_singleCauses : List PK := [{ t := Ty.slice (83 : Nat) (Ty.pair (Ty.int IntKind.i64) (Ty.pair (Ty.int IntKind.i64) (Ty.int IntKind.i64))) }]
noncomputable def q_impl_singleCauses : List PK := [{ t := Ty.pair (Ty.int IntKind.i64) (Ty.pair (Ty.int IntKind.i64) (Ty.slice (116 : Nat) (Ty.pair (Ty.int IntKind.i64) (Ty.int IntKind.i64)))), agg := true }, { t := Ty.slice (3 : Nat) (Ty.int IntKind.i64) }, { t := Ty.slice (91 : Nat) (Ty.pair (Ty.int IntKind.i64) (Ty.pair (Ty.int IntKind.i64) (Ty.int IntKind.i64))) }]
noncomputable def to_impl_singleCauses (r : List (Int × Int × Int)) : Tup r_impl_singleCauses × OutD := ((r, ()), none)
noncomputable def of_impl_singleCauses : Tup r_impl_singleCauses × OutD → Option (List (Int × Int × Int))
  | (a, none) => some (a.1)
  | _ => none
theorem to_of_impl_singleCauses : ∀ b r, of_impl_singleCauses b = some r → to_impl_singleCauses r = b := by
  rintro ⟨a, o⟩ r h
  cases o with
  | none => injection h with h; subst h; rfl
  | some _ => cases h
noncomputable def f_impl_singleCauses_0 : Nat → Int → Int → List (Int × Int) → List (Int × Int × Int) → List (Int × Int × Int) → List Int → List (Int × Int × Int) → Int → Int → Option (List (Int × Int × Int))
  | 0, _, _, _, _, _, _, _, _, _ => none
  | k + 1, b1_0, b1_1, b1_2, o2, o3, v1, v2, v13, v14 =>
    if decide (v14 < v13) = true then if (0 : Int) ≤ v14 then if v14 < (↑(List.length o3) : Int) then Option.bind (f_impl_explainsEnds k (b1_0, b1_1, b1_2) [(Prod.fst (List.getD o3 (Int.toNat v14) ((0 : Int), (0 : Int), (0 : Int))), Prod.fst (Prod.snd (List.getD o3 (Int.toNat v14) ((0 : Int), (0 : Int), (0 : Int)))), Prod.snd (Prod.snd (List.getD o3 (Int.toNat v14) ((0 : Int), (0 : Int), (0 : Int)))))] v1 v2) fun z1 => if z1 = true then if List.length o2 + List.length [(Prod.fst (List.getD o3 (Int.toNat v14) ((0 : Int), (0 : Int), (0 : Int))), Prod.fst (Prod.snd (List.getD o3 (Int.toNat v14) ((0 : Int), (0 : Int), (0 : Int)))), Prod.snd (Prod.snd (List.getD o3 (Int.toNat v14) ((0 : Int), (0 : Int), (0 : Int)))))] ≤ (140737488355328 / 24 : Nat) then f_impl_singleCauses_0 k b1_0 b1_1 b1_2 (o2 ++ [(Prod.fst (List.getD o3 (Int.toNat v14) ((0 : Int), (0 : Int), (0 : Int))), Prod.fst (Prod.snd (List.getD o3 (Int.toNat v14) ((0 : Int), (0 : Int), (0 : Int)))), Prod.snd (Prod.snd (List.getD o3 (Int.toNat v14) ((0 : Int), (0 : Int), (0 : Int)))))]) o3 v1 v2 v13 (wrap64 (v14 + (1 : Int))) else none else f_impl_singleCauses_0 k b1_0 b1_1 b1_2 o2 o3 v1 v2 v13 (wrap64 (v14 + (1 : Int))) else none else none else some o2
noncomputable def f_impl_singleCauses_0i : Spec := { objs := [OSh.ro, OSh.box (32 : Nat) [Sh.int IntKind.i64, Sh.int IntKind.i64, Sh.snap (0 : Nat) (Ty.pair (Ty.int IntKind.i64) (Ty.int IntKind.i64))], OSh.row true (83 : Nat) (Ty.pair (Ty.int IntKind.i64) (Ty.pair (Ty.int IntKind.i64) (Ty.int IntKind.i64))), OSh.row true (83 : Nat) (Ty.pair (Ty.int IntKind.i64) (Ty.pair (Ty.int IntKind.i64) (Ty.int IntKind.i64)))], tmps := [((1 : Nat), TSh.at (Sh.snap (0 : Nat) (Ty.int IntKind.i64))), ((2 : Nat), TSh.at (Sh.snap (0 : Nat) (Ty.pair (Ty.int IntKind.i64) (Ty.pair (Ty.int IntKind.i64) (Ty.int IntKind.i64))))), ((3 : Nat), TSh.at (Sh.ptr (1 : Nat) (0 : Nat))), ((7 : Nat), TSh.at (Sh.sl (2 : Nat))), ((12 : Nat), TSh.at (Sh.sl (3 : Nat))), ((13 : Nat), TSh.at (Sh.int IntKind.i64)), ((14 : Nat), TSh.at (Sh.int IntKind.i64))] }
noncomputable def f_impl_singleCauses_0o : Spec := { objs := [OSh.ro, OSh.row true (83 : Nat) (Ty.pair (Ty.int IntKind.i64) (Ty.pair (Ty.int IntKind.i64) (Ty.int IntKind.i64)))], tmps := [((7 : Nat), TSh.at (Sh.sl (1 : Nat)))] }
noncomputable def f_impl_singleCauses_0D : LoopDef (Tup r_impl_singleCauses × OutD) := .plain f_impl_singleCauses_0i f_impl_singleCauses_0o (List (Int × Int × Int)) (fun k x => f_impl_singleCauses_0 k x.1.2.1.1 x.1.2.1.2.1 x.1.2.1.2.2.1 x.1.2.2.1 x.1.2.2.2.1 x.2.1 x.2.2.1 x.2.2.2.2.2.2.1 x.2.2.2.2.2.2.2.1) (fun z => (((), z, ()), ((), ()))) (fun y => (y.1.2.1)) (fun _ => rfl)
noncomputable def f_impl_singleCauses : Nat → Int × Int × List (Int × Int) → List Int → List (Int × Int × Int) → Option (List (Int × Int × Int))
  | 0, _, _, _ => none
  | k + 1, p0, p1, p2 =>
    Option.bind (f_impl_possibleFaults k (Prod.fst p0, Prod.fst (Prod.snd p0), Prod.snd (Prod.snd p0))) fun z0 => Option.bind (f_impl_singleCauses_0 k (Prod.fst p0) (Prod.fst (Prod.snd p0)) (Prod.snd (Prod.snd p0)) [] z0 p1 p2 (↑(List.length z0) : Int) (0 : Int)) fun z2 => some z2
noncomputable def d_impl_singleCauses : FnDef := .of q_impl_singleCauses r_impl_singleCauses (List (Int × Int × Int)) (fun k x => f_impl_singleCauses k x.1 x.2.1 x.2.2.1) to_impl_singleCauses of_impl_singleCauses to_of_impl_singleCauses
noncomputable def c_impl_singleCauses : Code := Try.f74.body.getD .skip
noncomputable def x_impl_singleCauses : Ctx (Tup r_impl_singleCauses × OutD) := { T := T, G := [(65, d_impl_possibleFaults.E), (116, d_impl_explainsEnds.E)], mvs := [], no := 0, n := 30, res := resOf T q_impl_singleCauses r_impl_singleCauses Try.f74.results.toList, loops := [(0, f_impl_singleCauses_0D.E)], regs := [], conds := [] }
theorem g_impl_singleCauses (k : Nat) : EnvOK Try.prog k x_impl_singleCauses.G := (EnvOK.cons (s_impl_possibleFaults k) (EnvOK.cons (s_impl_explainsEnds k) (EnvOK.nil mixed)))
noncomputable def f_impl_singleCauses_0B : Code := (findLoop 0 c_impl_singleCauses).getD .skip
theorem f_impl_singleCauses_0h (k : Nat) (x : f_impl_singleCauses_0i.D) : f_impl_singleCauses_0D.lp (k + 1) x = loopK x_impl_singleCauses f_impl_singleCauses_0D 0 f_impl_singleCauses_0B k x := by kernel_rfl
theorem f_impl_singleCauses_0l (k : Nat) : LOK Try.prog x_impl_singleCauses k f_impl_singleCauses_0B := LOK.by [] (by kernel_rfl) AllOK.nil
theorem f_impl_singleCauses_0z (x : f_impl_singleCauses_0i.D) : f_impl_singleCauses_0D.lp 0 x = none := by kernel_rfl
theorem f_impl_singleCauses_0ok (k : Nat) : EOK Try.prog x_impl_singleCauses k f_impl_singleCauses_0D.E (.block 0 (.loop f_impl_singleCauses_0B)) := loop_ok T_ok g_impl_singleCauses f_impl_singleCauses_0z f_impl_singleCauses_0h f_impl_singleCauses_0l k
theorem h_impl_singleCauses (k : Nat) (x : Tup d_impl_singleCauses.ps) : d_impl_singleCauses.f (k + 1) x = fnK d_impl_singleCauses x_impl_singleCauses c_impl_singleCauses k x := by kernel_rfl
theorem z_impl_singleCauses (x : Tup d_impl_singleCauses.ps) : d_impl_singleCauses.f 0 x = none := by kernel_rfl
theorem l_impl_singleCauses (k : Nat) : LOK Try.prog x_impl_singleCauses k c_impl_singleCauses := LOK.by [(f_impl_singleCauses_0D.E, .block 0 (.loop f_impl_singleCauses_0B))] (by kernel_rfl) (AllOK.cons (f_impl_singleCauses_0ok k) AllOK.nil)
theorem s_impl_singleCauses (k : Nat) : SoundAt Try.prog k 74 d_impl_singleCauses.E := @fn_all Try.prog d_impl_singleCauses x_impl_singleCauses 74 Try.f74 c_impl_singleCauses (by kernel_rfl) (by kernel_rfl) (by kernel_rfl) Try.func74 (by kernel_rfl) (by kernel_rfl) (by kernel_rfl) T_ok g_impl_singleCauses l_impl_singleCauses z_impl_singleCauses h_impl_singleCauses k
/-! function 76 -/
/-! function 77 -/
/-! function 94 -/
/-! function 99 -/
end
end Go.Proofs.Ytgpmbmnfcbippaa.Vs
