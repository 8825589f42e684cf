/- The proof, part 6. -/
import Derived.Test.Ytgpmbmnfcbippaaqbfm4
set_option maxRecDepth 100000
set_option maxHeartbeats 2000000
set_option linter.unusedVariables false
set_option linter.unusedSimpArgs false
namespace Go.Proofs.Ytgpmbmnfcbippaa.Vs
open Go.RowKit
noncomputable section
/-! function 15 -/
noncomputable def r_laws_toBoard : List PK := [{ t := Ty.pair (Ty.int IntKind.i64) (Ty.pair (Ty.int IntKind.i64) (Ty.slice (116 : Nat) (Ty.pair (Ty.int IntKind.i64) (Ty.int IntKind.i64)))), agg := true }]
noncomputable def q_laws_toBoard : List PK := [{ t := Ty.pair (Ty.int IntKind.i64) (Ty.pair (Ty.int IntKind.i64) (Ty.slice (118 : Nat) (Ty.pair (Ty.int IntKind.i64) (Ty.int IntKind.i64)))), agg := true }]
noncomputable def to_laws_toBoard (r : Int × Int × List (Int × Int)) : Tup r_laws_toBoard × OutD := ((r, ()), none)
noncomputable def of_laws_toBoard : Tup r_laws_toBoard × OutD → Option (Int × Int × List (Int × Int))
  | (a, none) => some (a.1)
  | _ => none
theorem to_of_laws_toBoard : ∀ b r, of_laws_toBoard b = some r → to_laws_toBoard r = b := by
  rintro ⟨a, o⟩ r h
  cases o with
  | none => injection h with h; subst h; rfl
  | some _ => cases h
noncomputable def f_laws_toBoard : Nat → Int × Int × List (Int × Int) → Option (Int × Int × List (Int × Int))
  | 0, _ => none
  | k + 1, p0 =>
    Option.bind (f_laws_toCellS k (Prod.snd (Prod.snd p0))) fun z0 => some (Prod.fst p0, Prod.fst (Prod.snd p0), z0)
noncomputable def d_laws_toBoard : FnDef := .of q_laws_toBoard r_laws_toBoard (Int × Int × List (Int × Int)) (fun k x => f_laws_toBoard k x.1) to_laws_toBoard of_laws_toBoard to_of_laws_toBoard
noncomputable def c_laws_toBoard : Code := Try.f15.body.getD .skip
noncomputable def x_laws_toBoard : Ctx (Tup r_laws_toBoard × OutD) := { T := T, G := [(63, d_laws_toCellS.E)], mvs := [], no := 0, n := 15, res := resOf T q_laws_toBoard r_laws_toBoard Try.f15.results.toList, loops := [], regs := [], conds := [] }
theorem g_laws_toBoard (k : Nat) : EnvOK Try.prog k x_laws_toBoard.G := (EnvOK.cons (s_laws_toCellS k) (EnvOK.nil mixed))
theorem h_laws_toBoard (k : Nat) (x : Tup d_laws_toBoard.ps) : d_laws_toBoard.f (k + 1) x = fnK d_laws_toBoard x_laws_toBoard c_laws_toBoard k x := by kernel_rfl
theorem z_laws_toBoard (x : Tup d_laws_toBoard.ps) : d_laws_toBoard.f 0 x = none := by kernel_rfl
theorem l_laws_toBoard (k : Nat) : LOK Try.prog x_laws_toBoard k c_laws_toBoard := LOK.by [] (by kernel_rfl) AllOK.nil
theorem s_laws_toBoard (k : Nat) : SoundAt Try.prog k 15 d_laws_toBoard.E := @fn_all Try.prog d_laws_toBoard x_laws_toBoard 15 Try.f15 c_laws_toBoard (by kernel_rfl) (by kernel_rfl) (by kernel_rfl) Try.func15 (by kernel_rfl) (by kernel_rfl) (by kernel_rfl) T_ok g_laws_toBoard l_laws_toBoard z_laws_toBoard h_laws_toBoard k
/-! function 19 -/
noncomputable def r_laws_eqBoard : List PK := [{ t := Ty.bool }]
noncomputable def q_laws_eqBoard : List PK := [{ t := Ty.pair (Ty.int IntKind.i64) (Ty.pair (Ty.int IntKind.i64) (Ty.slice (116 : Nat) (Ty.pair (Ty.int IntKind.i64) (Ty.int IntKind.i64)))), agg := true }, { t := Ty.pair (Ty.int IntKind.i64) (Ty.pair (Ty.int IntKind.i64) (Ty.slice (116 : Nat) (Ty.pair (Ty.int IntKind.i64) (Ty.int IntKind.i64)))), agg := true }]
noncomputable def to_laws_eqBoard (r : Bool) : Tup r_laws_eqBoard × OutD := ((r, ()), none)
noncomputable def of_laws_eqBoard : Tup r_laws_eqBoard × OutD → Option (Bool)
  | (a, none) => some (a.1)
  | _ => none
theorem to_of_laws_eqBoard : ∀ b r, of_laws_eqBoard b = some r → to_laws_eqBoard r = b := by
  rintro ⟨a, o⟩ r h
  cases o with
  | none => injection h with h; subst h; rfl
  | some _ => cases h
noncomputable def f_laws_eqBoard : Nat → Int × Int × List (Int × Int) → Int × Int × List (Int × Int) → Option Bool
  | 0, _, _ => none
  | k + 1, p0, p1 =>
    if decide (Prod.fst p0 ≠ Prod.fst p1) = true then some false else if decide (Prod.fst (Prod.snd p0) ≠ Prod.fst (Prod.snd p1)) = true then some false else Option.bind (f_laws_eqCellS k (Prod.snd (Prod.snd p0)) (Prod.snd (Prod.snd p1))) fun z0 => if (!z0) = true then some false else some true
noncomputable def d_laws_eqBoard : FnDef := .of q_laws_eqBoard r_laws_eqBoard (Bool) (fun k x => f_laws_eqBoard k x.1 x.2.1) to_laws_eqBoard of_laws_eqBoard to_of_laws_eqBoard
noncomputable def c_laws_eqBoard : Code := Try.f19.body.getD .skip
noncomputable def x_laws_eqBoard : Ctx (Tup r_laws_eqBoard × OutD) := { T := T, G := [(68, d_laws_eqCellS.E)], mvs := [], no := 0, n := 21, res := resOf T q_laws_eqBoard r_laws_eqBoard Try.f19.results.toList, loops := [], regs := [], conds := [] }
theorem g_laws_eqBoard (k : Nat) : EnvOK Try.prog k x_laws_eqBoard.G := (EnvOK.cons (s_laws_eqCellS k) (EnvOK.nil mixed))
theorem h_laws_eqBoard (k : Nat) (x : Tup d_laws_eqBoard.ps) : d_laws_eqBoard.f (k + 1) x = fnK d_laws_eqBoard x_laws_eqBoard c_laws_eqBoard k x := by kernel_rfl
theorem z_laws_eqBoard (x : Tup d_laws_eqBoard.ps) : d_laws_eqBoard.f 0 x = none := by kernel_rfl
theorem l_laws_eqBoard (k : Nat) : LOK Try.prog x_laws_eqBoard k c_laws_eqBoard := LOK.by [] (by kernel_rfl) AllOK.nil
theorem s_laws_eqBoard (k : Nat) : SoundAt Try.prog k 19 d_laws_eqBoard.E := @fn_all Try.prog d_laws_eqBoard x_laws_eqBoard 19 Try.f19 c_laws_eqBoard (by kernel_rfl) (by kernel_rfl) (by kernel_rfl) Try.func19 (by kernel_rfl) (by kernel_rfl) (by kernel_rfl) T_ok g_laws_eqBoard l_laws_eqBoard z_laws_eqBoard h_laws_eqBoard k
/-! function 47 -/
/-! function 56 -/
/-! function 83 -/
/-! function 93 -/
/-! function 98 -/
noncomputable def r_impl_classesBy : List PK := [{ t := Ty.slice (25 : Nat) (Ty.slice (3 : Nat) (Ty.int IntKind.i64)) }]
noncomputable def q_impl_classesBy : List PK := [{ t := Ty.slice (59 : Nat) (Ty.slice (45 : Nat) (Ty.slice (91 : Nat) (Ty.pair (Ty.int IntKind.i64) (Ty.pair (Ty.int IntKind.i64) (Ty.int IntKind.i64))))) }, { t := Ty.slice (3 : Nat) (Ty.int IntKind.i64) }]
noncomputable def to_impl_classesBy (r : List (List Int)) : Tup r_impl_classesBy × OutD := ((r, ()), none)
noncomputable def of_impl_classesBy : Tup r_impl_classesBy × OutD → Option (List (List Int))
  | (a, none) => some (a.1)
  | _ => none
theorem to_of_impl_classesBy : ∀ b r, of_impl_classesBy b = some r → to_impl_classesBy r = b := by
  rintro ⟨a, o⟩ r h
  cases o with
  | none => injection h with h; subst h; rfl
  | some _ => cases h
noncomputable def f_impl_classesBy_2 : Nat → List (List Int) → List (List (List (Int × Int × Int))) → List Int → Int → Int → Int → Int → Option (List (List Int) × List (List (List (Int × Int × Int))) × List Int × Int × Int × Int × Int)
  | 0, _, _, _, _, _, _, _ => none
  | k + 1, o1, v0, v1, v6, v7, v10, v11 =>
    if decide (v7 < (↑(List.length o1) : Int)) = true then if (0 : Int) ≤ v7 then if v7 < (↑(List.length o1) : Int) then if (0 : Int) < (↑(List.length (List.getD o1 (Int.toNat v7) [])) : Int) then if (0 : Int) ≤ wrap64 (List.getD (List.getD o1 (Int.toNat v7) []) (Int.toNat (0 : Int)) (0 : Int) + (1 : Int)) then if wrap64 (List.getD (List.getD o1 (Int.toNat v7) []) (Int.toNat (0 : Int)) (0 : Int) + (1 : Int)) < (↑(List.length v0) : Int) then if (0 : Int) ≤ v6 then if v6 < (↑(List.length v0) : Int) then Option.bind (f_impl_alikeBy k (List.getD v0 (Int.toNat (wrap64 (List.getD (List.getD o1 (Int.toNat v7) []) (Int.toNat (0 : Int)) (0 : Int) + (1 : Int)))) []) (List.getD v0 (Int.toNat v6) []) v1) fun z0 => if (!z0) = true then f_impl_classesBy_2 k o1 v0 v1 v6 (wrap64 (v7 + (1 : Int))) v10 v11 else some (o1, v0, v1, v6, v7, v10, v11) else none else none else none else none else none else none else none else some (o1, v0, v1, v6, v7, v10, v11)
noncomputable def f_impl_classesBy_2i : Spec := { objs := [OSh.ro, OSh.row true (25 : Nat) (Ty.slice (3 : Nat) (Ty.int IntKind.i64))], tmps := [((0 : Nat), TSh.at (Sh.snap (0 : Nat) (Ty.slice (45 : Nat) (Ty.slice (91 : Nat) (Ty.pair (Ty.int IntKind.i64) (Ty.pair (Ty.int IntKind.i64) (Ty.int IntKind.i64))))))), ((1 : Nat), TSh.at (Sh.snap (0 : Nat) (Ty.int IntKind.i64))), ((5 : Nat), TSh.at (Sh.sl (1 : Nat))), ((6 : Nat), TSh.at (Sh.int IntKind.i64)), ((7 : Nat), TSh.at (Sh.int IntKind.i64)), ((10 : Nat), TSh.at (Sh.int IntKind.i64)), ((11 : Nat), TSh.at (Sh.int IntKind.i64))] }
noncomputable def f_impl_classesBy_2o : Spec := { objs := [OSh.ro, OSh.row true (25 : Nat) (Ty.slice (3 : Nat) (Ty.int IntKind.i64))], tmps := [((0 : Nat), TSh.at (Sh.snap (0 : Nat) (Ty.slice (45 : Nat) (Ty.slice (91 : Nat) (Ty.pair (Ty.int IntKind.i64) (Ty.pair (Ty.int IntKind.i64) (Ty.int IntKind.i64))))))), ((1 : Nat), TSh.at (Sh.snap (0 : Nat) (Ty.int IntKind.i64))), ((5 : Nat), TSh.at (Sh.sl (1 : Nat))), ((6 : Nat), TSh.at (Sh.int IntKind.i64)), ((7 : Nat), TSh.at (Sh.int IntKind.i64)), ((10 : Nat), TSh.at (Sh.int IntKind.i64)), ((11 : Nat), TSh.at (Sh.int IntKind.i64))] }
noncomputable def f_impl_classesBy_2D : LoopDef (Tup r_impl_classesBy × OutD) := .plain f_impl_classesBy_2i f_impl_classesBy_2o (List (List Int) × List (List (List (Int × Int × Int))) × List Int × Int × Int × Int × Int) (fun k x => f_impl_classesBy_2 k x.1.2.1 x.2.1 x.2.2.1 x.2.2.2.2.1 x.2.2.2.2.2.1 x.2.2.2.2.2.2.1 x.2.2.2.2.2.2.2.1) (fun z => (((), z.1, ()), (z.2.1, z.2.2.1, (), z.2.2.2.1, z.2.2.2.2.1, z.2.2.2.2.2.1, z.2.2.2.2.2.2, ()))) (fun y => (y.1.2.1, y.2.1, y.2.2.1, y.2.2.2.2.1, y.2.2.2.2.2.1, y.2.2.2.2.2.2.1, y.2.2.2.2.2.2.2.1)) (fun _ => rfl)
noncomputable def f_impl_classesBy_0 : Nat → List (List Int) → List (List (List (Int × Int × Int))) → List Int → Int → Int → Option (List (List Int))
  | 0, _, _, _, _, _ => none
  | k + 1, o1, v0, v1, v10, v11 =>
    if decide (v11 < v10) = true then Option.bind (f_impl_classesBy_2 k o1 v0 v1 v11 (0 : Int) v10 v11) fun z1 => if decide (Prod.fst (Prod.snd (Prod.snd (Prod.snd (Prod.snd z1)))) = (↑(List.length (Prod.fst z1)) : Int)) = true then if List.length (Prod.fst z1) + (1 : Nat) ≤ (140737488355328 / 24 : Nat) then if (0 : Int) ≤ Prod.fst (Prod.snd (Prod.snd (Prod.snd (Prod.snd z1)))) then if Prod.fst (Prod.snd (Prod.snd (Prod.snd (Prod.snd z1)))) < (↑(List.length (Prod.fst z1 ++ [[]])) : Int) then if List.length (List.getD (Prod.fst z1 ++ [[]]) (Int.toNat (Prod.fst (Prod.snd (Prod.snd (Prod.snd (Prod.snd z1)))))) []) + List.length [wrap64 (Prod.fst (Prod.snd (Prod.snd (Prod.snd z1))) - (1 : Int))] ≤ (140737488355328 / 8 : Nat) then if (0 : Int) ≤ Prod.fst (Prod.snd (Prod.snd (Prod.snd (Prod.snd z1)))) then if Prod.fst (Prod.snd (Prod.snd (Prod.snd (Prod.snd z1)))) < (↑(List.length (Prod.fst z1 ++ [[]])) : Int) then if Prod.fst (Prod.snd (Prod.snd (Prod.snd (Prod.snd z1)))) = Prod.fst (Prod.snd (Prod.snd (Prod.snd (Prod.snd z1)))) then f_impl_classesBy_0 k (List.set (Prod.fst z1 ++ [[]]) (Int.toNat (Prod.fst (Prod.snd (Prod.snd (Prod.snd (Prod.snd z1)))))) (List.getD (Prod.fst z1 ++ [[]]) (Int.toNat (Prod.fst (Prod.snd (Prod.snd (Prod.snd (Prod.snd z1)))))) [] ++ [wrap64 (Prod.fst (Prod.snd (Prod.snd (Prod.snd z1))) - (1 : Int))])) (Prod.fst (Prod.snd z1)) (Prod.fst (Prod.snd (Prod.snd z1))) (Prod.fst (Prod.snd (Prod.snd (Prod.snd (Prod.snd (Prod.snd z1)))))) (wrap64 (Prod.snd (Prod.snd (Prod.snd (Prod.snd (Prod.snd (Prod.snd z1))))) + (1 : Int))) else none else none else none else none else none else none else none else if (0 : Int) ≤ Prod.fst (Prod.snd (Prod.snd (Prod.snd (Prod.snd z1)))) then if Prod.fst (Prod.snd (Prod.snd (Prod.snd (Prod.snd z1)))) < (↑(List.length (Prod.fst z1)) : Int) then if List.length (List.getD (Prod.fst z1) (Int.toNat (Prod.fst (Prod.snd (Prod.snd (Prod.snd (Prod.snd z1)))))) []) + List.length [wrap64 (Prod.fst (Prod.snd (Prod.snd (Prod.snd z1))) - (1 : Int))] ≤ (140737488355328 / 8 : Nat) then if (0 : Int) ≤ Prod.fst (Prod.snd (Prod.snd (Prod.snd (Prod.snd z1)))) then if Prod.fst (Prod.snd (Prod.snd (Prod.snd (Prod.snd z1)))) < (↑(List.length (Prod.fst z1)) : Int) then if Prod.fst (Prod.snd (Prod.snd (Prod.snd (Prod.snd z1)))) = Prod.fst (Prod.snd (Prod.snd (Prod.snd (Prod.snd z1)))) then f_impl_classesBy_0 k (List.set (Prod.fst z1) (Int.toNat (Prod.fst (Prod.snd (Prod.snd (Prod.snd (Prod.snd z1)))))) (List.getD (Prod.fst z1) (Int.toNat (Prod.fst (Prod.snd (Prod.snd (Prod.snd (Prod.snd z1)))))) [] ++ [wrap64 (Prod.fst (Prod.snd (Prod.snd (Prod.snd z1))) - (1 : Int))])) (Prod.fst (Prod.snd z1)) (Prod.fst (Prod.snd (Prod.snd z1))) (Prod.fst (Prod.snd (Prod.snd (Prod.snd (Prod.snd (Prod.snd z1)))))) (wrap64 (Prod.snd (Prod.snd (Prod.snd (Prod.snd (Prod.snd (Prod.snd z1))))) + (1 : Int))) else none else none else none else none else none else none else some o1
noncomputable def f_impl_classesBy_0i : Spec := { objs := [OSh.ro, OSh.row true (25 : Nat) (Ty.slice (3 : Nat) (Ty.int IntKind.i64))], tmps := [((0 : Nat), TSh.at (Sh.snap (0 : Nat) (Ty.slice (45 : Nat) (Ty.slice (91 : Nat) (Ty.pair (Ty.int IntKind.i64) (Ty.pair (Ty.int IntKind.i64) (Ty.int IntKind.i64))))))), ((1 : Nat), TSh.at (Sh.snap (0 : Nat) (Ty.int IntKind.i64))), ((5 : Nat), TSh.at (Sh.sl (1 : Nat))), ((10 : Nat), TSh.at (Sh.int IntKind.i64)), ((11 : Nat), TSh.at (Sh.int IntKind.i64))] }
noncomputable def f_impl_classesBy_0o : Spec := { objs := [OSh.ro, OSh.row true (25 : Nat) (Ty.slice (3 : Nat) (Ty.int IntKind.i64))], tmps := [((5 : Nat), TSh.at (Sh.sl (1 : Nat)))] }
noncomputable def f_impl_classesBy_0D : LoopDef (Tup r_impl_classesBy × OutD) := .plain f_impl_classesBy_0i f_impl_classesBy_0o (List (List Int)) (fun k x => f_impl_classesBy_0 k x.1.2.1 x.2.1 x.2.2.1 x.2.2.2.2.1 x.2.2.2.2.2.1) (fun z => (((), z, ()), ((), ()))) (fun y => (y.1.2.1)) (fun _ => rfl)
noncomputable def f_impl_classesBy : Nat → List (List (List (Int × Int × Int))) → List Int → Option (List (List Int))
  | 0, _, _ => none
  | k + 1, p0, p1 =>
    Option.bind (f_impl_classesBy_0 k [] p0 p1 (↑(List.length p0) : Int) (0 : Int)) fun z2 => some z2
noncomputable def d_impl_classesBy : FnDef := .of q_impl_classesBy r_impl_classesBy (List (List Int)) (fun k x => f_impl_classesBy k x.1 x.2.1) to_impl_classesBy of_impl_classesBy to_of_impl_classesBy
noncomputable def c_impl_classesBy : Code := Try.f98.body.getD .skip
noncomputable def x_impl_classesBy : Ctx (Tup r_impl_classesBy × OutD) := { T := T, G := [(124, d_impl_alikeBy.E)], mvs := [], no := 0, n := 59, res := resOf T q_impl_classesBy r_impl_classesBy Try.f98.results.toList, loops := [(2, f_impl_classesBy_2D.E), (0, f_impl_classesBy_0D.E)], regs := [], conds := [] }
theorem g_impl_classesBy (k : Nat) : EnvOK Try.prog k x_impl_classesBy.G := (EnvOK.cons (s_impl_alikeBy k) (EnvOK.nil mixed))
noncomputable def f_impl_classesBy_2B : Code := (findLoop 2 c_impl_classesBy).getD .skip
theorem f_impl_classesBy_2h (k : Nat) (x : f_impl_classesBy_2i.D) : f_impl_classesBy_2D.lp (k + 1) x = loopK x_impl_classesBy f_impl_classesBy_2D 2 f_impl_classesBy_2B k x := by kernel_rfl
theorem f_impl_classesBy_2l (k : Nat) : LOK Try.prog x_impl_classesBy k f_impl_classesBy_2B := LOK.by [] (by kernel_rfl) AllOK.nil
theorem f_impl_classesBy_2z (x : f_impl_classesBy_2i.D) : f_impl_classesBy_2D.lp 0 x = none := by kernel_rfl
theorem f_impl_classesBy_2ok (k : Nat) : EOK Try.prog x_impl_classesBy k f_impl_classesBy_2D.E (.block 2 (.loop f_impl_classesBy_2B)) := loop_ok T_ok g_impl_classesBy f_impl_classesBy_2z f_impl_classesBy_2h f_impl_classesBy_2l k
noncomputable def f_impl_classesBy_0B : Code := (findLoop 0 c_impl_classesBy).getD .skip
theorem f_impl_classesBy_0h (k : Nat) (x : f_impl_classesBy_0i.D) : f_impl_classesBy_0D.lp (k + 1) x = loopK x_impl_classesBy f_impl_classesBy_0D 0 f_impl_classesBy_0B k x := by kernel_rfl
theorem f_impl_classesBy_0l (k : Nat) : LOK Try.prog x_impl_classesBy k f_impl_classesBy_0B := LOK.by [(f_impl_classesBy_2D.E, .block 2 (.loop f_impl_classesBy_2B))] (by kernel_rfl) (AllOK.cons (f_impl_classesBy_2ok k) AllOK.nil)
theorem f_impl_classesBy_0z (x : f_impl_classesBy_0i.D) : f_impl_classesBy_0D.lp 0 x = none := by kernel_rfl
theorem f_impl_classesBy_0ok (k : Nat) : EOK Try.prog x_impl_classesBy k f_impl_classesBy_0D.E (.block 0 (.loop f_impl_classesBy_0B)) := loop_ok T_ok g_impl_classesBy f_impl_classesBy_0z f_impl_classesBy_0h f_impl_classesBy_0l k
theorem h_impl_classesBy (k : Nat) (x : Tup d_impl_classesBy.ps) : d_impl_classesBy.f (k + 1) x = fnK d_impl_classesBy x_impl_classesBy c_impl_classesBy k x := by kernel_rfl
theorem z_impl_classesBy (x : Tup d_impl_classesBy.ps) : d_impl_classesBy.f 0 x = none := by kernel_rfl
theorem l_impl_classesBy (k : Nat) : LOK Try.prog x_impl_classesBy k c_impl_classesBy := LOK.by [(f_impl_classesBy_0D.E, .block 0 (.loop f_impl_classesBy_0B))] (by kernel_rfl) (AllOK.cons (f_impl_classesBy_0ok k) AllOK.nil)
theorem s_impl_classesBy (k : Nat) : SoundAt Try.prog k 98 d_impl_classesBy.E := @fn_all Try.prog d_impl_classesBy x_impl_classesBy 98 Try.f98 c_impl_classesBy (by kernel_rfl) (by kernel_rfl) (by kernel_rfl) Try.func98 (by kernel_rfl) (by kernel_rfl) (by kernel_rfl) T_ok g_impl_classesBy l_impl_classesBy z_impl_classesBy h_impl_classesBy k
/-! function 103 -/
noncomputable def r_spec_boGood : List PK := [{ t := Ty.bool }]
noncomputable def q_spec_boGood : List PK := [{ t := Ty.pair (Ty.int IntKind.i64) (Ty.pair (Ty.int IntKind.i64) (Ty.slice (116 : Nat) (Ty.pair (Ty.int IntKind.i64) (Ty.int IntKind.i64)))), agg := true }]
noncomputable def to_spec_boGood (r : Bool) : Tup r_spec_boGood × OutD := ((r, ()), none)
noncomputable def of_spec_boGood : Tup r_spec_boGood × OutD → Option (Bool)
  | (a, none) => some (a.1)
  | _ => none
theorem to_of_spec_boGood : ∀ b r, of_spec_boGood b = some r → to_spec_boGood r = b := by
  rintro ⟨a, o⟩ r h
  cases o with
  | none => injection h with h; subst h; rfl
  | some _ => cases h
noncomputable def f_spec_boGood_0 : Nat → List (Int × Int) → Int → Int → Option (LR Unit Bool)
  | 0, _, _, _ => none
  | k + 1, v27, v28, v29 =>
    if decide (v29 < v28) = true then if (0 : Int) ≤ v29 then if v29 < (↑(List.length v27) : Int) then Option.bind (f_spec_paGood k (Prod.fst (List.getD v27 (Int.toNat v29) ((0 : Int), (0 : Int))), Prod.snd (List.getD v27 (Int.toNat v29) ((0 : Int), (0 : Int))))) fun z2 => if (!z2) = true then some (LR.ret false) else f_spec_boGood_0 k v27 v28 (wrap64 (v29 + (1 : Int))) else none else none else some (LR.go ())
noncomputable def f_spec_boGood_0i : Spec := { objs := [OSh.ro], tmps := [((27 : Nat), TSh.at (Sh.snap (0 : Nat) (Ty.pair (Ty.int IntKind.i64) (Ty.int IntKind.i64)))), ((28 : Nat), TSh.at (Sh.int IntKind.i64)), ((29 : Nat), TSh.at (Sh.int IntKind.i64))] }
noncomputable def f_spec_boGood_0o : Spec := { objs := [OSh.ro], tmps := [] }
noncomputable def f_spec_boGood_0D : LoopDef (Tup r_spec_boGood × OutD) := .rets f_spec_boGood_0i f_spec_boGood_0o (Unit) (Bool) (fun k x => f_spec_boGood_0 k x.2.1 x.2.2.1 x.2.2.2.1) (fun z => (((), ()), (()))) (fun y => ()) (fun _ => rfl) to_spec_boGood of_spec_boGood to_of_spec_boGood
noncomputable def f_spec_boGood : Nat → Int × Int × List (Int × Int) → Option Bool
  | 0, _ => none
  | k + 1, p0 =>
    Option.bind (f_spec_l1In k (Prod.fst p0) (1 : Int) (10 : Int)) fun z0 => if (!z0) = true then some false else Option.bind (f_spec_l1In k (Prod.fst (Prod.snd p0)) (1 : Int) (9 : Int)) fun z1 => if (!z1) = true then some false else if decide ((↑(List.length (Prod.snd (Prod.snd p0))) : Int) ≠ wrap64 (Prod.fst p0 * Prod.fst (Prod.snd p0))) = true then some false else Option.bind (f_spec_boGood_0 k (Prod.snd (Prod.snd p0)) (↑(List.length (Prod.snd (Prod.snd p0))) : Int) (0 : Int)) fun z3 => LR.on z3 (fun y3 => some true) fun r3 => some r3
noncomputable def d_spec_boGood : FnDef := .of q_spec_boGood r_spec_boGood (Bool) (fun k x => f_spec_boGood k x.1) to_spec_boGood of_spec_boGood to_of_spec_boGood
noncomputable def c_spec_boGood : Code := Try.f103.body.getD .skip
noncomputable def x_spec_boGood : Ctx (Tup r_spec_boGood × OutD) := { T := T, G := [(114, d_spec_l1In.E), (126, d_spec_paGood.E)], mvs := [], no := 0, n := 37, res := resOf T q_spec_boGood r_spec_boGood Try.f103.results.toList, loops := [(0, f_spec_boGood_0D.E)], regs := [], conds := [] }
theorem g_spec_boGood (k : Nat) : EnvOK Try.prog k x_spec_boGood.G := (EnvOK.cons (s_spec_l1In k) (EnvOK.cons (s_spec_paGood k) (EnvOK.nil mixed)))
noncomputable def f_spec_boGood_0B : Code := (findLoop 0 c_spec_boGood).getD .skip
theorem f_spec_boGood_0h (k : Nat) (x : f_spec_boGood_0i.D) : f_spec_boGood_0D.lp (k + 1) x = loopK x_spec_boGood f_spec_boGood_0D 0 f_spec_boGood_0B k x := by kernel_rfl
theorem f_spec_boGood_0l (k : Nat) : LOK Try.prog x_spec_boGood k f_spec_boGood_0B := LOK.by [] (by kernel_rfl) AllOK.nil
theorem f_spec_boGood_0z (x : f_spec_boGood_0i.D) : f_spec_boGood_0D.lp 0 x = none := by kernel_rfl
theorem f_spec_boGood_0ok (k : Nat) : EOK Try.prog x_spec_boGood k f_spec_boGood_0D.E (.block 0 (.loop f_spec_boGood_0B)) := loop_ok T_ok g_spec_boGood f_spec_boGood_0z f_spec_boGood_0h f_spec_boGood_0l k
theorem h_spec_boGood (k : Nat) (x : Tup d_spec_boGood.ps) : d_spec_boGood.f (k + 1) x = fnK d_spec_boGood x_spec_boGood c_spec_boGood k x := by kernel_rfl
theorem z_spec_boGood (x : Tup d_spec_boGood.ps) : d_spec_boGood.f 0 x = none := by kernel_rfl
theorem l_spec_boGood (k : Nat) : LOK Try.prog x_spec_boGood k c_spec_boGood := LOK.by [(f_spec_boGood_0D.E, .block 0 (.loop f_spec_boGood_0B))] (by kernel_rfl) (AllOK.cons (f_spec_boGood_0ok k) AllOK.nil)
theorem s_spec_boGood (k : Nat) : SoundAt Try.prog k 103 d_spec_boGood.E := @fn_all Try.prog d_spec_boGood x_spec_boGood 103 Try.f103 c_spec_boGood (by kernel_rfl) (by kernel_rfl) (by kernel_rfl) Try.func103 (by kernel_rfl) (by kernel_rfl) (by kernel_rfl) T_ok g_spec_boGood l_spec_boGood z_spec_boGood h_spec_boGood k
/-! function 105 -/
noncomputable def r_spec_faPossible : List PK := [{ t := Ty.slice (83 : Nat) (Ty.pair (Ty.int IntKind.i64) (Ty.pair (Ty.int IntKind.i64) (Ty.int IntKind.i64))) }]
noncomputable def q_spec_faPossible : List PK := [{ t := Ty.pair (Ty.int IntKind.i64) (Ty.pair (Ty.int IntKind.i64) (Ty.slice (116 : Nat) (Ty.pair (Ty.int IntKind.i64) (Ty.int IntKind.i64)))), agg := true }]
noncomputable def to_spec_faPossible (r : List (Int × Int × Int)) : Tup r_spec_faPossible × OutD := ((r, ()), none)
noncomputable def of_spec_faPossible : Tup r_spec_faPossible × OutD → Option (List (Int × Int × Int))
  | (a, none) => some (a.1)
  | _ => none
theorem to_of_spec_faPossible : ∀ b r, of_spec_faPossible b = some r → to_spec_faPossible r = b := by
  rintro ⟨a, o⟩ r h
  cases o with
  | none => injection h with h; subst h; rfl
  | some _ => cases h
noncomputable def f_spec_faPossible_2 : Nat → Int → Int → List (Int × Int) → List (Int × Int × Int) → Int → Int → Int → Int → List (Int × Int) → Int → Int → Option (Int × Int × List (Int × Int) × List (Int × Int × Int) × List (Int × Int) × Int × Int)
  | 0, _, _, _, _, _, _, _, _, _, _, _ => none
  | k + 1, b1_0, b1_1, b1_2, o2, b3_0, b3_1, v4, v6, v8, v9, v10 =>
    if decide (v6 ≤ (3 : Int)) = true then Option.bind (f_spec_faFits k (b3_0, b3_1) v6) fun z0 => if z0 = true then if b1_1 = (0 : Int) then none else if b1_1 = (0 : Int) then none else if List.length o2 + List.length [(v6, wrap64 (Int.tdiv v4 b1_1), Int.tmod v4 b1_1)] ≤ (140737488355328 / 24 : Nat) then f_spec_faPossible_2 k b1_0 b1_1 b1_2 (o2 ++ [(v6, wrap64 (Int.tdiv v4 b1_1), Int.tmod v4 b1_1)]) b3_0 b3_1 v4 (wrap64 (v6 + (1 : Int))) v8 v9 v10 else none else f_spec_faPossible_2 k b1_0 b1_1 b1_2 o2 b3_0 b3_1 v4 (wrap64 (v6 + (1 : Int))) v8 v9 v10 else some (b1_0, b1_1, b1_2, o2, v8, v9, v10)
noncomputable def f_spec_faPossible_2i : Spec := { objs := [OSh.ro, OSh.box (32 : Nat) [Sh.int IntKind.i64, Sh.int IntKind.i64, Sh.snap (0 : Nat) (Ty.pair (Ty.int IntKind.i64) (Ty.int IntKind.i64))], OSh.row true (83 : Nat) (Ty.pair (Ty.int IntKind.i64) (Ty.pair (Ty.int IntKind.i64) (Ty.int IntKind.i64))), OSh.box (116 : Nat) [Sh.int IntKind.i64, Sh.int IntKind.i64]], tmps := [((1 : Nat), TSh.at (Sh.ptr (1 : Nat) (0 : Nat))), ((3 : Nat), TSh.at (Sh.sl (2 : Nat))), ((4 : Nat), TSh.at (Sh.int IntKind.i64)), ((5 : Nat), TSh.at (Sh.ptr (3 : Nat) (0 : Nat))), ((6 : Nat), TSh.at (Sh.int IntKind.i64)), ((8 : Nat), TSh.at (Sh.snap (0 : Nat) (Ty.pair (Ty.int IntKind.i64) (Ty.int IntKind.i64)))), ((9 : Nat), TSh.at (Sh.int IntKind.i64)), ((10 : Nat), TSh.at (Sh.int IntKind.i64))] }
noncomputable def f_spec_faPossible_2o : Spec := { objs := [OSh.ro, OSh.box (32 : Nat) [Sh.int IntKind.i64, Sh.int IntKind.i64, Sh.snap (0 : Nat) (Ty.pair (Ty.int IntKind.i64) (Ty.int IntKind.i64))], OSh.row true (83 : Nat) (Ty.pair (Ty.int IntKind.i64) (Ty.pair (Ty.int IntKind.i64) (Ty.int IntKind.i64)))], tmps := [((1 : Nat), TSh.at (Sh.ptr (1 : Nat) (0 : Nat))), ((3 : Nat), TSh.at (Sh.sl (2 : Nat))), ((8 : Nat), TSh.at (Sh.snap (0 : Nat) (Ty.pair (Ty.int IntKind.i64) (Ty.int IntKind.i64)))), ((9 : Nat), TSh.at (Sh.int IntKind.i64)), ((10 : Nat), TSh.at (Sh.int IntKind.i64))] }
noncomputable def f_spec_faPossible_2D : LoopDef (Tup r_spec_faPossible × OutD) := .plain f_spec_faPossible_2i f_spec_faPossible_2o (Int × Int × List (Int × Int) × List (Int × Int × Int) × List (Int × Int) × Int × Int) (fun k x => f_spec_faPossible_2 k x.1.2.1.1 x.1.2.1.2.1 x.1.2.1.2.2.1 x.1.2.2.1 x.1.2.2.2.1.1 x.1.2.2.2.1.2.1 x.2.2.2.1 x.2.2.2.2.2.1 x.2.2.2.2.2.2.1 x.2.2.2.2.2.2.2.1 x.2.2.2.2.2.2.2.2.1) (fun z => (((), (z.1, z.2.1, z.2.2.1, ()), z.2.2.2.1, ()), ((), (), z.2.2.2.2.1, z.2.2.2.2.2.1, z.2.2.2.2.2.2, ()))) (fun y => (y.1.2.1.1, y.1.2.1.2.1, y.1.2.1.2.2.1, y.1.2.2.1, y.2.2.2.1, y.2.2.2.2.1, y.2.2.2.2.2.1)) (fun _ => rfl)
noncomputable def f_spec_faPossible_0 : Nat → Int → Int → List (Int × Int) → List (Int × Int × Int) → List (Int × Int) → Int → Int → Option (List (Int × Int × Int))
  | 0, _, _, _, _, _, _, _ => none
  | k + 1, b1_0, b1_1, b1_2, o2, v8, v9, v10 =>
    if decide (v10 < v9) = true then if (0 : Int) ≤ v10 then if v10 < (↑(List.length v8) : Int) then Option.bind (f_spec_faPossible_2 k b1_0 b1_1 b1_2 o2 (Prod.fst (List.getD v8 (Int.toNat v10) ((0 : Int), (0 : Int)))) (Prod.snd (List.getD v8 (Int.toNat v10) ((0 : Int), (0 : Int)))) v10 (1 : Int) v8 v9 v10) fun z1 => f_spec_faPossible_0 k (Prod.fst z1) (Prod.fst (Prod.snd z1)) (Prod.fst (Prod.snd (Prod.snd z1))) (Prod.fst (Prod.snd (Prod.snd (Prod.snd z1)))) (Prod.fst (Prod.snd (Prod.snd (Prod.snd (Prod.snd z1))))) (Prod.fst (Prod.snd (Prod.snd (Prod.snd (Prod.snd (Prod.snd z1)))))) (wrap64 (Prod.snd (Prod.snd (Prod.snd (Prod.snd (Prod.snd (Prod.snd z1))))) + (1 : Int))) else none else none else some o2
noncomputable def f_spec_faPossible_0i : Spec := { objs := [OSh.ro, OSh.box (32 : Nat) [Sh.int IntKind.i64, Sh.int IntKind.i64, Sh.snap (0 : Nat) (Ty.pair (Ty.int IntKind.i64) (Ty.int IntKind.i64))], OSh.row true (83 : Nat) (Ty.pair (Ty.int IntKind.i64) (Ty.pair (Ty.int IntKind.i64) (Ty.int IntKind.i64)))], tmps := [((1 : Nat), TSh.at (Sh.ptr (1 : Nat) (0 : Nat))), ((3 : Nat), TSh.at (Sh.sl (2 : Nat))), ((8 : Nat), TSh.at (Sh.snap (0 : Nat) (Ty.pair (Ty.int IntKind.i64) (Ty.int IntKind.i64)))), ((9 : Nat), TSh.at (Sh.int IntKind.i64)), ((10 : Nat), TSh.at (Sh.int IntKind.i64))] }
noncomputable def f_spec_faPossible_0o : Spec := { objs := [OSh.ro, OSh.row true (83 : Nat) (Ty.pair (Ty.int IntKind.i64) (Ty.pair (Ty.int IntKind.i64) (Ty.int IntKind.i64)))], tmps := [((3 : Nat), TSh.at (Sh.sl (1 : Nat)))] }
noncomputable def f_spec_faPossible_0D : LoopDef (Tup r_spec_faPossible × OutD) := .plain f_spec_faPossible_0i f_spec_faPossible_0o (List (Int × Int × Int)) (fun k x => f_spec_faPossible_0 k x.1.2.1.1 x.1.2.1.2.1 x.1.2.1.2.2.1 x.1.2.2.1 x.2.2.2.1 x.2.2.2.2.1 x.2.2.2.2.2.1) (fun z => (((), z, ()), ((), ()))) (fun y => (y.1.2.1)) (fun _ => rfl)
noncomputable def f_spec_faPossible : Nat → Int × Int × List (Int × Int) → Option (List (Int × Int × Int))
  | 0, _ => none
  | k + 1, p0 =>
    Option.bind (f_spec_faPossible_0 k (Prod.fst p0) (Prod.fst (Prod.snd p0)) (Prod.snd (Prod.snd p0)) [] (Prod.snd (Prod.snd p0)) (↑(List.length (Prod.snd (Prod.snd p0))) : Int) (0 : Int)) fun z2 => some z2
noncomputable def d_spec_faPossible : FnDef := .of q_spec_faPossible r_spec_faPossible (List (Int × Int × Int)) (fun k x => f_spec_faPossible k x.1) to_spec_faPossible of_spec_faPossible to_of_spec_faPossible
noncomputable def c_spec_faPossible : Code := Try.f105.body.getD .skip
noncomputable def x_spec_faPossible : Ctx (Tup r_spec_faPossible × OutD) := { T := T, G := [(120, d_spec_faFits.E)], mvs := [], no := 0, n := 37, res := resOf T q_spec_faPossible r_spec_faPossible Try.f105.results.toList, loops := [(2, f_spec_faPossible_2D.E), (0, f_spec_faPossible_0D.E)], regs := [], conds := [] }
theorem g_spec_faPossible (k : Nat) : EnvOK Try.prog k x_spec_faPossible.G := (EnvOK.cons (s_spec_faFits k) (EnvOK.nil mixed))
noncomputable def f_spec_faPossible_2B : Code := (findLoop 2 c_spec_faPossible).getD .skip
theorem f_spec_faPossible_2h (k : Nat) (x : f_spec_faPossible_2i.D) : f_spec_faPossible_2D.lp (k + 1) x = loopK x_spec_faPossible f_spec_faPossible_2D 2 f_spec_faPossible_2B k x := by kernel_rfl
theorem f_spec_faPossible_2l (k : Nat) : LOK Try.prog x_spec_faPossible k f_spec_faPossible_2B := LOK.by [] (by kernel_rfl) AllOK.nil
theorem f_spec_faPossible_2z (x : f_spec_faPossible_2i.D) : f_spec_faPossible_2D.lp 0 x = none := by kernel_rfl
theorem f_spec_faPossible_2ok (k : Nat) : EOK Try.prog x_spec_faPossible k f_spec_faPossible_2D.E (.block 2 (.loop f_spec_faPossible_2B)) := loop_ok T_ok g_spec_faPossible f_spec_faPossible_2z f_spec_faPossible_2h f_spec_faPossible_2l k
noncomputable def f_spec_faPossible_0B : Code := (findLoop 0 c_spec_faPossible).getD .skip
theorem f_spec_faPossible_0h (k : Nat) (x : f_spec_faPossible_0i.D) : f_spec_faPossible_0D.lp (k + 1) x = loopK x_spec_faPossible f_spec_faPossible_0D 0 f_spec_faPossible_0B k x := by kernel_rfl
theorem f_spec_faPossible_0l (k : Nat) : LOK Try.prog x_spec_faPossible k f_spec_faPossible_0B := LOK.by [(f_spec_faPossible_2D.E, .block 2 (.loop f_spec_faPossible_2B))] (by kernel_rfl) (AllOK.cons (f_spec_faPossible_2ok k) AllOK.nil)
theorem f_spec_faPossible_0z (x : f_spec_faPossible_0i.D) : f_spec_faPossible_0D.lp 0 x = none := by kernel_rfl
theorem f_spec_faPossible_0ok (k : Nat) : EOK Try.prog x_spec_faPossible k f_spec_faPossible_0D.E (.block 0 (.loop f_spec_faPossible_0B)) := loop_ok T_ok g_spec_faPossible f_spec_faPossible_0z f_spec_faPossible_0h f_spec_faPossible_0l k
theorem h_spec_faPossible (k : Nat) (x : Tup d_spec_faPossible.ps) : d_spec_faPossible.f (k + 1) x = fnK d_spec_faPossible x_spec_faPossible c_spec_faPossible k x := by kernel_rfl
theorem z_spec_faPossible (x : Tup d_spec_faPossible.ps) : d_spec_faPossible.f 0 x = none := by kernel_rfl
theorem l_spec_faPossible (k : Nat) : LOK Try.prog x_spec_faPossible k c_spec_faPossible := LOK.by [(f_spec_faPossible_0D.E, .block 0 (.loop f_spec_faPossible_0B))] (by kernel_rfl) (AllOK.cons (f_spec_faPossible_0ok k) AllOK.nil)
theorem s_spec_faPossible (k : Nat) : SoundAt Try.prog k 105 d_spec_faPossible.E := @fn_all Try.prog d_spec_faPossible x_spec_faPossible 105 Try.f105 c_spec_faPossible (by kernel_rfl) (by kernel_rfl) (by kernel_rfl) Try.func105 (by kernel_rfl) (by kernel_rfl) (by kernel_rfl) T_ok g_spec_faPossible l_spec_faPossible z_spec_faPossible h_spec_faPossible k
/-! function 108 -/
noncomputable def r_impl_IsBoard : List PK := [{ t := Ty.bool }]
noncomputable def q_impl_IsBoard : List PK := [{ t := Ty.pair (Ty.int IntKind.i64) (Ty.pair (Ty.int IntKind.i64) (Ty.slice (116 : Nat) (Ty.pair (Ty.int IntKind.i64) (Ty.int IntKind.i64)))), agg := true }]
noncomputable def to_impl_IsBoard (r : Bool) : Tup r_impl_IsBoard × OutD := ((r, ()), none)
noncomputable def of_impl_IsBoard : Tup r_impl_IsBoard × OutD → Option (Bool)
  | (a, none) => some (a.1)
  | _ => none
theorem to_of_impl_IsBoard : ∀ b r, of_impl_IsBoard b = some r → to_impl_IsBoard r = b := by
  rintro ⟨a, o⟩ r h
  cases o with
  | none => injection h with h; subst h; rfl
  | some _ => cases h
noncomputable def f_impl_IsBoard : Nat → Int × Int × List (Int × Int) → Option Bool
  | 0, _ => none
  | k + 1, p0 =>
    if decide (Prod.fst p0 ≥ (1 : Int)) = true then if decide (Prod.fst p0 ≤ (10 : Int)) = true then if decide (Prod.fst (Prod.snd p0) ≥ (1 : Int)) = true then if decide (Prod.fst (Prod.snd p0) ≤ (9 : Int)) = true then if decide ((↑(List.length (Prod.snd (Prod.snd p0))) : Int) = wrap64 (Prod.fst p0 * Prod.fst (Prod.snd p0))) = true then Option.bind (f_impl_validCells k (Prod.snd (Prod.snd p0))) fun z0 => some z0 else some false else some false else some false else some false else some false
noncomputable def d_impl_IsBoard : FnDef := .of q_impl_IsBoard r_impl_IsBoard (Bool) (fun k x => f_impl_IsBoard k x.1) to_impl_IsBoard of_impl_IsBoard to_of_impl_IsBoard
noncomputable def c_impl_IsBoard : Code := Try.f108.body.getD .skip
noncomputable def x_impl_IsBoard : Ctx (Tup r_impl_IsBoard × OutD) := { T := T, G := [(128, d_impl_validCells.E)], mvs := [], no := 0, n := 37, res := resOf T q_impl_IsBoard r_impl_IsBoard Try.f108.results.toList, loops := [], regs := [], conds := [] }
theorem g_impl_IsBoard (k : Nat) : EnvOK Try.prog k x_impl_IsBoard.G := (EnvOK.cons (s_impl_validCells k) (EnvOK.nil mixed))
theorem h_impl_IsBoard (k : Nat) (x : Tup d_impl_IsBoard.ps) : d_impl_IsBoard.f (k + 1) x = fnK d_impl_IsBoard x_impl_IsBoard c_impl_IsBoard k x := by kernel_rfl
theorem z_impl_IsBoard (x : Tup d_impl_IsBoard.ps) : d_impl_IsBoard.f 0 x = none := by kernel_rfl
theorem l_impl_IsBoard (k : Nat) : LOK Try.prog x_impl_IsBoard k c_impl_IsBoard := LOK.by [] (by kernel_rfl) AllOK.nil
theorem s_impl_IsBoard (k : Nat) : SoundAt Try.prog k 108 d_impl_IsBoard.E := @fn_all Try.prog d_impl_IsBoard x_impl_IsBoard 108 Try.f108 c_impl_IsBoard (by kernel_rfl) (by kernel_rfl) (by kernel_rfl) Try.func108 (by kernel_rfl) (by kernel_rfl) (by kernel_rfl) T_ok g_impl_IsBoard l_impl_IsBoard z_impl_IsBoard h_impl_IsBoard k
/-! function 109 -/
noncomputable def r_impl_canHave : List PK := [{ t := Ty.bool }]
noncomputable def q_impl_canHave : List PK := [{ t := Ty.pair (Ty.int IntKind.i64) (Ty.int IntKind.i64), agg := true }, { t := Ty.int IntKind.i64 }]
noncomputable def to_impl_canHave (r : Bool) : Tup r_impl_canHave × OutD := ((r, ()), none)
noncomputable def of_impl_canHave : Tup r_impl_canHave × OutD → Option (Bool)
  | (a, none) => some (a.1)
  | _ => none
theorem to_of_impl_canHave : ∀ b r, of_impl_canHave b = some r → to_impl_canHave r = b := by
  rintro ⟨a, o⟩ r h
  cases o with
  | none => injection h with h; subst h; rfl
  | some _ => cases h
noncomputable def f_impl_canHave : Nat → Int × Int → Int → Option Bool
  | 0, _, _ => none
  | k + 1, p0, p1 =>
    if decide (p1 = (1 : Int)) = true then Option.bind (f_impl_IsTurning k (Prod.fst p0, Prod.snd p0)) fun z0 => some z0 else if decide (p1 = (2 : Int)) = true then some true else if decide (p1 = (3 : Int)) = true then Option.bind (f_impl_IsTurning k (Prod.fst p0, Prod.snd p0)) fun z1 => if z1 = true then some true else if decide (Prod.fst p0 = (1 : Int)) = true then some true else some (decide (Prod.fst p0 = (2 : Int))) else some false
noncomputable def d_impl_canHave : FnDef := .of q_impl_canHave r_impl_canHave (Bool) (fun k x => f_impl_canHave k x.1 x.2.1) to_impl_canHave of_impl_canHave to_of_impl_canHave
noncomputable def c_impl_canHave : Code := Try.f109.body.getD .skip
noncomputable def x_impl_canHave : Ctx (Tup r_impl_canHave × OutD) := { T := T, G := [(129, d_impl_IsTurning.E)], mvs := [], no := 0, n := 26, res := resOf T q_impl_canHave r_impl_canHave Try.f109.results.toList, loops := [], regs := [], conds := [] }
theorem g_impl_canHave (k : Nat) : EnvOK Try.prog k x_impl_canHave.G := (EnvOK.cons (s_impl_IsTurning k) (EnvOK.nil mixed))
theorem h_impl_canHave (k : Nat) (x : Tup d_impl_canHave.ps) : d_impl_canHave.f (k + 1) x = fnK d_impl_canHave x_impl_canHave c_impl_canHave k x := by kernel_rfl
theorem z_impl_canHave (x : Tup d_impl_canHave.ps) : d_impl_canHave.f 0 x = none := by kernel_rfl
theorem l_impl_canHave (k : Nat) : LOK Try.prog x_impl_canHave k c_impl_canHave := LOK.by [] (by kernel_rfl) AllOK.nil
theorem s_impl_canHave (k : Nat) : SoundAt Try.prog k 109 d_impl_canHave.E := @fn_all Try.prog d_impl_canHave x_impl_canHave 109 Try.f109 c_impl_canHave (by kernel_rfl) (by kernel_rfl) (by kernel_rfl) Try.func109 (by kernel_rfl) (by kernel_rfl) (by kernel_rfl) T_ok g_impl_canHave l_impl_canHave z_impl_canHave h_impl_canHave k
/-! function 119 -/
noncomputable def r_spec_tsTests : List PK := [{ t := Ty.bool }]
noncomputable def q_spec_tsTests : List PK := [{ t := Ty.pair (Ty.int IntKind.i64) (Ty.pair (Ty.int IntKind.i64) (Ty.slice (116 : Nat) (Ty.pair (Ty.int IntKind.i64) (Ty.int IntKind.i64)))), agg := true }, { t := Ty.slice (25 : Nat) (Ty.slice (3 : Nat) (Ty.int IntKind.i64)) }]
noncomputable def to_spec_tsTests (r : Bool) : Tup r_spec_tsTests × OutD := ((r, ()), none)
noncomputable def of_spec_tsTests : Tup r_spec_tsTests × OutD → Option (Bool)
  | (a, none) => some (a.1)
  | _ => none
theorem to_of_spec_tsTests : ∀ b r, of_spec_tsTests b = some r → to_spec_tsTests r = b := by
  rintro ⟨a, o⟩ r h
  cases o with
  | none => injection h with h; subst h; rfl
  | some _ => cases h
noncomputable def f_spec_tsTests_0 : Nat → Int → Int → List (Int × Int) → List (List Int) → List (List Int) → Int → Int → Option (LR (List (List Int)) Bool)
  | 0, _, _, _, _, _, _, _ => none
  | k + 1, b1_0, b1_1, b1_2, v1, v7, v8, v9 =>
    if decide (v9 < v8) = true then if (0 : Int) ≤ v9 then if v9 < (↑(List.length v7) : Int) then if decide ((↑(List.length (List.getD v7 (Int.toNat v9) [])) : Int) > (8 : Int)) = true then some (LR.ret false) else Option.bind (f_spec_l1All k (List.getD v7 (Int.toNat v9) []) (0 : Int) (wrap64 (b1_1 - (1 : Int)))) fun z0 => if (!z0) = true then some (LR.ret false) else f_spec_tsTests_0 k b1_0 b1_1 b1_2 v1 v7 v8 (wrap64 (v9 + (1 : Int))) else none else none else some (LR.go v1)
noncomputable def f_spec_tsTests_0i : Spec := { objs := [OSh.ro, OSh.box (32 : Nat) [Sh.int IntKind.i64, Sh.int IntKind.i64, Sh.snap (0 : Nat) (Ty.pair (Ty.int IntKind.i64) (Ty.int IntKind.i64))]], tmps := [((1 : Nat), TSh.at (Sh.snap (0 : Nat) (Ty.slice (3 : Nat) (Ty.int IntKind.i64)))), ((2 : Nat), TSh.at (Sh.ptr (1 : Nat) (0 : Nat))), ((7 : Nat), TSh.at (Sh.snap (0 : Nat) (Ty.slice (3 : Nat) (Ty.int IntKind.i64)))), ((8 : Nat), TSh.at (Sh.int IntKind.i64)), ((9 : Nat), TSh.at (Sh.int IntKind.i64))] }
noncomputable def f_spec_tsTests_0o : Spec := { objs := [OSh.ro], tmps := [((1 : Nat), TSh.at (Sh.snap (0 : Nat) (Ty.slice (3 : Nat) (Ty.int IntKind.i64))))] }
noncomputable def f_spec_tsTests_0D : LoopDef (Tup r_spec_tsTests × OutD) := .rets f_spec_tsTests_0i f_spec_tsTests_0o (List (List Int)) (Bool) (fun k x => f_spec_tsTests_0 k x.1.2.1.1 x.1.2.1.2.1 x.1.2.1.2.2.1 x.2.1 x.2.2.2.1 x.2.2.2.2.1 x.2.2.2.2.2.1) (fun z => (((), ()), (z, ()))) (fun y => (y.2.1)) (fun _ => rfl) to_spec_tsTests of_spec_tsTests to_of_spec_tsTests
noncomputable def f_spec_tsTests : Nat → Int × Int × List (Int × Int) → List (List Int) → Option Bool
  | 0, _, _ => none
  | k + 1, p0, p1 =>
    Option.bind (f_spec_tsTests_0 k (Prod.fst p0) (Prod.fst (Prod.snd p0)) (Prod.snd (Prod.snd p0)) p1 p1 (↑(List.length p1) : Int) (0 : Int)) fun z1 => LR.on z1 (fun y1 => some (decide ((↑(List.length y1) : Int) ≤ (10 : Int)))) fun r1 => some r1
noncomputable def d_spec_tsTests : FnDef := .of q_spec_tsTests r_spec_tsTests (Bool) (fun k x => f_spec_tsTests k x.1 x.2.1) to_spec_tsTests of_spec_tsTests to_of_spec_tsTests
noncomputable def c_spec_tsTests : Code := Try.f119.body.getD .skip
noncomputable def x_spec_tsTests : Ctx (Tup r_spec_tsTests × OutD) := { T := T, G := [(104, d_spec_l1All.E)], mvs := [], no := 0, n := 28, res := resOf T q_spec_tsTests r_spec_tsTests Try.f119.results.toList, loops := [(0, f_spec_tsTests_0D.E)], regs := [], conds := [] }
theorem g_spec_tsTests (k : Nat) : EnvOK Try.prog k x_spec_tsTests.G := (EnvOK.cons (s_spec_l1All k) (EnvOK.nil mixed))
noncomputable def f_spec_tsTests_0B : Code := (findLoop 0 c_spec_tsTests).getD .skip
theorem f_spec_tsTests_0h (k : Nat) (x : f_spec_tsTests_0i.D) : f_spec_tsTests_0D.lp (k + 1) x = loopK x_spec_tsTests f_spec_tsTests_0D 0 f_spec_tsTests_0B k x := by kernel_rfl
theorem f_spec_tsTests_0l (k : Nat) : LOK Try.prog x_spec_tsTests k f_spec_tsTests_0B := LOK.by [] (by kernel_rfl) AllOK.nil
theorem f_spec_tsTests_0z (x : f_spec_tsTests_0i.D) : f_spec_tsTests_0D.lp 0 x = none := by kernel_rfl
theorem f_spec_tsTests_0ok (k : Nat) : EOK Try.prog x_spec_tsTests k f_spec_tsTests_0D.E (.block 0 (.loop f_spec_tsTests_0B)) := loop_ok T_ok g_spec_tsTests f_spec_tsTests_0z f_spec_tsTests_0h f_spec_tsTests_0l k
theorem h_spec_tsTests (k : Nat) (x : Tup d_spec_tsTests.ps) : d_spec_tsTests.f (k + 1) x = fnK d_spec_tsTests x_spec_tsTests c_spec_tsTests k x := by kernel_rfl
theorem z_spec_tsTests (x : Tup d_spec_tsTests.ps) : d_spec_tsTests.f 0 x = none := by kernel_rfl
theorem l_spec_tsTests (k : Nat) : LOK Try.prog x_spec_tsTests k c_spec_tsTests := LOK.by [(f_spec_tsTests_0D.E, .block 0 (.loop f_spec_tsTests_0B))] (by kernel_rfl) (AllOK.cons (f_spec_tsTests_0ok k) AllOK.nil)
theorem s_spec_tsTests (k : Nat) : SoundAt Try.prog k 119 d_spec_tsTests.E := @fn_all Try.prog d_spec_tsTests x_spec_tsTests 119 Try.f119 c_spec_tsTests (by kernel_rfl) (by kernel_rfl) (by kernel_rfl) Try.func119 (by kernel_rfl) (by kernel_rfl) (by kernel_rfl) T_ok g_spec_tsTests l_spec_tsTests z_spec_tsTests h_spec_tsTests k
/-! function 132 -/
/-! function 134 -/
noncomputable def r_impl_faultyDrop : List PK := [{ t := Ty.pair (Ty.int IntKind.i64) (Ty.pair (Ty.int IntKind.i64) (Ty.int IntKind.i64)), agg := true }]
noncomputable def q_impl_faultyDrop : List PK := [{ t := Ty.pair (Ty.int IntKind.i64) (Ty.pair (Ty.int IntKind.i64) (Ty.slice (116 : Nat) (Ty.pair (Ty.int IntKind.i64) (Ty.int IntKind.i64)))), agg := true, own := some ((2 : Nat), (116 : Nat), Ty.pair (Ty.int IntKind.i64) (Ty.int IntKind.i64)) }, { t := Ty.slice (3 : Nat) (Ty.int IntKind.i64) }, { t := Ty.slice (3 : Nat) (Ty.int IntKind.i64) }, { t := Ty.int IntKind.i64 }]
noncomputable def to_impl_faultyDrop (r : (Int × Int × Int) × List (Int × Int)) : Tup r_impl_faultyDrop × OutD := ((r.1, ()), some ⟨Ty.pair (Ty.int IntKind.i64) (Ty.int IntKind.i64), r.2⟩)
noncomputable def of_impl_faultyDrop : Tup r_impl_faultyDrop × OutD → Option ((Int × Int × Int) × List (Int × Int))
  | (a, some ⟨u, ys⟩) => if h : u = Ty.pair (Ty.int IntKind.i64) (Ty.int IntKind.i64) then some (a.1, castU h ys) else none
  | _ => none
theorem to_of_impl_faultyDrop : ∀ b r, of_impl_faultyDrop b = some r → to_impl_faultyDrop r = b := by
  rintro ⟨a, o⟩ r h
  cases o with
  | none => cases h
  | some s =>
    obtain ⟨u, ys⟩ := s
    simp only [of_impl_faultyDrop] at h
    split at h
    · rename_i hu; subst hu; injection h with h; subst h; rfl
    · cases h
noncomputable def f_impl_faultyDrop_0 : Nat → List (Int × Int) → Int → Int → Int → Int → Int → List Int → List Int → Int → Int → Int → Option (LR (List (Int × Int) × Int × Int × Int × Int × Int × Int) ((Int × Int × Int) × List (Int × Int)))
  | 0, _, _, _, _, _, _, _, _, _, _, _ => none
  | k + 1, o1, b2_0, b2_1, b3_0, b3_1, b3_2, v1, v2, v3, v9, v10 =>
    if decide (v10 < b2_0) = true then if (0 : Int) ≤ wrap64 (wrap64 (v10 * b2_1) + v3) then if wrap64 (wrap64 (v10 * b2_1) + v3) < (↑(List.length v2) : Int) then if decide (List.getD v2 (Int.toNat (wrap64 (wrap64 (v10 * b2_1) + v3))) (0 : Int) = (2 : Int)) = true then some (LR.ret (((3 : Int), v10, v3), o1)) else if (0 : Int) ≤ wrap64 (wrap64 (v10 * b2_1) + v3) then if wrap64 (wrap64 (v10 * b2_1) + v3) < (↑(List.length o1) : Int) then Option.bind (f_impl_GoesTo k (Prod.fst (List.getD o1 (Int.toNat (wrap64 (wrap64 (v10 * b2_1) + v3))) ((0 : Int), (0 : Int))), Prod.snd (List.getD o1 (Int.toNat (wrap64 (wrap64 (v10 * b2_1) + v3))) ((0 : Int), (0 : Int)))) v9) fun z0 => if (!Prod.snd z0) = true then some (LR.ret (((2 : Int), v10, v3), o1)) else if (0 : Int) ≤ wrap64 (wrap64 (v10 * b2_1) + v3) then if wrap64 (wrap64 (v10 * b2_1) + v3) < (↑(List.length v2) : Int) then if decide (List.getD v2 (Int.toNat (wrap64 (wrap64 (v10 * b2_1) + v3))) (0 : Int) = (3 : Int)) = true then if (0 : Int) ≤ wrap64 (wrap64 (v10 * b2_1) + v3) then if wrap64 (wrap64 (v10 * b2_1) + v3) < (↑(List.length o1) : Int) then Option.bind (f_impl_IsTurning k (Prod.fst (List.getD o1 (Int.toNat (wrap64 (wrap64 (v10 * b2_1) + v3))) ((0 : Int), (0 : Int))), Prod.snd (List.getD o1 (Int.toNat (wrap64 (wrap64 (v10 * b2_1) + v3))) ((0 : Int), (0 : Int))))) fun z1 => if z1 = true then Option.bind (f_impl_turnFaulty k (b2_0, b2_1, o1) v1 v2 (wrap64 (wrap64 (v10 * b2_1) + v3))) fun z2 => if decide (wrap64 (v3 + wrap64 ((0 : Int) - Prod.fst z0)) < (0 : Int)) = true then some (LR.ret (((3 : Int), v10, wrap64 (v3 + wrap64 ((0 : Int) - Prod.fst z0))), z2)) else if decide (wrap64 (v3 + wrap64 ((0 : Int) - Prod.fst z0)) ≥ b2_1) = true then some (LR.ret (((3 : Int), v10, wrap64 (v3 + wrap64 ((0 : Int) - Prod.fst z0))), z2)) else f_impl_faultyDrop_0 k z2 b2_0 b2_1 b3_0 b3_1 b3_2 v1 v2 (wrap64 (v3 + wrap64 ((0 : Int) - Prod.fst z0))) (wrap64 ((0 : Int) - wrap64 ((0 : Int) - Prod.fst z0))) (wrap64 (v10 + (1 : Int))) else if decide (wrap64 (v3 + wrap64 ((0 : Int) - Prod.fst z0)) < (0 : Int)) = true then some (LR.ret (((3 : Int), v10, wrap64 (v3 + wrap64 ((0 : Int) - Prod.fst z0))), o1)) else if decide (wrap64 (v3 + wrap64 ((0 : Int) - Prod.fst z0)) ≥ b2_1) = true then some (LR.ret (((3 : Int), v10, wrap64 (v3 + wrap64 ((0 : Int) - Prod.fst z0))), o1)) else f_impl_faultyDrop_0 k o1 b2_0 b2_1 b3_0 b3_1 b3_2 v1 v2 (wrap64 (v3 + wrap64 ((0 : Int) - Prod.fst z0))) (wrap64 ((0 : Int) - wrap64 ((0 : Int) - Prod.fst z0))) (wrap64 (v10 + (1 : Int))) else none else none else if (0 : Int) ≤ wrap64 (wrap64 (v10 * b2_1) + v3) then if wrap64 (wrap64 (v10 * b2_1) + v3) < (↑(List.length o1) : Int) then Option.bind (f_impl_IsTurning k (Prod.fst (List.getD o1 (Int.toNat (wrap64 (wrap64 (v10 * b2_1) + v3))) ((0 : Int), (0 : Int))), Prod.snd (List.getD o1 (Int.toNat (wrap64 (wrap64 (v10 * b2_1) + v3))) ((0 : Int), (0 : Int))))) fun z3 => if z3 = true then Option.bind (f_impl_turnFaulty k (b2_0, b2_1, o1) v1 v2 (wrap64 (wrap64 (v10 * b2_1) + v3))) fun z4 => if decide (wrap64 (v3 + Prod.fst z0) < (0 : Int)) = true then some (LR.ret (((3 : Int), v10, wrap64 (v3 + Prod.fst z0)), z4)) else if decide (wrap64 (v3 + Prod.fst z0) ≥ b2_1) = true then some (LR.ret (((3 : Int), v10, wrap64 (v3 + Prod.fst z0)), z4)) else f_impl_faultyDrop_0 k z4 b2_0 b2_1 b3_0 b3_1 b3_2 v1 v2 (wrap64 (v3 + Prod.fst z0)) (wrap64 ((0 : Int) - Prod.fst z0)) (wrap64 (v10 + (1 : Int))) else if decide (wrap64 (v3 + Prod.fst z0) < (0 : Int)) = true then some (LR.ret (((3 : Int), v10, wrap64 (v3 + Prod.fst z0)), o1)) else if decide (wrap64 (v3 + Prod.fst z0) ≥ b2_1) = true then some (LR.ret (((3 : Int), v10, wrap64 (v3 + Prod.fst z0)), o1)) else f_impl_faultyDrop_0 k o1 b2_0 b2_1 b3_0 b3_1 b3_2 v1 v2 (wrap64 (v3 + Prod.fst z0)) (wrap64 ((0 : Int) - Prod.fst z0)) (wrap64 (v10 + (1 : Int))) else none else none else none else none else none else none else none else none else some (LR.go (o1, b2_0, b2_1, b3_0, b3_1, b3_2, v3))
noncomputable def f_impl_faultyDrop_0i : Spec := { objs := [OSh.ro, OSh.row false (116 : Nat) (Ty.pair (Ty.int IntKind.i64) (Ty.int IntKind.i64)), OSh.box (32 : Nat) [Sh.int IntKind.i64, Sh.int IntKind.i64, Sh.sl (1 : Nat)], OSh.box (91 : Nat) [Sh.int IntKind.i64, Sh.int IntKind.i64, Sh.int IntKind.i64]], tmps := [((1 : Nat), TSh.at (Sh.snap (0 : Nat) (Ty.int IntKind.i64))), ((2 : Nat), TSh.at (Sh.snap (0 : Nat) (Ty.int IntKind.i64))), ((3 : Nat), TSh.at (Sh.int IntKind.i64)), ((4 : Nat), TSh.at (Sh.ptr (2 : Nat) (0 : Nat))), ((8 : Nat), TSh.at (Sh.ptr (3 : Nat) (0 : Nat))), ((9 : Nat), TSh.at (Sh.int IntKind.i64)), ((10 : Nat), TSh.at (Sh.int IntKind.i64))] }
noncomputable def f_impl_faultyDrop_0o : Spec := { objs := [OSh.ro, OSh.row false (116 : Nat) (Ty.pair (Ty.int IntKind.i64) (Ty.int IntKind.i64)), OSh.box (32 : Nat) [Sh.int IntKind.i64, Sh.int IntKind.i64, Sh.sl (1 : Nat)], OSh.box (91 : Nat) [Sh.int IntKind.i64, Sh.int IntKind.i64, Sh.int IntKind.i64]], tmps := [((3 : Nat), TSh.at (Sh.int IntKind.i64)), ((4 : Nat), TSh.at (Sh.ptr (2 : Nat) (0 : Nat))), ((8 : Nat), TSh.at (Sh.ptr (3 : Nat) (0 : Nat)))] }
noncomputable def f_impl_faultyDrop_0D : LoopDef (Tup r_impl_faultyDrop × OutD) := .rets f_impl_faultyDrop_0i f_impl_faultyDrop_0o (List (Int × Int) × Int × Int × Int × Int × Int × Int) ((Int × Int × Int) × List (Int × Int)) (fun k x => f_impl_faultyDrop_0 k x.1.2.1 x.1.2.2.1.1 x.1.2.2.1.2.1 x.1.2.2.2.1.1 x.1.2.2.2.1.2.1 x.1.2.2.2.1.2.2.1 x.2.1 x.2.2.1 x.2.2.2.1 x.2.2.2.2.2.2.1 x.2.2.2.2.2.2.2.1) (fun z => (((), z.1, (z.2.1, z.2.2.1, (), ()), (z.2.2.2.1, z.2.2.2.2.1, z.2.2.2.2.2.1, ()), ()), (z.2.2.2.2.2.2, (), (), ()))) (fun y => (y.1.2.1, y.1.2.2.1.1, y.1.2.2.1.2.1, y.1.2.2.2.1.1, y.1.2.2.2.1.2.1, y.1.2.2.2.1.2.2.1, y.2.1)) (fun _ => rfl) to_impl_faultyDrop of_impl_faultyDrop to_of_impl_faultyDrop
noncomputable def f_impl_faultyDrop : Nat → Int × Int × List (Int × Int) → List Int → List Int → Int → Option ((Int × Int × Int) × List (Int × Int))
  | 0, _, _, _, _ => none
  | k + 1, p0, p1, p2, p3 =>
    Option.bind (f_impl_faultyDrop_0 k (Prod.snd (Prod.snd p0)) (Prod.fst p0) (Prod.fst (Prod.snd p0)) (0 : Int) (0 : Int) (0 : Int) p1 p2 p3 (0 : Int) (0 : Int)) fun z5 => LR.on z5 (fun y5 => some (((1 : Int), Prod.fst (Prod.snd y5), Prod.snd (Prod.snd (Prod.snd (Prod.snd (Prod.snd (Prod.snd y5)))))), Prod.fst y5)) fun r5 => some r5
noncomputable def d_impl_faultyDrop : FnDef := .of q_impl_faultyDrop r_impl_faultyDrop ((Int × Int × Int) × List (Int × Int)) (fun k x => f_impl_faultyDrop k x.1 x.2.1 x.2.2.1 x.2.2.2.1) to_impl_faultyDrop of_impl_faultyDrop to_of_impl_faultyDrop
noncomputable def c_impl_faultyDrop : Code := Try.f134.body.getD .skip
noncomputable def x_impl_faultyDrop : Ctx (Tup r_impl_faultyDrop × OutD) := { T := T, G := [(143, d_impl_GoesTo.E), (129, d_impl_IsTurning.E), (145, d_impl_turnFaulty.E)], mvs := [], no := 1, n := 87, res := resOf T q_impl_faultyDrop r_impl_faultyDrop Try.f134.results.toList, loops := [(0, f_impl_faultyDrop_0D.E)], regs := [], conds := [] }
theorem g_impl_faultyDrop (k : Nat) : EnvOK Try.prog k x_impl_faultyDrop.G := (EnvOK.cons (s_impl_GoesTo k) (EnvOK.cons (s_impl_IsTurning k) (EnvOK.cons (s_impl_turnFaulty k) (EnvOK.nil mixed))))
noncomputable def f_impl_faultyDrop_0B : Code := (findLoop 0 c_impl_faultyDrop).getD .skip
theorem f_impl_faultyDrop_0h (k : Nat) (x : f_impl_faultyDrop_0i.D) : f_impl_faultyDrop_0D.lp (k + 1) x = loopK x_impl_faultyDrop f_impl_faultyDrop_0D 0 f_impl_faultyDrop_0B k x := by kernel_rfl
theorem f_impl_faultyDrop_0l (k : Nat) : LOK Try.prog x_impl_faultyDrop k f_impl_faultyDrop_0B := LOK.by [] (by kernel_rfl) AllOK.nil
theorem f_impl_faultyDrop_0z (x : f_impl_faultyDrop_0i.D) : f_impl_faultyDrop_0D.lp 0 x = none := by kernel_rfl
theorem f_impl_faultyDrop_0ok (k : Nat) : EOK Try.prog x_impl_faultyDrop k f_impl_faultyDrop_0D.E (.block 0 (.loop f_impl_faultyDrop_0B)) := loop_ok T_ok g_impl_faultyDrop f_impl_faultyDrop_0z f_impl_faultyDrop_0h f_impl_faultyDrop_0l k
theorem h_impl_faultyDrop (k : Nat) (x : Tup d_impl_faultyDrop.ps) : d_impl_faultyDrop.f (k + 1) x = fnK d_impl_faultyDrop x_impl_faultyDrop c_impl_faultyDrop k x := by kernel_rfl
theorem z_impl_faultyDrop (x : Tup d_impl_faultyDrop.ps) : d_impl_faultyDrop.f 0 x = none := by kernel_rfl
theorem l_impl_faultyDrop (k : Nat) : LOK Try.prog x_impl_faultyDrop k c_impl_faultyDrop := LOK.by [(f_impl_faultyDrop_0D.E, .block 0 (.loop f_impl_faultyDrop_0B))] (by kernel_rfl) (AllOK.cons (f_impl_faultyDrop_0ok k) AllOK.nil)
theorem s_impl_faultyDrop (k : Nat) : SoundAt Try.prog k 134 d_impl_faultyDrop.E := @fn_all Try.prog d_impl_faultyDrop x_impl_faultyDrop 134 Try.f134 c_impl_faultyDrop (by kernel_rfl) (by kernel_rfl) (by kernel_rfl) Try.func134 (by kernel_rfl) (by kernel_rfl) (by kernel_rfl) T_ok g_impl_faultyDrop l_impl_faultyDrop z_impl_faultyDrop h_impl_faultyDrop k
/-! function 138 -/
noncomputable def r_spec_faGo : List PK := [{ t := Ty.pair (Ty.int IntKind.i64) (Ty.pair (Ty.int IntKind.i64) (Ty.int IntKind.i64)), agg := true }, { t := Ty.pair (Ty.int IntKind.i64) (Ty.pair (Ty.int IntKind.i64) (Ty.slice (116 : Nat) (Ty.pair (Ty.int IntKind.i64) (Ty.int IntKind.i64)))), agg := true }]
noncomputable def q_spec_faGo : List PK := [{ t := Ty.pair (Ty.int IntKind.i64) (Ty.pair (Ty.int IntKind.i64) (Ty.slice (116 : Nat) (Ty.pair (Ty.int IntKind.i64) (Ty.int IntKind.i64)))), agg := true }, { t := Ty.slice (3 : Nat) (Ty.int IntKind.i64) }, { t := Ty.slice (83 : Nat) (Ty.pair (Ty.int IntKind.i64) (Ty.pair (Ty.int IntKind.i64) (Ty.int IntKind.i64))) }, { t := Ty.int IntKind.i64 }]
noncomputable def to_spec_faGo (r : (Int × Int × Int) × Int × Int × List (Int × Int)) : Tup r_spec_faGo × OutD := ((r.1, r.2, ()), none)
noncomputable def of_spec_faGo : Tup r_spec_faGo × OutD → Option ((Int × Int × Int) × Int × Int × List (Int × Int))
  | (a, none) => some (a.1, a.2.1)
  | _ => none
theorem to_of_spec_faGo : ∀ b r, of_spec_faGo b = some r → to_spec_faGo r = b := by
  rintro ⟨a, o⟩ r h
  cases o with
  | none => injection h with h; subst h; rfl
  | some _ => cases h
noncomputable def f_spec_faGo_g9 : Nat → Int → Int → Int → Int → Int → List (Int × Int) → Int → Int → List (Int × Int) → Int → Int → Option (Int × Int × Int × Int × Int × List (Int × Int)) := fun k b1_0 b1_1 b1_2 b2_0 b2_1 o3 b4_0 b4_1 o5 v3 v12 =>
    some ((3 : Int), v12, v3, b4_0, b4_1, o5)
noncomputable def f_spec_faGo_g9A : Nat → Int → Int → Int → Int → Int → List (Int × Int) → Int → Int → List (Int × Int) → Int → Int → Option (List (Int × Int × Int × Int × Int × List (Int × Int))) := fun k b1_0 b1_1 b1_2 b2_0 b2_1 o3 b4_0 b4_1 o5 v3 v12 =>
    joinL (some [((3 : Int), v12, v3, b4_0, b4_1, o5)]) (some [((3 : Int), v12, v3, b4_0, b4_1, o5)])
noncomputable def f_spec_faGo_g9i : Spec := { objs := [OSh.ro, OSh.box (91 : Nat) [Sh.int IntKind.i64, Sh.int IntKind.i64, Sh.int IntKind.i64], OSh.box (32 : Nat) [Sh.int IntKind.i64, Sh.int IntKind.i64, Sh.sl (3 : Nat)], OSh.row true (116 : Nat) (Ty.pair (Ty.int IntKind.i64) (Ty.int IntKind.i64)), OSh.box (32 : Nat) [Sh.int IntKind.i64, Sh.int IntKind.i64, Sh.sl (5 : Nat)], OSh.row true (116 : Nat) (Ty.pair (Ty.int IntKind.i64) (Ty.int IntKind.i64))], tmps := [((3 : Nat), TSh.at (Sh.int IntKind.i64)), ((8 : Nat), TSh.at (Sh.ptr (1 : Nat) (0 : Nat))), ((9 : Nat), TSh.at (Sh.ptr (2 : Nat) (0 : Nat))), ((10 : Nat), TSh.at (Sh.ptr (4 : Nat) (0 : Nat))), ((12 : Nat), TSh.at (Sh.int IntKind.i64))] }
noncomputable def f_spec_faGo_g9o : Spec := { objs := [OSh.ro, OSh.box (91 : Nat) [Sh.int IntKind.i64, Sh.int IntKind.i64, Sh.int IntKind.i64], OSh.box (32 : Nat) [Sh.int IntKind.i64, Sh.int IntKind.i64, Sh.sl (3 : Nat)], OSh.row true (116 : Nat) (Ty.pair (Ty.int IntKind.i64) (Ty.int IntKind.i64))], tmps := [((8 : Nat), TSh.at (Sh.ptr (1 : Nat) (0 : Nat))), ((9 : Nat), TSh.at (Sh.ptr (2 : Nat) (0 : Nat)))] }
noncomputable def f_spec_faGo_g9D : LoopDef (Tup r_spec_faGo × OutD) := .plain f_spec_faGo_g9i f_spec_faGo_g9o (Int × Int × Int × Int × Int × List (Int × Int)) (fun k x => f_spec_faGo_g9 k x.1.2.1.1 x.1.2.1.2.1 x.1.2.1.2.2.1 x.1.2.2.1.1 x.1.2.2.1.2.1 x.1.2.2.2.1 x.1.2.2.2.2.1.1 x.1.2.2.2.2.1.2.1 x.1.2.2.2.2.2.1 x.2.1 x.2.2.2.2.2.1) (fun z => (((), (z.1, z.2.1, z.2.2.1, ()), (z.2.2.2.1, z.2.2.2.2.1, (), ()), z.2.2.2.2.2, ()), ((), (), ()))) (fun y => (y.1.2.1.1, y.1.2.1.2.1, y.1.2.1.2.2.1, y.1.2.2.1.1, y.1.2.2.1.2.1, y.1.2.2.2.1)) (fun _ => rfl)
theorem f_spec_faGo_g9j (k : Nat) (b1_0 : Int) (b1_1 : Int) (b1_2 : Int) (b2_0 : Int) (b2_1 : Int) (o3 : List (Int × Int)) (b4_0 : Int) (b4_1 : Int) (o5 : List (Int × Int)) (v3 : Int) (v12 : Int) : f_spec_faGo_g9A k b1_0 b1_1 b1_2 b2_0 b2_1 o3 b4_0 b4_1 o5 v3 v12 = repl 2 (f_spec_faGo_g9 k b1_0 b1_1 b1_2 b2_0 b2_1 o3 b4_0 b4_1 o5 v3 v12) := by
  simp only [f_spec_faGo_g9A, f_spec_faGo_g9, repl_some, repl_ite, repl_ite0, repl_ite1, repl_bind, joinL_repl, if_true]
noncomputable def f_spec_faGo_g11 : Nat → Int → Int → Int → Int → Int → List (Int × Int) → Int → Int → List (Int × Int) → Int → Int → Option (Int × Int × Int × Int × Int × List (Int × Int)) := fun k b1_0 b1_1 b1_2 b2_0 b2_1 o3 b4_0 b4_1 o5 v3 v12 =>
    some ((2 : Int), v12, v3, b4_0, b4_1, o5)
noncomputable def f_spec_faGo_g11A : Nat → Int → Int → Int → Int → Int → List (Int × Int) → Int → Int → List (Int × Int) → Int → Int → Option (List (Int × Int × Int × Int × Int × List (Int × Int))) := fun k b1_0 b1_1 b1_2 b2_0 b2_1 o3 b4_0 b4_1 o5 v3 v12 =>
    joinL (some [((2 : Int), v12, v3, b4_0, b4_1, o5)]) (some [((2 : Int), v12, v3, b4_0, b4_1, o5)])
noncomputable def f_spec_faGo_g11i : Spec := { objs := [OSh.ro, OSh.box (91 : Nat) [Sh.int IntKind.i64, Sh.int IntKind.i64, Sh.int IntKind.i64], OSh.box (32 : Nat) [Sh.int IntKind.i64, Sh.int IntKind.i64, Sh.sl (3 : Nat)], OSh.row true (116 : Nat) (Ty.pair (Ty.int IntKind.i64) (Ty.int IntKind.i64)), OSh.box (32 : Nat) [Sh.int IntKind.i64, Sh.int IntKind.i64, Sh.sl (5 : Nat)], OSh.row true (116 : Nat) (Ty.pair (Ty.int IntKind.i64) (Ty.int IntKind.i64))], tmps := [((3 : Nat), TSh.at (Sh.int IntKind.i64)), ((8 : Nat), TSh.at (Sh.ptr (1 : Nat) (0 : Nat))), ((9 : Nat), TSh.at (Sh.ptr (2 : Nat) (0 : Nat))), ((10 : Nat), TSh.at (Sh.ptr (4 : Nat) (0 : Nat))), ((12 : Nat), TSh.at (Sh.int IntKind.i64))] }
noncomputable def f_spec_faGo_g11o : Spec := { objs := [OSh.ro, OSh.box (91 : Nat) [Sh.int IntKind.i64, Sh.int IntKind.i64, Sh.int IntKind.i64], OSh.box (32 : Nat) [Sh.int IntKind.i64, Sh.int IntKind.i64, Sh.sl (3 : Nat)], OSh.row true (116 : Nat) (Ty.pair (Ty.int IntKind.i64) (Ty.int IntKind.i64))], tmps := [((8 : Nat), TSh.at (Sh.ptr (1 : Nat) (0 : Nat))), ((9 : Nat), TSh.at (Sh.ptr (2 : Nat) (0 : Nat)))] }
noncomputable def f_spec_faGo_g11D : LoopDef (Tup r_spec_faGo × OutD) := .plain f_spec_faGo_g11i f_spec_faGo_g11o (Int × Int × Int × Int × Int × List (Int × Int)) (fun k x => f_spec_faGo_g11 k x.1.2.1.1 x.1.2.1.2.1 x.1.2.1.2.2.1 x.1.2.2.1.1 x.1.2.2.1.2.1 x.1.2.2.2.1 x.1.2.2.2.2.1.1 x.1.2.2.2.2.1.2.1 x.1.2.2.2.2.2.1 x.2.1 x.2.2.2.2.2.1) (fun z => (((), (z.1, z.2.1, z.2.2.1, ()), (z.2.2.2.1, z.2.2.2.2.1, (), ()), z.2.2.2.2.2, ()), ((), (), ()))) (fun y => (y.1.2.1.1, y.1.2.1.2.1, y.1.2.1.2.2.1, y.1.2.2.1.1, y.1.2.2.1.2.1, y.1.2.2.2.1)) (fun _ => rfl)
theorem f_spec_faGo_g11j (k : Nat) (b1_0 : Int) (b1_1 : Int) (b1_2 : Int) (b2_0 : Int) (b2_1 : Int) (o3 : List (Int × Int)) (b4_0 : Int) (b4_1 : Int) (o5 : List (Int × Int)) (v3 : Int) (v12 : Int) : f_spec_faGo_g11A k b1_0 b1_1 b1_2 b2_0 b2_1 o3 b4_0 b4_1 o5 v3 v12 = repl 2 (f_spec_faGo_g11 k b1_0 b1_1 b1_2 b2_0 b2_1 o3 b4_0 b4_1 o5 v3 v12) := by
  simp only [f_spec_faGo_g11A, f_spec_faGo_g11, repl_some, repl_ite, repl_ite0, repl_ite1, repl_bind, joinL_repl, if_true]
noncomputable def f_spec_faGo_j52 : Nat → Int → Int → List (Int × Int) → Int → Int → Int → Int → Int → List (Int × Int) → Int → Int → List (Int × Int) → List Int → List (Int × Int × Int) → Int → Int → Int → Bool → Option (Int × Int × List (Int × Int) × Int × Int × Int × Int × Int × List (Int × Int) × Int × Int × List (Int × Int) × List Int × List (Int × Int × Int) × Int × Int × Int) := fun k b1_0 b1_1 b1_2 b2_0 b2_1 b2_2 b3_0 b3_1 o4 b5_0 b5_1 o6 v1 v2 v3 v12 v15 v52 =>
    if v52 = true then some (b1_0, b1_1, b1_2, b2_0, b2_1, b2_2, b3_0, b3_1, o4, b5_0, b5_1, o6, v1, v2, v3, v12, wrap64 ((0 : Int) - v15)) else some (b1_0, b1_1, b1_2, b2_0, b2_1, b2_2, b3_0, b3_1, o4, b5_0, b5_1, o6, v1, v2, v3, v12, v15)
noncomputable def f_spec_faGo_j52i : Spec := { objs := [OSh.ro, OSh.box (32 : Nat) [Sh.int IntKind.i64, Sh.int IntKind.i64, Sh.snap (0 : Nat) (Ty.pair (Ty.int IntKind.i64) (Ty.int IntKind.i64))], OSh.box (91 : Nat) [Sh.int IntKind.i64, Sh.int IntKind.i64, Sh.int IntKind.i64], OSh.box (32 : Nat) [Sh.int IntKind.i64, Sh.int IntKind.i64, Sh.sl (4 : Nat)], OSh.row true (116 : Nat) (Ty.pair (Ty.int IntKind.i64) (Ty.int IntKind.i64)), OSh.box (32 : Nat) [Sh.int IntKind.i64, Sh.int IntKind.i64, Sh.sl (6 : Nat)], OSh.row true (116 : Nat) (Ty.pair (Ty.int IntKind.i64) (Ty.int IntKind.i64))], tmps := [((1 : Nat), TSh.at (Sh.snap (0 : Nat) (Ty.int IntKind.i64))), ((2 : Nat), TSh.at (Sh.snap (0 : Nat) (Ty.pair (Ty.int IntKind.i64) (Ty.pair (Ty.int IntKind.i64) (Ty.int IntKind.i64))))), ((3 : Nat), TSh.at (Sh.int IntKind.i64)), ((4 : Nat), TSh.at (Sh.ptr (1 : Nat) (0 : Nat))), ((8 : Nat), TSh.at (Sh.ptr (2 : Nat) (0 : Nat))), ((9 : Nat), TSh.at (Sh.ptr (3 : Nat) (0 : Nat))), ((10 : Nat), TSh.at (Sh.ptr (5 : Nat) (0 : Nat))), ((12 : Nat), TSh.at (Sh.int IntKind.i64)), ((15 : Nat), TSh.at (Sh.int IntKind.i64)), ((52 : Nat), TSh.at Sh.bool)] }
noncomputable def f_spec_faGo_j52o : Spec := { objs := [OSh.ro, OSh.box (32 : Nat) [Sh.int IntKind.i64, Sh.int IntKind.i64, Sh.snap (0 : Nat) (Ty.pair (Ty.int IntKind.i64) (Ty.int IntKind.i64))], OSh.box (91 : Nat) [Sh.int IntKind.i64, Sh.int IntKind.i64, Sh.int IntKind.i64], OSh.box (32 : Nat) [Sh.int IntKind.i64, Sh.int IntKind.i64, Sh.sl (4 : Nat)], OSh.row true (116 : Nat) (Ty.pair (Ty.int IntKind.i64) (Ty.int IntKind.i64)), OSh.box (32 : Nat) [Sh.int IntKind.i64, Sh.int IntKind.i64, Sh.sl (6 : Nat)], OSh.row true (116 : Nat) (Ty.pair (Ty.int IntKind.i64) (Ty.int IntKind.i64))], tmps := [((1 : Nat), TSh.at (Sh.snap (0 : Nat) (Ty.int IntKind.i64))), ((2 : Nat), TSh.at (Sh.snap (0 : Nat) (Ty.pair (Ty.int IntKind.i64) (Ty.pair (Ty.int IntKind.i64) (Ty.int IntKind.i64))))), ((3 : Nat), TSh.at (Sh.int IntKind.i64)), ((4 : Nat), TSh.at (Sh.ptr (1 : Nat) (0 : Nat))), ((8 : Nat), TSh.at (Sh.ptr (2 : Nat) (0 : Nat))), ((9 : Nat), TSh.at (Sh.ptr (3 : Nat) (0 : Nat))), ((10 : Nat), TSh.at (Sh.ptr (5 : Nat) (0 : Nat))), ((12 : Nat), TSh.at (Sh.int IntKind.i64)), ((15 : Nat), TSh.at (Sh.int IntKind.i64))] }
noncomputable def f_spec_faGo_j52D : LoopDef (Tup r_spec_faGo × OutD) := .plain f_spec_faGo_j52i f_spec_faGo_j52o (Int × Int × List (Int × Int) × Int × Int × Int × Int × Int × List (Int × Int) × Int × Int × List (Int × Int) × List Int × List (Int × Int × Int) × Int × Int × Int) (fun k x => f_spec_faGo_j52 k x.1.2.1.1 x.1.2.1.2.1 x.1.2.1.2.2.1 x.1.2.2.1.1 x.1.2.2.1.2.1 x.1.2.2.1.2.2.1 x.1.2.2.2.1.1 x.1.2.2.2.1.2.1 x.1.2.2.2.2.1 x.1.2.2.2.2.2.1.1 x.1.2.2.2.2.2.1.2.1 x.1.2.2.2.2.2.2.1 x.2.1 x.2.2.1 x.2.2.2.1 x.2.2.2.2.2.2.2.2.1 x.2.2.2.2.2.2.2.2.2.1 x.2.2.2.2.2.2.2.2.2.2.1) (fun z => (((), (z.1, z.2.1, z.2.2.1, ()), (z.2.2.2.1, z.2.2.2.2.1, z.2.2.2.2.2.1, ()), (z.2.2.2.2.2.2.1, z.2.2.2.2.2.2.2.1, (), ()), z.2.2.2.2.2.2.2.2.1, (z.2.2.2.2.2.2.2.2.2.1, z.2.2.2.2.2.2.2.2.2.2.1, (), ()), z.2.2.2.2.2.2.2.2.2.2.2.1, ()), (z.2.2.2.2.2.2.2.2.2.2.2.2.1, z.2.2.2.2.2.2.2.2.2.2.2.2.2.1, z.2.2.2.2.2.2.2.2.2.2.2.2.2.2.1, (), (), (), (), z.2.2.2.2.2.2.2.2.2.2.2.2.2.2.2.1, z.2.2.2.2.2.2.2.2.2.2.2.2.2.2.2.2, ()))) (fun y => (y.1.2.1.1, y.1.2.1.2.1, y.1.2.1.2.2.1, y.1.2.2.1.1, y.1.2.2.1.2.1, y.1.2.2.1.2.2.1, y.1.2.2.2.1.1, y.1.2.2.2.1.2.1, y.1.2.2.2.2.1, y.1.2.2.2.2.2.1.1, y.1.2.2.2.2.2.1.2.1, y.1.2.2.2.2.2.2.1, y.2.1, y.2.2.1, y.2.2.2.1, y.2.2.2.2.2.2.2.2.1, y.2.2.2.2.2.2.2.2.2.1)) (fun _ => rfl)
noncomputable def f_spec_faGo_2 : Nat → Int → Int → List (Int × Int) → Int → Int → Int → Int → Int → List (Int × Int) → Int → Int → List (Int × Int) → List Int → List (Int × Int × Int) → Int → Int → Int → List (Int × Int × Int) → Int → Int → Option (Int × Int × List (Int × Int) × Int × Int × Int × Int × Int × List (Int × Int) × Int × Int × List (Int × Int) × List Int × List (Int × Int × Int) × Int × Int × Int)
  | 0, _, _, _, _, _, _, _, _, _, _, _, _, _, _, _, _, _, _, _, _ => none
  | k + 1, b1_0, b1_1, b1_2, b2_0, b2_1, b2_2, b3_0, b3_1, o4, b5_0, b5_1, o6, v1, v2, v3, v12, v15, v64, v65, v66 =>
    if decide (v66 < v65) = true then if (0 : Int) ≤ v66 then if v66 < (↑(List.length v64) : Int) then if decide (Prod.fst (List.getD v64 (Int.toNat v66) ((0 : Int), (0 : Int), (0 : Int))) = (1 : Int)) = true then if (0 : Int) ≤ wrap64 (wrap64 (Prod.fst (Prod.snd (List.getD v64 (Int.toNat v66) ((0 : Int), (0 : Int), (0 : Int)))) * b1_1) + Prod.snd (Prod.snd (List.getD v64 (Int.toNat v66) ((0 : Int), (0 : Int), (0 : Int))))) then if wrap64 (wrap64 (Prod.fst (Prod.snd (List.getD v64 (Int.toNat v66) ((0 : Int), (0 : Int), (0 : Int)))) * b1_1) + Prod.snd (Prod.snd (List.getD v64 (Int.toNat v66) ((0 : Int), (0 : Int), (0 : Int))))) < (↑(List.length b1_2) : Int) then if (0 : Int) ≤ wrap64 (wrap64 (Prod.fst (Prod.snd (List.getD v64 (Int.toNat v66) ((0 : Int), (0 : Int), (0 : Int)))) * b1_1) + Prod.snd (Prod.snd (List.getD v64 (Int.toNat v66) ((0 : Int), (0 : Int), (0 : Int))))) then if wrap64 (wrap64 (Prod.fst (Prod.snd (List.getD v64 (Int.toNat v66) ((0 : Int), (0 : Int), (0 : Int)))) * b1_1) + Prod.snd (Prod.snd (List.getD v64 (Int.toNat v66) ((0 : Int), (0 : Int), (0 : Int))))) < (↑(List.length o6) : Int) then f_spec_faGo_2 k b1_0 b1_1 b1_2 b2_0 b2_1 b2_2 b3_0 b3_1 o4 b5_0 b5_1 (List.set o6 (Int.toNat (wrap64 (wrap64 (Prod.fst (Prod.snd (List.getD v64 (Int.toNat v66) ((0 : Int), (0 : Int), (0 : Int)))) * b1_1) + Prod.snd (Prod.snd (List.getD v64 (Int.toNat v66) ((0 : Int), (0 : Int), (0 : Int))))))) (Prod.fst (List.getD b1_2 (Int.toNat (wrap64 (wrap64 (Prod.fst (Prod.snd (List.getD v64 (Int.toNat v66) ((0 : Int), (0 : Int), (0 : Int)))) * b1_1) + Prod.snd (Prod.snd (List.getD v64 (Int.toNat v66) ((0 : Int), (0 : Int), (0 : Int))))))) ((0 : Int), (0 : Int))), Prod.snd (List.getD b1_2 (Int.toNat (wrap64 (wrap64 (Prod.fst (Prod.snd (List.getD v64 (Int.toNat v66) ((0 : Int), (0 : Int), (0 : Int)))) * b1_1) + Prod.snd (Prod.snd (List.getD v64 (Int.toNat v66) ((0 : Int), (0 : Int), (0 : Int))))))) ((0 : Int), (0 : Int))))) v1 v2 v3 v12 v15 v64 v65 (wrap64 (v66 + (1 : Int))) else none else none else none else none else f_spec_faGo_2 k b1_0 b1_1 b1_2 b2_0 b2_1 b2_2 b3_0 b3_1 o4 b5_0 b5_1 o6 v1 v2 v3 v12 v15 v64 v65 (wrap64 (v66 + (1 : Int))) else none else none else some (b1_0, b1_1, b1_2, b2_0, b2_1, b2_2, b3_0, b3_1, o4, b5_0, b5_1, o6, v1, v2, v3, v12, v15)
noncomputable def f_spec_faGo_2i : Spec := { objs := [OSh.ro, OSh.box (32 : Nat) [Sh.int IntKind.i64, Sh.int IntKind.i64, Sh.snap (0 : Nat) (Ty.pair (Ty.int IntKind.i64) (Ty.int IntKind.i64))], OSh.box (91 : Nat) [Sh.int IntKind.i64, Sh.int IntKind.i64, Sh.int IntKind.i64], OSh.box (32 : Nat) [Sh.int IntKind.i64, Sh.int IntKind.i64, Sh.sl (4 : Nat)], OSh.row true (116 : Nat) (Ty.pair (Ty.int IntKind.i64) (Ty.int IntKind.i64)), OSh.box (32 : Nat) [Sh.int IntKind.i64, Sh.int IntKind.i64, Sh.sl (6 : Nat)], OSh.row true (116 : Nat) (Ty.pair (Ty.int IntKind.i64) (Ty.int IntKind.i64))], tmps := [((1 : Nat), TSh.at (Sh.snap (0 : Nat) (Ty.int IntKind.i64))), ((2 : Nat), TSh.at (Sh.snap (0 : Nat) (Ty.pair (Ty.int IntKind.i64) (Ty.pair (Ty.int IntKind.i64) (Ty.int IntKind.i64))))), ((3 : Nat), TSh.at (Sh.int IntKind.i64)), ((4 : Nat), TSh.at (Sh.ptr (1 : Nat) (0 : Nat))), ((8 : Nat), TSh.at (Sh.ptr (2 : Nat) (0 : Nat))), ((9 : Nat), TSh.at (Sh.ptr (3 : Nat) (0 : Nat))), ((10 : Nat), TSh.at (Sh.ptr (5 : Nat) (0 : Nat))), ((12 : Nat), TSh.at (Sh.int IntKind.i64)), ((15 : Nat), TSh.at (Sh.int IntKind.i64)), ((64 : Nat), TSh.at (Sh.snap (0 : Nat) (Ty.pair (Ty.int IntKind.i64) (Ty.pair (Ty.int IntKind.i64) (Ty.int IntKind.i64))))), ((65 : Nat), TSh.at (Sh.int IntKind.i64)), ((66 : Nat), TSh.at (Sh.int IntKind.i64))] }
noncomputable def f_spec_faGo_2o : Spec := { objs := [OSh.ro, OSh.box (32 : Nat) [Sh.int IntKind.i64, Sh.int IntKind.i64, Sh.snap (0 : Nat) (Ty.pair (Ty.int IntKind.i64) (Ty.int IntKind.i64))], OSh.box (91 : Nat) [Sh.int IntKind.i64, Sh.int IntKind.i64, Sh.int IntKind.i64], OSh.box (32 : Nat) [Sh.int IntKind.i64, Sh.int IntKind.i64, Sh.sl (4 : Nat)], OSh.row true (116 : Nat) (Ty.pair (Ty.int IntKind.i64) (Ty.int IntKind.i64)), OSh.box (32 : Nat) [Sh.int IntKind.i64, Sh.int IntKind.i64, Sh.sl (6 : Nat)], OSh.row true (116 : Nat) (Ty.pair (Ty.int IntKind.i64) (Ty.int IntKind.i64))], tmps := [((1 : Nat), TSh.at (Sh.snap (0 : Nat) (Ty.int IntKind.i64))), ((2 : Nat), TSh.at (Sh.snap (0 : Nat) (Ty.pair (Ty.int IntKind.i64) (Ty.pair (Ty.int IntKind.i64) (Ty.int IntKind.i64))))), ((3 : Nat), TSh.at (Sh.int IntKind.i64)), ((4 : Nat), TSh.at (Sh.ptr (1 : Nat) (0 : Nat))), ((8 : Nat), TSh.at (Sh.ptr (2 : Nat) (0 : Nat))), ((9 : Nat), TSh.at (Sh.ptr (3 : Nat) (0 : Nat))), ((10 : Nat), TSh.at (Sh.ptr (5 : Nat) (0 : Nat))), ((12 : Nat), TSh.at (Sh.int IntKind.i64)), ((15 : Nat), TSh.at (Sh.int IntKind.i64))] }
noncomputable def f_spec_faGo_2D : LoopDef (Tup r_spec_faGo × OutD) := .plain f_spec_faGo_2i f_spec_faGo_2o (Int × Int × List (Int × Int) × Int × Int × Int × Int × Int × List (Int × Int) × Int × Int × List (Int × Int) × List Int × List (Int × Int × Int) × Int × Int × Int) (fun k x => f_spec_faGo_2 k x.1.2.1.1 x.1.2.1.2.1 x.1.2.1.2.2.1 x.1.2.2.1.1 x.1.2.2.1.2.1 x.1.2.2.1.2.2.1 x.1.2.2.2.1.1 x.1.2.2.2.1.2.1 x.1.2.2.2.2.1 x.1.2.2.2.2.2.1.1 x.1.2.2.2.2.2.1.2.1 x.1.2.2.2.2.2.2.1 x.2.1 x.2.2.1 x.2.2.2.1 x.2.2.2.2.2.2.2.2.1 x.2.2.2.2.2.2.2.2.2.1 x.2.2.2.2.2.2.2.2.2.2.1 x.2.2.2.2.2.2.2.2.2.2.2.1 x.2.2.2.2.2.2.2.2.2.2.2.2.1) (fun z => (((), (z.1, z.2.1, z.2.2.1, ()), (z.2.2.2.1, z.2.2.2.2.1, z.2.2.2.2.2.1, ()), (z.2.2.2.2.2.2.1, z.2.2.2.2.2.2.2.1, (), ()), z.2.2.2.2.2.2.2.2.1, (z.2.2.2.2.2.2.2.2.2.1, z.2.2.2.2.2.2.2.2.2.2.1, (), ()), z.2.2.2.2.2.2.2.2.2.2.2.1, ()), (z.2.2.2.2.2.2.2.2.2.2.2.2.1, z.2.2.2.2.2.2.2.2.2.2.2.2.2.1, z.2.2.2.2.2.2.2.2.2.2.2.2.2.2.1, (), (), (), (), z.2.2.2.2.2.2.2.2.2.2.2.2.2.2.2.1, z.2.2.2.2.2.2.2.2.2.2.2.2.2.2.2.2, ()))) (fun y => (y.1.2.1.1, y.1.2.1.2.1, y.1.2.1.2.2.1, y.1.2.2.1.1, y.1.2.2.1.2.1, y.1.2.2.1.2.2.1, y.1.2.2.2.1.1, y.1.2.2.2.1.2.1, y.1.2.2.2.2.1, y.1.2.2.2.2.2.1.1, y.1.2.2.2.2.2.1.2.1, y.1.2.2.2.2.2.2.1, y.2.1, y.2.2.1, y.2.2.2.1, y.2.2.2.2.2.2.2.2.1, y.2.2.2.2.2.2.2.2.2.1)) (fun _ => rfl)
noncomputable def f_spec_faGo_g26 : Nat → Int → Int → Int → Int → Int → List (Int × Int) → Int → Int → List (Int × Int) → Int → Int → Option (Int × Int × Int × Int × Int × List (Int × Int)) := fun k b1_0 b1_1 b1_2 b2_0 b2_1 o3 b4_0 b4_1 o5 v3 v12 =>
    some ((3 : Int), v12, v3, b4_0, b4_1, o5)
noncomputable def f_spec_faGo_g26A : Nat → Int → Int → Int → Int → Int → List (Int × Int) → Int → Int → List (Int × Int) → Int → Int → Option (List (Int × Int × Int × Int × Int × List (Int × Int))) := fun k b1_0 b1_1 b1_2 b2_0 b2_1 o3 b4_0 b4_1 o5 v3 v12 =>
    joinL (some [((3 : Int), v12, v3, b4_0, b4_1, o5)]) (some [((3 : Int), v12, v3, b4_0, b4_1, o5)])
noncomputable def f_spec_faGo_g26i : Spec := { objs := [OSh.ro, OSh.box (91 : Nat) [Sh.int IntKind.i64, Sh.int IntKind.i64, Sh.int IntKind.i64], OSh.box (32 : Nat) [Sh.int IntKind.i64, Sh.int IntKind.i64, Sh.sl (3 : Nat)], OSh.row true (116 : Nat) (Ty.pair (Ty.int IntKind.i64) (Ty.int IntKind.i64)), OSh.box (32 : Nat) [Sh.int IntKind.i64, Sh.int IntKind.i64, Sh.sl (5 : Nat)], OSh.row true (116 : Nat) (Ty.pair (Ty.int IntKind.i64) (Ty.int IntKind.i64))], tmps := [((3 : Nat), TSh.at (Sh.int IntKind.i64)), ((8 : Nat), TSh.at (Sh.ptr (1 : Nat) (0 : Nat))), ((9 : Nat), TSh.at (Sh.ptr (2 : Nat) (0 : Nat))), ((10 : Nat), TSh.at (Sh.ptr (4 : Nat) (0 : Nat))), ((12 : Nat), TSh.at (Sh.int IntKind.i64))] }
noncomputable def f_spec_faGo_g26o : Spec := { objs := [OSh.ro, OSh.box (91 : Nat) [Sh.int IntKind.i64, Sh.int IntKind.i64, Sh.int IntKind.i64], OSh.box (32 : Nat) [Sh.int IntKind.i64, Sh.int IntKind.i64, Sh.sl (3 : Nat)], OSh.row true (116 : Nat) (Ty.pair (Ty.int IntKind.i64) (Ty.int IntKind.i64))], tmps := [((8 : Nat), TSh.at (Sh.ptr (1 : Nat) (0 : Nat))), ((9 : Nat), TSh.at (Sh.ptr (2 : Nat) (0 : Nat)))] }
noncomputable def f_spec_faGo_g26D : LoopDef (Tup r_spec_faGo × OutD) := .plain f_spec_faGo_g26i f_spec_faGo_g26o (Int × Int × Int × Int × Int × List (Int × Int)) (fun k x => f_spec_faGo_g26 k x.1.2.1.1 x.1.2.1.2.1 x.1.2.1.2.2.1 x.1.2.2.1.1 x.1.2.2.1.2.1 x.1.2.2.2.1 x.1.2.2.2.2.1.1 x.1.2.2.2.2.1.2.1 x.1.2.2.2.2.2.1 x.2.1 x.2.2.2.2.2.1) (fun z => (((), (z.1, z.2.1, z.2.2.1, ()), (z.2.2.2.1, z.2.2.2.2.1, (), ()), z.2.2.2.2.2, ()), ((), (), ()))) (fun y => (y.1.2.1.1, y.1.2.1.2.1, y.1.2.1.2.2.1, y.1.2.2.1.1, y.1.2.2.1.2.1, y.1.2.2.2.1)) (fun _ => rfl)
theorem f_spec_faGo_g26j (k : Nat) (b1_0 : Int) (b1_1 : Int) (b1_2 : Int) (b2_0 : Int) (b2_1 : Int) (o3 : List (Int × Int)) (b4_0 : Int) (b4_1 : Int) (o5 : List (Int × Int)) (v3 : Int) (v12 : Int) : f_spec_faGo_g26A k b1_0 b1_1 b1_2 b2_0 b2_1 o3 b4_0 b4_1 o5 v3 v12 = repl 2 (f_spec_faGo_g26 k b1_0 b1_1 b1_2 b2_0 b2_1 o3 b4_0 b4_1 o5 v3 v12) := by
  simp only [f_spec_faGo_g26A, f_spec_faGo_g26, repl_some, repl_ite, repl_ite0, repl_ite1, repl_bind, joinL_repl, if_true]
noncomputable def f_spec_faGo_0 : Nat → Int → Int → List (Int × Int) → Int → Int → Int → Int → Int → List (Int × Int) → Int → Int → List (Int × Int) → List Int → List (Int × Int × Int) → Int → Int → Int → Option (LR (Int × Int × List (Int × Int) × Int × Int × Int × Int × Int × List (Int × Int) × Int × Int × List (Int × Int) × Int) ((Int × Int × Int) × Int × Int × List (Int × Int)))
  | 0, _, _, _, _, _, _, _, _, _, _, _, _, _, _, _, _, _ => none
  | k + 1, b1_0, b1_1, b1_2, b2_0, b2_1, b2_2, b3_0, b3_1, o4, b5_0, b5_1, o6, v1, v2, v3, v11, v12 =>
    if decide (v12 < b1_0) = true then Option.bind (f_spec_boAt k (b5_0, b5_1, o6) v12 v3) fun z1 => Option.bind (f_spec_faAt k v2 v12 v3) fun z2 => if decide (z2 = (2 : Int)) = true then Option.bind (f_spec_faGo_g9 k b2_0 b2_1 b2_2 b3_0 b3_1 o4 b5_0 b5_1 o6 v3 v12) fun z3 => some (LR.ret ((Prod.fst z3, Prod.fst (Prod.snd z3), Prod.fst (Prod.snd (Prod.snd z3))), Prod.fst (Prod.snd (Prod.snd (Prod.snd z3))), Prod.fst (Prod.snd (Prod.snd (Prod.snd (Prod.snd z3)))), Prod.snd (Prod.snd (Prod.snd (Prod.snd (Prod.snd z3)))))) else if decide (Prod.fst z1 = (5 : Int)) = true then Option.bind (f_spec_faGo_g11 k b2_0 b2_1 b2_2 b3_0 b3_1 o4 b5_0 b5_1 o6 v3 v12) fun z4 => some (LR.ret ((Prod.fst z4, Prod.fst (Prod.snd z4), Prod.fst (Prod.snd (Prod.snd z4))), Prod.fst (Prod.snd (Prod.snd (Prod.snd z4))), Prod.fst (Prod.snd (Prod.snd (Prod.snd (Prod.snd z4)))), Prod.snd (Prod.snd (Prod.snd (Prod.snd (Prod.snd z4)))))) else Option.bind (f_spec_paGoes k (Prod.fst z1, Prod.snd z1) v11) fun z5 => Option.bind (f_spec_faGo_j52 k b1_0 b1_1 b1_2 b2_0 b2_1 b2_2 b3_0 b3_1 o4 b5_0 b5_1 o6 v1 v2 v3 v12 z5 (decide (z2 = (3 : Int)))) fun z6 => Option.bind (f_spec_flPass k (Prod.fst (Prod.snd (Prod.snd (Prod.snd (Prod.snd (Prod.snd (Prod.snd (Prod.snd (Prod.snd (Prod.snd z6))))))))), Prod.fst (Prod.snd (Prod.snd (Prod.snd (Prod.snd (Prod.snd (Prod.snd (Prod.snd (Prod.snd (Prod.snd (Prod.snd z6)))))))))), Prod.fst (Prod.snd (Prod.snd (Prod.snd (Prod.snd (Prod.snd (Prod.snd (Prod.snd (Prod.snd (Prod.snd (Prod.snd (Prod.snd z6)))))))))))) (Prod.fst (Prod.snd (Prod.snd (Prod.snd (Prod.snd (Prod.snd (Prod.snd (Prod.snd (Prod.snd (Prod.snd (Prod.snd (Prod.snd (Prod.snd z6))))))))))))) (wrap64 (wrap64 (Prod.fst (Prod.snd (Prod.snd (Prod.snd (Prod.snd (Prod.snd (Prod.snd (Prod.snd (Prod.snd (Prod.snd (Prod.snd (Prod.snd (Prod.snd (Prod.snd (Prod.snd (Prod.snd z6))))))))))))))) * Prod.fst (Prod.snd z6)) + Prod.fst (Prod.snd (Prod.snd (Prod.snd (Prod.snd (Prod.snd (Prod.snd (Prod.snd (Prod.snd (Prod.snd (Prod.snd (Prod.snd (Prod.snd (Prod.snd (Prod.snd z6))))))))))))))))) fun z7 => Option.bind (f_spec_faGo_2 k (Prod.fst z6) (Prod.fst (Prod.snd z6)) (Prod.fst (Prod.snd (Prod.snd z6))) (Prod.fst (Prod.snd (Prod.snd (Prod.snd z6)))) (Prod.fst (Prod.snd (Prod.snd (Prod.snd (Prod.snd z6))))) (Prod.fst (Prod.snd (Prod.snd (Prod.snd (Prod.snd (Prod.snd z6)))))) (Prod.fst (Prod.snd (Prod.snd (Prod.snd (Prod.snd (Prod.snd (Prod.snd z6))))))) (Prod.fst (Prod.snd (Prod.snd (Prod.snd (Prod.snd (Prod.snd (Prod.snd (Prod.snd z6)))))))) (Prod.fst (Prod.snd (Prod.snd (Prod.snd (Prod.snd (Prod.snd (Prod.snd (Prod.snd (Prod.snd z6))))))))) (Prod.fst (Prod.snd (Prod.snd (Prod.snd (Prod.snd (Prod.snd (Prod.snd (Prod.snd (Prod.snd (Prod.snd z6)))))))))) (Prod.fst (Prod.snd (Prod.snd (Prod.snd (Prod.snd (Prod.snd (Prod.snd (Prod.snd (Prod.snd (Prod.snd (Prod.snd z6))))))))))) z7 (Prod.fst (Prod.snd (Prod.snd (Prod.snd (Prod.snd (Prod.snd (Prod.snd (Prod.snd (Prod.snd (Prod.snd (Prod.snd (Prod.snd (Prod.snd z6))))))))))))) (Prod.fst (Prod.snd (Prod.snd (Prod.snd (Prod.snd (Prod.snd (Prod.snd (Prod.snd (Prod.snd (Prod.snd (Prod.snd (Prod.snd (Prod.snd (Prod.snd z6)))))))))))))) (Prod.fst (Prod.snd (Prod.snd (Prod.snd (Prod.snd (Prod.snd (Prod.snd (Prod.snd (Prod.snd (Prod.snd (Prod.snd (Prod.snd (Prod.snd (Prod.snd (Prod.snd z6))))))))))))))) (Prod.fst (Prod.snd (Prod.snd (Prod.snd (Prod.snd (Prod.snd (Prod.snd (Prod.snd (Prod.snd (Prod.snd (Prod.snd (Prod.snd (Prod.snd (Prod.snd (Prod.snd (Prod.snd z6)))))))))))))))) (Prod.snd (Prod.snd (Prod.snd (Prod.snd (Prod.snd (Prod.snd (Prod.snd (Prod.snd (Prod.snd (Prod.snd (Prod.snd (Prod.snd (Prod.snd (Prod.snd (Prod.snd (Prod.snd z6)))))))))))))))) (Prod.fst (Prod.snd (Prod.snd (Prod.snd (Prod.snd (Prod.snd (Prod.snd (Prod.snd (Prod.snd (Prod.snd (Prod.snd (Prod.snd (Prod.snd (Prod.snd z6)))))))))))))) (↑(List.length (Prod.fst (Prod.snd (Prod.snd (Prod.snd (Prod.snd (Prod.snd (Prod.snd (Prod.snd (Prod.snd (Prod.snd (Prod.snd (Prod.snd (Prod.snd (Prod.snd z6))))))))))))))) : Int) (0 : Int)) fun z8 => Option.bind (f_spec_l1In k (wrap64 (Prod.fst (Prod.snd (Prod.snd (Prod.snd (Prod.snd (Prod.snd (Prod.snd (Prod.snd (Prod.snd (Prod.snd (Prod.snd (Prod.snd (Prod.snd (Prod.snd (Prod.snd z8)))))))))))))) + Prod.snd (Prod.snd (Prod.snd (Prod.snd (Prod.snd (Prod.snd (Prod.snd (Prod.snd (Prod.snd (Prod.snd (Prod.snd (Prod.snd (Prod.snd (Prod.snd (Prod.snd (Prod.snd z8))))))))))))))))) (0 : Int) (wrap64 (Prod.fst (Prod.snd z8) - (1 : Int)))) fun z9 => if (!z9) = true then Option.bind (f_spec_faGo_g26 k (Prod.fst (Prod.snd (Prod.snd (Prod.snd z8)))) (Prod.fst (Prod.snd (Prod.snd (Prod.snd (Prod.snd z8))))) (Prod.fst (Prod.snd (Prod.snd (Prod.snd (Prod.snd (Prod.snd z8)))))) (Prod.fst (Prod.snd (Prod.snd (Prod.snd (Prod.snd (Prod.snd (Prod.snd z8))))))) (Prod.fst (Prod.snd (Prod.snd (Prod.snd (Prod.snd (Prod.snd (Prod.snd (Prod.snd z8)))))))) (Prod.fst (Prod.snd (Prod.snd (Prod.snd (Prod.snd (Prod.snd (Prod.snd (Prod.snd (Prod.snd z8))))))))) (Prod.fst (Prod.snd (Prod.snd (Prod.snd (Prod.snd (Prod.snd (Prod.snd (Prod.snd (Prod.snd (Prod.snd z8)))))))))) (Prod.fst (Prod.snd (Prod.snd (Prod.snd (Prod.snd (Prod.snd (Prod.snd (Prod.snd (Prod.snd (Prod.snd (Prod.snd z8))))))))))) (Prod.fst (Prod.snd (Prod.snd (Prod.snd (Prod.snd (Prod.snd (Prod.snd (Prod.snd (Prod.snd (Prod.snd (Prod.snd (Prod.snd z8)))))))))))) (wrap64 (Prod.fst (Prod.snd (Prod.snd (Prod.snd (Prod.snd (Prod.snd (Prod.snd (Prod.snd (Prod.snd (Prod.snd (Prod.snd (Prod.snd (Prod.snd (Prod.snd (Prod.snd z8)))))))))))))) + Prod.snd (Prod.snd (Prod.snd (Prod.snd (Prod.snd (Prod.snd (Prod.snd (Prod.snd (Prod.snd (Prod.snd (Prod.snd (Prod.snd (Prod.snd (Prod.snd (Prod.snd (Prod.snd z8))))))))))))))))) (Prod.fst (Prod.snd (Prod.snd (Prod.snd (Prod.snd (Prod.snd (Prod.snd (Prod.snd (Prod.snd (Prod.snd (Prod.snd (Prod.snd (Prod.snd (Prod.snd (Prod.snd (Prod.snd z8))))))))))))))))) fun z10 => some (LR.ret ((Prod.fst z10, Prod.fst (Prod.snd z10), Prod.fst (Prod.snd (Prod.snd z10))), Prod.fst (Prod.snd (Prod.snd (Prod.snd z10))), Prod.fst (Prod.snd (Prod.snd (Prod.snd (Prod.snd z10)))), Prod.snd (Prod.snd (Prod.snd (Prod.snd (Prod.snd z10)))))) else f_spec_faGo_0 k (Prod.fst z8) (Prod.fst (Prod.snd z8)) (Prod.fst (Prod.snd (Prod.snd z8))) (Prod.fst (Prod.snd (Prod.snd (Prod.snd z8)))) (Prod.fst (Prod.snd (Prod.snd (Prod.snd (Prod.snd z8))))) (Prod.fst (Prod.snd (Prod.snd (Prod.snd (Prod.snd (Prod.snd z8)))))) (Prod.fst (Prod.snd (Prod.snd (Prod.snd (Prod.snd (Prod.snd (Prod.snd z8))))))) (Prod.fst (Prod.snd (Prod.snd (Prod.snd (Prod.snd (Prod.snd (Prod.snd (Prod.snd z8)))))))) (Prod.fst (Prod.snd (Prod.snd (Prod.snd (Prod.snd (Prod.snd (Prod.snd (Prod.snd (Prod.snd z8))))))))) (Prod.fst (Prod.snd (Prod.snd (Prod.snd (Prod.snd (Prod.snd (Prod.snd (Prod.snd (Prod.snd (Prod.snd z8)))))))))) (Prod.fst (Prod.snd (Prod.snd (Prod.snd (Prod.snd (Prod.snd (Prod.snd (Prod.snd (Prod.snd (Prod.snd (Prod.snd z8))))))))))) (Prod.fst (Prod.snd (Prod.snd (Prod.snd (Prod.snd (Prod.snd (Prod.snd (Prod.snd (Prod.snd (Prod.snd (Prod.snd (Prod.snd z8)))))))))))) (Prod.fst (Prod.snd (Prod.snd (Prod.snd (Prod.snd (Prod.snd (Prod.snd (Prod.snd (Prod.snd (Prod.snd (Prod.snd (Prod.snd (Prod.snd z8))))))))))))) (Prod.fst (Prod.snd (Prod.snd (Prod.snd (Prod.snd (Prod.snd (Prod.snd (Prod.snd (Prod.snd (Prod.snd (Prod.snd (Prod.snd (Prod.snd (Prod.snd z8)))))))))))))) (wrap64 (Prod.fst (Prod.snd (Prod.snd (Prod.snd (Prod.snd (Prod.snd (Prod.snd (Prod.snd (Prod.snd (Prod.snd (Prod.snd (Prod.snd (Prod.snd (Prod.snd (Prod.snd z8)))))))))))))) + Prod.snd (Prod.snd (Prod.snd (Prod.snd (Prod.snd (Prod.snd (Prod.snd (Prod.snd (Prod.snd (Prod.snd (Prod.snd (Prod.snd (Prod.snd (Prod.snd (Prod.snd (Prod.snd z8))))))))))))))))) (wrap64 ((0 : Int) - Prod.snd (Prod.snd (Prod.snd (Prod.snd (Prod.snd (Prod.snd (Prod.snd (Prod.snd (Prod.snd (Prod.snd (Prod.snd (Prod.snd (Prod.snd (Prod.snd (Prod.snd (Prod.snd z8))))))))))))))))) (wrap64 (Prod.fst (Prod.snd (Prod.snd (Prod.snd (Prod.snd (Prod.snd (Prod.snd (Prod.snd (Prod.snd (Prod.snd (Prod.snd (Prod.snd (Prod.snd (Prod.snd (Prod.snd (Prod.snd z8))))))))))))))) + (1 : Int))) else some (LR.go (b1_0, b1_1, b1_2, b2_0, b2_1, b2_2, b3_0, b3_1, o4, b5_0, b5_1, o6, v3))
noncomputable def f_spec_faGo_0i : Spec := { objs := [OSh.ro, OSh.box (32 : Nat) [Sh.int IntKind.i64, Sh.int IntKind.i64, Sh.snap (0 : Nat) (Ty.pair (Ty.int IntKind.i64) (Ty.int IntKind.i64))], OSh.box (91 : Nat) [Sh.int IntKind.i64, Sh.int IntKind.i64, Sh.int IntKind.i64], OSh.box (32 : Nat) [Sh.int IntKind.i64, Sh.int IntKind.i64, Sh.sl (4 : Nat)], OSh.row true (116 : Nat) (Ty.pair (Ty.int IntKind.i64) (Ty.int IntKind.i64)), OSh.box (32 : Nat) [Sh.int IntKind.i64, Sh.int IntKind.i64, Sh.sl (6 : Nat)], OSh.row true (116 : Nat) (Ty.pair (Ty.int IntKind.i64) (Ty.int IntKind.i64))], tmps := [((1 : Nat), TSh.at (Sh.snap (0 : Nat) (Ty.int IntKind.i64))), ((2 : Nat), TSh.at (Sh.snap (0 : Nat) (Ty.pair (Ty.int IntKind.i64) (Ty.pair (Ty.int IntKind.i64) (Ty.int IntKind.i64))))), ((3 : Nat), TSh.at (Sh.int IntKind.i64)), ((4 : Nat), TSh.at (Sh.ptr (1 : Nat) (0 : Nat))), ((8 : Nat), TSh.at (Sh.ptr (2 : Nat) (0 : Nat))), ((9 : Nat), TSh.at (Sh.ptr (3 : Nat) (0 : Nat))), ((10 : Nat), TSh.at (Sh.ptr (5 : Nat) (0 : Nat))), ((11 : Nat), TSh.at (Sh.int IntKind.i64)), ((12 : Nat), TSh.at (Sh.int IntKind.i64))] }
noncomputable def f_spec_faGo_0o : Spec := { objs := [OSh.ro, OSh.box (32 : Nat) [Sh.int IntKind.i64, Sh.int IntKind.i64, Sh.snap (0 : Nat) (Ty.pair (Ty.int IntKind.i64) (Ty.int IntKind.i64))], OSh.box (91 : Nat) [Sh.int IntKind.i64, Sh.int IntKind.i64, Sh.int IntKind.i64], OSh.box (32 : Nat) [Sh.int IntKind.i64, Sh.int IntKind.i64, Sh.sl (4 : Nat)], OSh.row true (116 : Nat) (Ty.pair (Ty.int IntKind.i64) (Ty.int IntKind.i64)), OSh.box (32 : Nat) [Sh.int IntKind.i64, Sh.int IntKind.i64, Sh.sl (6 : Nat)], OSh.row true (116 : Nat) (Ty.pair (Ty.int IntKind.i64) (Ty.int IntKind.i64))], tmps := [((3 : Nat), TSh.at (Sh.int IntKind.i64)), ((4 : Nat), TSh.at (Sh.ptr (1 : Nat) (0 : Nat))), ((8 : Nat), TSh.at (Sh.ptr (2 : Nat) (0 : Nat))), ((9 : Nat), TSh.at (Sh.ptr (3 : Nat) (0 : Nat))), ((10 : Nat), TSh.at (Sh.ptr (5 : Nat) (0 : Nat)))] }
noncomputable def f_spec_faGo_0D : LoopDef (Tup r_spec_faGo × OutD) := .rets f_spec_faGo_0i f_spec_faGo_0o (Int × Int × List (Int × Int) × Int × Int × Int × Int × Int × List (Int × Int) × Int × Int × List (Int × Int) × Int) ((Int × Int × Int) × Int × Int × List (Int × Int)) (fun k x => f_spec_faGo_0 k x.1.2.1.1 x.1.2.1.2.1 x.1.2.1.2.2.1 x.1.2.2.1.1 x.1.2.2.1.2.1 x.1.2.2.1.2.2.1 x.1.2.2.2.1.1 x.1.2.2.2.1.2.1 x.1.2.2.2.2.1 x.1.2.2.2.2.2.1.1 x.1.2.2.2.2.2.1.2.1 x.1.2.2.2.2.2.2.1 x.2.1 x.2.2.1 x.2.2.2.1 x.2.2.2.2.2.2.2.2.1 x.2.2.2.2.2.2.2.2.2.1) (fun z => (((), (z.1, z.2.1, z.2.2.1, ()), (z.2.2.2.1, z.2.2.2.2.1, z.2.2.2.2.2.1, ()), (z.2.2.2.2.2.2.1, z.2.2.2.2.2.2.2.1, (), ()), z.2.2.2.2.2.2.2.2.1, (z.2.2.2.2.2.2.2.2.2.1, z.2.2.2.2.2.2.2.2.2.2.1, (), ()), z.2.2.2.2.2.2.2.2.2.2.2.1, ()), (z.2.2.2.2.2.2.2.2.2.2.2.2, (), (), (), (), ()))) (fun y => (y.1.2.1.1, y.1.2.1.2.1, y.1.2.1.2.2.1, y.1.2.2.1.1, y.1.2.2.1.2.1, y.1.2.2.1.2.2.1, y.1.2.2.2.1.1, y.1.2.2.2.1.2.1, y.1.2.2.2.2.1, y.1.2.2.2.2.2.1.1, y.1.2.2.2.2.2.1.2.1, y.1.2.2.2.2.2.2.1, y.2.1)) (fun _ => rfl) to_spec_faGo of_spec_faGo to_of_spec_faGo
noncomputable def f_spec_faGo_g27 : Nat → Int → Int → List (Int × Int) → Int → Int → Int → Int → Int → List (Int × Int) → Int → Int → List (Int × Int) → Int → Option (Int × Int × Int × Int × Int × List (Int × Int)) := fun k b1_0 b1_1 b1_2 b2_0 b2_1 b2_2 b3_0 b3_1 o4 b5_0 b5_1 o6 v3 =>
    some ((1 : Int), b1_0, v3, b5_0, b5_1, o6)
noncomputable def f_spec_faGo_g27A : Nat → Int → Int → List (Int × Int) → Int → Int → Int → Int → Int → List (Int × Int) → Int → Int → List (Int × Int) → Int → Option (List (Int × Int × Int × Int × Int × List (Int × Int))) := fun k b1_0 b1_1 b1_2 b2_0 b2_1 b2_2 b3_0 b3_1 o4 b5_0 b5_1 o6 v3 =>
    joinL (some [((1 : Int), b1_0, v3, b5_0, b5_1, o6)]) (some [((1 : Int), b1_0, v3, b5_0, b5_1, o6)])
noncomputable def f_spec_faGo_g27i : Spec := { objs := [OSh.ro, OSh.box (32 : Nat) [Sh.int IntKind.i64, Sh.int IntKind.i64, Sh.snap (0 : Nat) (Ty.pair (Ty.int IntKind.i64) (Ty.int IntKind.i64))], OSh.box (91 : Nat) [Sh.int IntKind.i64, Sh.int IntKind.i64, Sh.int IntKind.i64], OSh.box (32 : Nat) [Sh.int IntKind.i64, Sh.int IntKind.i64, Sh.sl (4 : Nat)], OSh.row true (116 : Nat) (Ty.pair (Ty.int IntKind.i64) (Ty.int IntKind.i64)), OSh.box (32 : Nat) [Sh.int IntKind.i64, Sh.int IntKind.i64, Sh.sl (6 : Nat)], OSh.row true (116 : Nat) (Ty.pair (Ty.int IntKind.i64) (Ty.int IntKind.i64))], tmps := [((3 : Nat), TSh.at (Sh.int IntKind.i64)), ((4 : Nat), TSh.at (Sh.ptr (1 : Nat) (0 : Nat))), ((8 : Nat), TSh.at (Sh.ptr (2 : Nat) (0 : Nat))), ((9 : Nat), TSh.at (Sh.ptr (3 : Nat) (0 : Nat))), ((10 : Nat), TSh.at (Sh.ptr (5 : Nat) (0 : Nat)))] }
noncomputable def f_spec_faGo_g27o : Spec := { objs := [OSh.ro, OSh.box (91 : Nat) [Sh.int IntKind.i64, Sh.int IntKind.i64, Sh.int IntKind.i64], OSh.box (32 : Nat) [Sh.int IntKind.i64, Sh.int IntKind.i64, Sh.sl (3 : Nat)], OSh.row true (116 : Nat) (Ty.pair (Ty.int IntKind.i64) (Ty.int IntKind.i64))], tmps := [((8 : Nat), TSh.at (Sh.ptr (1 : Nat) (0 : Nat))), ((9 : Nat), TSh.at (Sh.ptr (2 : Nat) (0 : Nat)))] }
noncomputable def f_spec_faGo_g27D : LoopDef (Tup r_spec_faGo × OutD) := .plain f_spec_faGo_g27i f_spec_faGo_g27o (Int × Int × Int × Int × Int × List (Int × Int)) (fun k x => f_spec_faGo_g27 k x.1.2.1.1 x.1.2.1.2.1 x.1.2.1.2.2.1 x.1.2.2.1.1 x.1.2.2.1.2.1 x.1.2.2.1.2.2.1 x.1.2.2.2.1.1 x.1.2.2.2.1.2.1 x.1.2.2.2.2.1 x.1.2.2.2.2.2.1.1 x.1.2.2.2.2.2.1.2.1 x.1.2.2.2.2.2.2.1 x.2.1) (fun z => (((), (z.1, z.2.1, z.2.2.1, ()), (z.2.2.2.1, z.2.2.2.2.1, (), ()), z.2.2.2.2.2, ()), ((), (), ()))) (fun y => (y.1.2.1.1, y.1.2.1.2.1, y.1.2.1.2.2.1, y.1.2.2.1.1, y.1.2.2.1.2.1, y.1.2.2.2.1)) (fun _ => rfl)
theorem f_spec_faGo_g27j (k : Nat) (b1_0 : Int) (b1_1 : Int) (b1_2 : List (Int × Int)) (b2_0 : Int) (b2_1 : Int) (b2_2 : Int) (b3_0 : Int) (b3_1 : Int) (o4 : List (Int × Int)) (b5_0 : Int) (b5_1 : Int) (o6 : List (Int × Int)) (v3 : Int) : f_spec_faGo_g27A k b1_0 b1_1 b1_2 b2_0 b2_1 b2_2 b3_0 b3_1 o4 b5_0 b5_1 o6 v3 = repl 2 (f_spec_faGo_g27 k b1_0 b1_1 b1_2 b2_0 b2_1 b2_2 b3_0 b3_1 o4 b5_0 b5_1 o6 v3) := by
  simp only [f_spec_faGo_g27A, f_spec_faGo_g27, repl_some, repl_ite, repl_ite0, repl_ite1, repl_bind, joinL_repl, if_true]
noncomputable def f_spec_faGo : Nat → Int × Int × List (Int × Int) → List Int → List (Int × Int × Int) → Int → Option ((Int × Int × Int) × Int × Int × List (Int × Int))
  | 0, _, _, _, _ => none
  | k + 1, p0, p1, p2, p3 =>
    Option.bind (f_spec_boOwn k (Prod.fst p0, Prod.fst (Prod.snd p0), Prod.snd (Prod.snd p0))) fun z0 => Option.bind (f_spec_faGo_0 k (Prod.fst p0) (Prod.fst (Prod.snd p0)) (Prod.snd (Prod.snd p0)) (0 : Int) (0 : Int) (0 : Int) (0 : Int) (0 : Int) [] (Prod.fst z0) (Prod.fst (Prod.snd z0)) (Prod.snd (Prod.snd z0)) p1 p2 p3 (0 : Int) (0 : Int)) fun z11 => LR.on z11 (fun y11 => Option.bind (f_spec_faGo_g27 k (Prod.fst y11) (Prod.fst (Prod.snd y11)) (Prod.fst (Prod.snd (Prod.snd y11))) (Prod.fst (Prod.snd (Prod.snd (Prod.snd y11)))) (Prod.fst (Prod.snd (Prod.snd (Prod.snd (Prod.snd y11))))) (Prod.fst (Prod.snd (Prod.snd (Prod.snd (Prod.snd (Prod.snd y11)))))) (Prod.fst (Prod.snd (Prod.snd (Prod.snd (Prod.snd (Prod.snd (Prod.snd y11))))))) (Prod.fst (Prod.snd (Prod.snd (Prod.snd (Prod.snd (Prod.snd (Prod.snd (Prod.snd y11)))))))) (Prod.fst (Prod.snd (Prod.snd (Prod.snd (Prod.snd (Prod.snd (Prod.snd (Prod.snd (Prod.snd y11))))))))) (Prod.fst (Prod.snd (Prod.snd (Prod.snd (Prod.snd (Prod.snd (Prod.snd (Prod.snd (Prod.snd (Prod.snd y11)))))))))) (Prod.fst (Prod.snd (Prod.snd (Prod.snd (Prod.snd (Prod.snd (Prod.snd (Prod.snd (Prod.snd (Prod.snd (Prod.snd y11))))))))))) (Prod.fst (Prod.snd (Prod.snd (Prod.snd (Prod.snd (Prod.snd (Prod.snd (Prod.snd (Prod.snd (Prod.snd (Prod.snd (Prod.snd y11)))))))))))) (Prod.snd (Prod.snd (Prod.snd (Prod.snd (Prod.snd (Prod.snd (Prod.snd (Prod.snd (Prod.snd (Prod.snd (Prod.snd (Prod.snd y11))))))))))))) fun z12 => some ((Prod.fst z12, Prod.fst (Prod.snd z12), Prod.fst (Prod.snd (Prod.snd z12))), Prod.fst (Prod.snd (Prod.snd (Prod.snd z12))), Prod.fst (Prod.snd (Prod.snd (Prod.snd (Prod.snd z12)))), Prod.snd (Prod.snd (Prod.snd (Prod.snd (Prod.snd z12)))))) fun r11 => some r11
noncomputable def d_spec_faGo : FnDef := .of q_spec_faGo r_spec_faGo ((Int × Int × Int) × Int × Int × List (Int × Int)) (fun k x => f_spec_faGo k x.1 x.2.1 x.2.2.1 x.2.2.2.1) to_spec_faGo of_spec_faGo to_of_spec_faGo
noncomputable def c_spec_faGo : Code := Try.f138.body.getD .skip
noncomputable def x_spec_faGo : Ctx (Tup r_spec_faGo × OutD) := { T := T, G := [(136, d_spec_boOwn.E), (121, d_spec_boAt.E), (148, d_spec_faAt.E), (149, d_spec_paGoes.E), (150, d_spec_flPass.E), (114, d_spec_l1In.E)], mvs := [], no := 0, n := 111, res := resOf T q_spec_faGo r_spec_faGo Try.f138.results.toList, loops := [(2, f_spec_faGo_2D.E), (0, f_spec_faGo_0D.E)], regs := [(9, f_spec_faGo_g9D.E), (11, f_spec_faGo_g11D.E), (26, f_spec_faGo_g26D.E), (27, f_spec_faGo_g27D.E)], conds := [(52, f_spec_faGo_j52D.E)] }
theorem g_spec_faGo (k : Nat) : EnvOK Try.prog k x_spec_faGo.G := (EnvOK.cons (s_spec_boOwn k) (EnvOK.cons (s_spec_boAt k) (EnvOK.cons (s_spec_faAt k) (EnvOK.cons (s_spec_paGoes k) (EnvOK.cons (s_spec_flPass k) (EnvOK.cons (s_spec_l1In k) (EnvOK.nil mixed)))))))
noncomputable def f_spec_faGo_g9O : Array Oper := (findReg 9 c_spec_faGo).getD #[]
theorem f_spec_faGo_g9e (k : Nat) (x : f_spec_faGo_g9i.D) : execD x_spec_faGo.T x_spec_faGo.G x_spec_faGo.mvs k f_spec_faGo_g9O (f_spec_faGo_g9D.inp.st x_spec_faGo.n x) (outK x_spec_faGo f_spec_faGo_g9D) = f_spec_faGo_g9A k x.1.2.1.1 x.1.2.1.2.1 x.1.2.1.2.2.1 x.1.2.2.1.1 x.1.2.2.1.2.1 x.1.2.2.2.1 x.1.2.2.2.2.1.1 x.1.2.2.2.2.1.2.1 x.1.2.2.2.2.2.1 x.2.1 x.2.2.2.2.2.1 := by kernel_rfl
theorem f_spec_faGo_g9ok (k : Nat) : EOK Try.prog x_spec_faGo k f_spec_faGo_g9D.E (.region 9 f_spec_faGo_g9O true) := reg_ok (D := f_spec_faGo_g9D) (m := 2) T_ok (g_spec_faGo k) (fun x => (f_spec_faGo_g9e k x).trans (f_spec_faGo_g9j k x.1.2.1.1 x.1.2.1.2.1 x.1.2.1.2.2.1 x.1.2.2.1.1 x.1.2.2.1.2.1 x.1.2.2.2.1 x.1.2.2.2.2.1.1 x.1.2.2.2.2.1.2.1 x.1.2.2.2.2.2.1 x.2.1 x.2.2.2.2.2.1))
noncomputable def f_spec_faGo_g11O : Array Oper := (findReg 11 c_spec_faGo).getD #[]
theorem f_spec_faGo_g11e (k : Nat) (x : f_spec_faGo_g11i.D) : execD x_spec_faGo.T x_spec_faGo.G x_spec_faGo.mvs k f_spec_faGo_g11O (f_spec_faGo_g11D.inp.st x_spec_faGo.n x) (outK x_spec_faGo f_spec_faGo_g11D) = f_spec_faGo_g11A k x.1.2.1.1 x.1.2.1.2.1 x.1.2.1.2.2.1 x.1.2.2.1.1 x.1.2.2.1.2.1 x.1.2.2.2.1 x.1.2.2.2.2.1.1 x.1.2.2.2.2.1.2.1 x.1.2.2.2.2.2.1 x.2.1 x.2.2.2.2.2.1 := by kernel_rfl
theorem f_spec_faGo_g11ok (k : Nat) : EOK Try.prog x_spec_faGo k f_spec_faGo_g11D.E (.region 11 f_spec_faGo_g11O true) := reg_ok (D := f_spec_faGo_g11D) (m := 2) T_ok (g_spec_faGo k) (fun x => (f_spec_faGo_g11e k x).trans (f_spec_faGo_g11j k x.1.2.1.1 x.1.2.1.2.1 x.1.2.1.2.2.1 x.1.2.2.1.1 x.1.2.2.1.2.1 x.1.2.2.2.1 x.1.2.2.2.2.1.1 x.1.2.2.2.2.1.2.1 x.1.2.2.2.2.2.1 x.2.1 x.2.2.2.2.2.1))
noncomputable def f_spec_faGo_g26O : Array Oper := (findReg 26 c_spec_faGo).getD #[]
theorem f_spec_faGo_g26e (k : Nat) (x : f_spec_faGo_g26i.D) : execD x_spec_faGo.T x_spec_faGo.G x_spec_faGo.mvs k f_spec_faGo_g26O (f_spec_faGo_g26D.inp.st x_spec_faGo.n x) (outK x_spec_faGo f_spec_faGo_g26D) = f_spec_faGo_g26A k x.1.2.1.1 x.1.2.1.2.1 x.1.2.1.2.2.1 x.1.2.2.1.1 x.1.2.2.1.2.1 x.1.2.2.2.1 x.1.2.2.2.2.1.1 x.1.2.2.2.2.1.2.1 x.1.2.2.2.2.2.1 x.2.1 x.2.2.2.2.2.1 := by kernel_rfl
theorem f_spec_faGo_g26ok (k : Nat) : EOK Try.prog x_spec_faGo k f_spec_faGo_g26D.E (.region 26 f_spec_faGo_g26O true) := reg_ok (D := f_spec_faGo_g26D) (m := 2) T_ok (g_spec_faGo k) (fun x => (f_spec_faGo_g26e k x).trans (f_spec_faGo_g26j k x.1.2.1.1 x.1.2.1.2.1 x.1.2.1.2.2.1 x.1.2.2.1.1 x.1.2.2.1.2.1 x.1.2.2.2.1 x.1.2.2.2.2.1.1 x.1.2.2.2.2.1.2.1 x.1.2.2.2.2.2.1 x.2.1 x.2.2.2.2.2.1))
noncomputable def f_spec_faGo_g27O : Array Oper := (findReg 27 c_spec_faGo).getD #[]
theorem f_spec_faGo_g27e (k : Nat) (x : f_spec_faGo_g27i.D) : execD x_spec_faGo.T x_spec_faGo.G x_spec_faGo.mvs k f_spec_faGo_g27O (f_spec_faGo_g27D.inp.st x_spec_faGo.n x) (outK x_spec_faGo f_spec_faGo_g27D) = f_spec_faGo_g27A k x.1.2.1.1 x.1.2.1.2.1 x.1.2.1.2.2.1 x.1.2.2.1.1 x.1.2.2.1.2.1 x.1.2.2.1.2.2.1 x.1.2.2.2.1.1 x.1.2.2.2.1.2.1 x.1.2.2.2.2.1 x.1.2.2.2.2.2.1.1 x.1.2.2.2.2.2.1.2.1 x.1.2.2.2.2.2.2.1 x.2.1 := by kernel_rfl
theorem f_spec_faGo_g27ok (k : Nat) : EOK Try.prog x_spec_faGo k f_spec_faGo_g27D.E (.region 27 f_spec_faGo_g27O true) := reg_ok (D := f_spec_faGo_g27D) (m := 2) T_ok (g_spec_faGo k) (fun x => (f_spec_faGo_g27e k x).trans (f_spec_faGo_g27j k x.1.2.1.1 x.1.2.1.2.1 x.1.2.1.2.2.1 x.1.2.2.1.1 x.1.2.2.1.2.1 x.1.2.2.1.2.2.1 x.1.2.2.2.1.1 x.1.2.2.2.1.2.1 x.1.2.2.2.2.1 x.1.2.2.2.2.2.1.1 x.1.2.2.2.2.2.1.2.1 x.1.2.2.2.2.2.2.1 x.2.1))
noncomputable def f_spec_faGo_j52X : Code := ((findCond 52 c_spec_faGo).map (·.1)).getD .skip
noncomputable def f_spec_faGo_j52Y : Code := ((findCond 52 c_spec_faGo).map (·.2)).getD .skip
theorem f_spec_faGo_j52h (k : Nat) (i : f_spec_faGo_j52D.inp.D) : f_spec_faGo_j52D.lp k i = branch (f_spec_faGo_j52D.inp.st x_spec_faGo.n i) (.tmp 52) (fun st => exec x_spec_faGo k f_spec_faGo_j52X st (outK x_spec_faGo f_spec_faGo_j52D) (fun _ _ => none) f_spec_faGo_j52D.mkB) (fun st => exec x_spec_faGo k f_spec_faGo_j52Y st (outK x_spec_faGo f_spec_faGo_j52D) (fun _ _ => none) f_spec_faGo_j52D.mkB) := by kernel_rfl
theorem f_spec_faGo_j52ok (k : Nat) : EOK Try.prog x_spec_faGo k f_spec_faGo_j52D.E (.cond (.tmp 52) f_spec_faGo_j52X f_spec_faGo_j52Y) := join_ok (D := f_spec_faGo_j52D) T_ok (g_spec_faGo k) (f_spec_faGo_j52h k) (LOK.by [] (by kernel_rfl) AllOK.nil) (LOK.by [] (by kernel_rfl) AllOK.nil)
noncomputable def f_spec_faGo_2B : Code := (findLoop 2 c_spec_faGo).getD .skip
theorem f_spec_faGo_2h (k : Nat) (x : f_spec_faGo_2i.D) : f_spec_faGo_2D.lp (k + 1) x = loopK x_spec_faGo f_spec_faGo_2D 2 f_spec_faGo_2B k x := by kernel_rfl
theorem f_spec_faGo_2l (k : Nat) : LOK Try.prog x_spec_faGo k f_spec_faGo_2B := LOK.by [] (by kernel_rfl) AllOK.nil
theorem f_spec_faGo_2z (x : f_spec_faGo_2i.D) : f_spec_faGo_2D.lp 0 x = none := by kernel_rfl
theorem f_spec_faGo_2ok (k : Nat) : EOK Try.prog x_spec_faGo k f_spec_faGo_2D.E (.block 2 (.loop f_spec_faGo_2B)) := loop_ok T_ok g_spec_faGo f_spec_faGo_2z f_spec_faGo_2h f_spec_faGo_2l k
noncomputable def f_spec_faGo_0B : Code := (findLoop 0 c_spec_faGo).getD .skip
theorem f_spec_faGo_0h (k : Nat) (x : f_spec_faGo_0i.D) : f_spec_faGo_0D.lp (k + 1) x = loopK x_spec_faGo f_spec_faGo_0D 0 f_spec_faGo_0B k x := by kernel_rfl
theorem f_spec_faGo_0l (k : Nat) : LOK Try.prog x_spec_faGo k f_spec_faGo_0B := LOK.by [(f_spec_faGo_g9D.E, .region 9 f_spec_faGo_g9O true), (f_spec_faGo_g11D.E, .region 11 f_spec_faGo_g11O true), (f_spec_faGo_j52D.E, .cond (.tmp 52) f_spec_faGo_j52X f_spec_faGo_j52Y), (f_spec_faGo_2D.E, .block 2 (.loop f_spec_faGo_2B)), (f_spec_faGo_g26D.E, .region 26 f_spec_faGo_g26O true)] (by kernel_rfl) (AllOK.cons (f_spec_faGo_g9ok k) (AllOK.cons (f_spec_faGo_g11ok k) (AllOK.cons (f_spec_faGo_j52ok k) (AllOK.cons (f_spec_faGo_2ok k) (AllOK.cons (f_spec_faGo_g26ok k) AllOK.nil)))))
theorem f_spec_faGo_0z (x : f_spec_faGo_0i.D) : f_spec_faGo_0D.lp 0 x = none := by kernel_rfl
theorem f_spec_faGo_0ok (k : Nat) : EOK Try.prog x_spec_faGo k f_spec_faGo_0D.E (.block 0 (.loop f_spec_faGo_0B)) := loop_ok T_ok g_spec_faGo f_spec_faGo_0z f_spec_faGo_0h f_spec_faGo_0l k
theorem h_spec_faGo (k : Nat) (x : Tup d_spec_faGo.ps) : d_spec_faGo.f (k + 1) x = fnK d_spec_faGo x_spec_faGo c_spec_faGo k x := by kernel_rfl
theorem z_spec_faGo (x : Tup d_spec_faGo.ps) : d_spec_faGo.f 0 x = none := by kernel_rfl
theorem l_spec_faGo (k : Nat) : LOK Try.prog x_spec_faGo k c_spec_faGo := LOK.by [(f_spec_faGo_0D.E, .block 0 (.loop f_spec_faGo_0B)), (f_spec_faGo_g27D.E, .region 27 f_spec_faGo_g27O true)] (by kernel_rfl) (AllOK.cons (f_spec_faGo_0ok k) (AllOK.cons (f_spec_faGo_g27ok k) AllOK.nil))
theorem s_spec_faGo (k : Nat) : SoundAt Try.prog k 138 d_spec_faGo.E := @fn_all Try.prog d_spec_faGo x_spec_faGo 138 Try.f138 c_spec_faGo (by kernel_rfl) (by kernel_rfl) (by kernel_rfl) Try.func138 (by kernel_rfl) (by kernel_rfl) (by kernel_rfl) T_ok g_spec_faGo l_spec_faGo z_spec_faGo h_spec_faGo k
/-! function 139 -/
end
end Go.Proofs.Ytgpmbmnfcbippaa.Vs

set_option maxRecDepth 100000
set_option maxHeartbeats 2000000
set_option linter.unusedVariables false
set_option linter.unusedSimpArgs false
namespace Go.Proofs.Ytgpmbmnfcbippaa.Vs
open Go.RowKit
noncomputable section
/-! function 61 -/
/-! function 64 -/
noncomputable def r_impl_validEntries : List PK := [{ t := Ty.bool }]
noncomputable def q_impl_validEntries : List PK := [{ t := Ty.pair (Ty.int IntKind.i64) (Ty.pair (Ty.int IntKind.i64) (Ty.slice (116 : Nat) (Ty.pair (Ty.int IntKind.i64) (Ty.int IntKind.i64)))), agg := true }, { t := Ty.slice (3 : Nat) (Ty.int IntKind.i64) }]
noncomputable def to_impl_validEntries (r : Bool) : Tup r_impl_validEntries × OutD := ((r, ()), none)
noncomputable def of_impl_validEntries : Tup r_impl_validEntries × OutD → Option (Bool)
  | (a, none) => some (a.1)
  | _ => none
theorem to_of_impl_validEntries : ∀ b r, of_impl_validEntries b = some r → to_impl_validEntries r = b := by
  rintro ⟨a, o⟩ r h
  cases o with
  | none => injection h with h; subst h; rfl
  | some _ => cases h
noncomputable def f_impl_validEntries_0 : Nat → Int → Int → List (Int × Int) → List Int → Int → Int → Option (LR Unit Bool)
  | 0, _, _, _, _, _, _ => none
  | k + 1, b1_0, b1_1, b1_2, v15, v16, v17 =>
    if decide (v17 < v16) = true then if (0 : Int) ≤ v17 then if v17 < (↑(List.length v15) : Int) then if decide (List.getD v15 (Int.toNat v17) (0 : Int) < (0 : Int)) = true then some (LR.ret false) else if decide (List.getD v15 (Int.toNat v17) (0 : Int) ≥ b1_1) = true then some (LR.ret false) else f_impl_validEntries_0 k b1_0 b1_1 b1_2 v15 v16 (wrap64 (v17 + (1 : Int))) else none else none else some (LR.go ())
noncomputable def f_impl_validEntries_0i : Spec := { objs := [OSh.ro, OSh.box (32 : Nat) [Sh.int IntKind.i64, Sh.int IntKind.i64, Sh.snap (0 : Nat) (Ty.pair (Ty.int IntKind.i64) (Ty.int IntKind.i64))]], tmps := [((2 : Nat), TSh.at (Sh.ptr (1 : Nat) (0 : Nat))), ((15 : Nat), TSh.at (Sh.snap (0 : Nat) (Ty.int IntKind.i64))), ((16 : Nat), TSh.at (Sh.int IntKind.i64)), ((17 : Nat), TSh.at (Sh.int IntKind.i64))] }
noncomputable def f_impl_validEntries_0o : Spec := { objs := [OSh.ro], tmps := [] }
noncomputable def f_impl_validEntries_0D : LoopDef (Tup r_impl_validEntries × OutD) := .rets f_impl_validEntries_0i f_impl_validEntries_0o (Unit) (Bool) (fun k x => f_impl_validEntries_0 k x.1.2.1.1 x.1.2.1.2.1 x.1.2.1.2.2.1 x.2.2.1 x.2.2.2.1 x.2.2.2.2.1) (fun z => (((), ()), (()))) (fun y => ()) (fun _ => rfl) to_impl_validEntries of_impl_validEntries to_of_impl_validEntries
noncomputable def f_impl_validEntries : Nat → Int × Int × List (Int × Int) → List Int → Option Bool
  | 0, _, _ => none
  | k + 1, p0, p1 =>
    Option.bind (f_impl_IsBoard k (Prod.fst p0, Prod.fst (Prod.snd p0), Prod.snd (Prod.snd p0))) fun z0 => if (!z0) = true then some false else if decide ((↑(List.length p1) : Int) > (60 : Int)) = true then some false else Option.bind (f_impl_validEntries_0 k (Prod.fst p0) (Prod.fst (Prod.snd p0)) (Prod.snd (Prod.snd p0)) p1 (↑(List.length p1) : Int) (0 : Int)) fun z1 => LR.on z1 (fun y1 => some true) fun r1 => some r1
noncomputable def d_impl_validEntries : FnDef := .of q_impl_validEntries r_impl_validEntries (Bool) (fun k x => f_impl_validEntries k x.1 x.2.1) to_impl_validEntries of_impl_validEntries to_of_impl_validEntries
noncomputable def c_impl_validEntries : Code := Try.f64.body.getD .skip
noncomputable def x_impl_validEntries : Ctx (Tup r_impl_validEntries × OutD) := { T := T, G := [(108, d_impl_IsBoard.E)], mvs := [], no := 0, n := 30, res := resOf T q_impl_validEntries r_impl_validEntries Try.f64.results.toList, loops := [(0, f_impl_validEntries_0D.E)], regs := [], conds := [] }
theorem g_impl_validEntries (k : Nat) : EnvOK Try.prog k x_impl_validEntries.G := (EnvOK.cons (s_impl_IsBoard k) (EnvOK.nil mixed))
noncomputable def f_impl_validEntries_0B : Code := (findLoop 0 c_impl_validEntries).getD .skip
theorem f_impl_validEntries_0h (k : Nat) (x : f_impl_validEntries_0i.D) : f_impl_validEntries_0D.lp (k + 1) x = loopK x_impl_validEntries f_impl_validEntries_0D 0 f_impl_validEntries_0B k x := by kernel_rfl
theorem f_impl_validEntries_0l (k : Nat) : LOK Try.prog x_impl_validEntries k f_impl_validEntries_0B := LOK.by [] (by kernel_rfl) AllOK.nil
theorem f_impl_validEntries_0z (x : f_impl_validEntries_0i.D) : f_impl_validEntries_0D.lp 0 x = none := by kernel_rfl
theorem f_impl_validEntries_0ok (k : Nat) : EOK Try.prog x_impl_validEntries k f_impl_validEntries_0D.E (.block 0 (.loop f_impl_validEntries_0B)) := loop_ok T_ok g_impl_validEntries f_impl_validEntries_0z f_impl_validEntries_0h f_impl_validEntries_0l k
theorem h_impl_validEntries (k : Nat) (x : Tup d_impl_validEntries.ps) : d_impl_validEntries.f (k + 1) x = fnK d_impl_validEntries x_impl_validEntries c_impl_validEntries k x := by kernel_rfl
theorem z_impl_validEntries (x : Tup d_impl_validEntries.ps) : d_impl_validEntries.f 0 x = none := by kernel_rfl
theorem l_impl_validEntries (k : Nat) : LOK Try.prog x_impl_validEntries k c_impl_validEntries := LOK.by [(f_impl_validEntries_0D.E, .block 0 (.loop f_impl_validEntries_0B))] (by kernel_rfl) (AllOK.cons (f_impl_validEntries_0ok k) AllOK.nil)
theorem s_impl_validEntries (k : Nat) : SoundAt Try.prog k 64 d_impl_validEntries.E := @fn_all Try.prog d_impl_validEntries x_impl_validEntries 64 Try.f64 c_impl_validEntries (by kernel_rfl) (by kernel_rfl) (by kernel_rfl) Try.func64 (by kernel_rfl) (by kernel_rfl) (by kernel_rfl) T_ok g_impl_validEntries l_impl_validEntries z_impl_validEntries h_impl_validEntries k
/-! function 65 -/
noncomputable def r_impl_possibleFaults : List PK := [{ t := Ty.slice (83 : Nat) (Ty.pair (Ty.int IntKind.i64) (Ty.pair (Ty.int IntKind.i64) (Ty.int IntKind.i64))) }]
noncomputable def q_impl_possibleFaults : List PK := [{ t := Ty.pair (Ty.int IntKind.i64) (Ty.pair (Ty.int IntKind.i64) (Ty.slice (116 : Nat) (Ty.pair (Ty.int IntKind.i64) (Ty.int IntKind.i64)))), agg := true }]
noncomputable def to_impl_possibleFaults (r : List (Int × Int × Int)) : Tup r_impl_possibleFaults × OutD := ((r, ()), none)
noncomputable def of_impl_possibleFaults : Tup r_impl_possibleFaults × OutD → Option (List (Int × Int × Int))
  | (a, none) => some (a.1)
  | _ => none
theorem to_of_impl_possibleFaults : ∀ b r, of_impl_possibleFaults b = some r → to_impl_possibleFaults r = b := by
  rintro ⟨a, o⟩ r h
  cases o with
  | none => injection h with h; subst h; rfl
  | some _ => cases h
noncomputable def f_impl_possibleFaults_2 : Nat → Int → Int → List (Int × Int) → List (Int × Int × Int) → Int → Int → Int → Int → List (Int × Int) → Int → Int → Option (Int × Int × List (Int × Int) × List (Int × Int × Int) × List (Int × Int) × Int × Int)
  | 0, _, _, _, _, _, _, _, _, _, _, _ => none
  | k + 1, b1_0, b1_1, b1_2, o2, b3_0, b3_1, v4, v6, v9, v10, v11 =>
    if decide (v6 ≤ (3 : Int)) = true then Option.bind (f_impl_canHave k (b3_0, b3_1) v6) fun z0 => if z0 = true then if b1_1 = (0 : Int) then none else if b1_1 = (0 : Int) then none else if List.length o2 + List.length [(v6, wrap64 (Int.tdiv v4 b1_1), Int.tmod v4 b1_1)] ≤ (140737488355328 / 24 : Nat) then f_impl_possibleFaults_2 k b1_0 b1_1 b1_2 (o2 ++ [(v6, wrap64 (Int.tdiv v4 b1_1), Int.tmod v4 b1_1)]) b3_0 b3_1 v4 (wrap64 (v6 + (1 : Int))) v9 v10 v11 else none else f_impl_possibleFaults_2 k b1_0 b1_1 b1_2 o2 b3_0 b3_1 v4 (wrap64 (v6 + (1 : Int))) v9 v10 v11 else some (b1_0, b1_1, b1_2, o2, v9, v10, v11)
noncomputable def f_impl_possibleFaults_2i : Spec := { objs := [OSh.ro, OSh.box (32 : Nat) [Sh.int IntKind.i64, Sh.int IntKind.i64, Sh.snap (0 : Nat) (Ty.pair (Ty.int IntKind.i64) (Ty.int IntKind.i64))], OSh.row true (83 : Nat) (Ty.pair (Ty.int IntKind.i64) (Ty.pair (Ty.int IntKind.i64) (Ty.int IntKind.i64))), OSh.box (116 : Nat) [Sh.int IntKind.i64, Sh.int IntKind.i64]], tmps := [((1 : Nat), TSh.at (Sh.ptr (1 : Nat) (0 : Nat))), ((3 : Nat), TSh.at (Sh.sl (2 : Nat))), ((4 : Nat), TSh.at (Sh.int IntKind.i64)), ((5 : Nat), TSh.at (Sh.ptr (3 : Nat) (0 : Nat))), ((6 : Nat), TSh.at (Sh.int IntKind.i64)), ((9 : Nat), TSh.at (Sh.snap (0 : Nat) (Ty.pair (Ty.int IntKind.i64) (Ty.int IntKind.i64)))), ((10 : Nat), TSh.at (Sh.int IntKind.i64)), ((11 : Nat), TSh.at (Sh.int IntKind.i64))] }
noncomputable def f_impl_possibleFaults_2o : Spec := { objs := [OSh.ro, OSh.box (32 : Nat) [Sh.int IntKind.i64, Sh.int IntKind.i64, Sh.snap (0 : Nat) (Ty.pair (Ty.int IntKind.i64) (Ty.int IntKind.i64))], OSh.row true (83 : Nat) (Ty.pair (Ty.int IntKind.i64) (Ty.pair (Ty.int IntKind.i64) (Ty.int IntKind.i64)))], tmps := [((1 : Nat), TSh.at (Sh.ptr (1 : Nat) (0 : Nat))), ((3 : Nat), TSh.at (Sh.sl (2 : Nat))), ((9 : Nat), TSh.at (Sh.snap (0 : Nat) (Ty.pair (Ty.int IntKind.i64) (Ty.int IntKind.i64)))), ((10 : Nat), TSh.at (Sh.int IntKind.i64)), ((11 : Nat), TSh.at (Sh.int IntKind.i64))] }
noncomputable def f_impl_possibleFaults_2D : LoopDef (Tup r_impl_possibleFaults × OutD) := .plain f_impl_possibleFaults_2i f_impl_possibleFaults_2o (Int × Int × List (Int × Int) × List (Int × Int × Int) × List (Int × Int) × Int × Int) (fun k x => f_impl_possibleFaults_2 k x.1.2.1.1 x.1.2.1.2.1 x.1.2.1.2.2.1 x.1.2.2.1 x.1.2.2.2.1.1 x.1.2.2.2.1.2.1 x.2.2.2.1 x.2.2.2.2.2.1 x.2.2.2.2.2.2.1 x.2.2.2.2.2.2.2.1 x.2.2.2.2.2.2.2.2.1) (fun z => (((), (z.1, z.2.1, z.2.2.1, ()), z.2.2.2.1, ()), ((), (), z.2.2.2.2.1, z.2.2.2.2.2.1, z.2.2.2.2.2.2, ()))) (fun y => (y.1.2.1.1, y.1.2.1.2.1, y.1.2.1.2.2.1, y.1.2.2.1, y.2.2.2.1, y.2.2.2.2.1, y.2.2.2.2.2.1)) (fun _ => rfl)
noncomputable def f_impl_possibleFaults_0 : Nat → Int → Int → List (Int × Int) → List (Int × Int × Int) → List (Int × Int) → Int → Int → Option (List (Int × Int × Int))
  | 0, _, _, _, _, _, _, _ => none
  | k + 1, b1_0, b1_1, b1_2, o2, v9, v10, v11 =>
    if decide (v11 < v10) = true then if (0 : Int) ≤ v11 then if v11 < (↑(List.length v9) : Int) then Option.bind (f_impl_possibleFaults_2 k b1_0 b1_1 b1_2 o2 (Prod.fst (List.getD v9 (Int.toNat v11) ((0 : Int), (0 : Int)))) (Prod.snd (List.getD v9 (Int.toNat v11) ((0 : Int), (0 : Int)))) v11 (1 : Int) v9 v10 v11) fun z1 => f_impl_possibleFaults_0 k (Prod.fst z1) (Prod.fst (Prod.snd z1)) (Prod.fst (Prod.snd (Prod.snd z1))) (Prod.fst (Prod.snd (Prod.snd (Prod.snd z1)))) (Prod.fst (Prod.snd (Prod.snd (Prod.snd (Prod.snd z1))))) (Prod.fst (Prod.snd (Prod.snd (Prod.snd (Prod.snd (Prod.snd z1)))))) (wrap64 (Prod.snd (Prod.snd (Prod.snd (Prod.snd (Prod.snd (Prod.snd z1))))) + (1 : Int))) else none else none else some o2
noncomputable def f_impl_possibleFaults_0i : Spec := { objs := [OSh.ro, OSh.box (32 : Nat) [Sh.int IntKind.i64, Sh.int IntKind.i64, Sh.snap (0 : Nat) (Ty.pair (Ty.int IntKind.i64) (Ty.int IntKind.i64))], OSh.row true (83 : Nat) (Ty.pair (Ty.int IntKind.i64) (Ty.pair (Ty.int IntKind.i64) (Ty.int IntKind.i64)))], tmps := [((1 : Nat), TSh.at (Sh.ptr (1 : Nat) (0 : Nat))), ((3 : Nat), TSh.at (Sh.sl (2 : Nat))), ((9 : Nat), TSh.at (Sh.snap (0 : Nat) (Ty.pair (Ty.int IntKind.i64) (Ty.int IntKind.i64)))), ((10 : Nat), TSh.at (Sh.int IntKind.i64)), ((11 : Nat), TSh.at (Sh.int IntKind.i64))] }
noncomputable def f_impl_possibleFaults_0o : Spec := { objs := [OSh.ro, OSh.row true (83 : Nat) (Ty.pair (Ty.int IntKind.i64) (Ty.pair (Ty.int IntKind.i64) (Ty.int IntKind.i64)))], tmps := [((3 : Nat), TSh.at (Sh.sl (1 : Nat)))] }
noncomputable def f_impl_possibleFaults_0D : LoopDef (Tup r_impl_possibleFaults × OutD) := .plain f_impl_possibleFaults_0i f_impl_possibleFaults_0o (List (Int × Int × Int)) (fun k x => f_impl_possibleFaults_0 k x.1.2.1.1 x.1.2.1.2.1 x.1.2.1.2.2.1 x.1.2.2.1 x.2.2.2.1 x.2.2.2.2.1 x.2.2.2.2.2.1) (fun z => (((), z, ()), ((), ()))) (fun y => (y.1.2.1)) (fun _ => rfl)
noncomputable def f_impl_possibleFaults : Nat → Int × Int × List (Int × Int) → Option (List (Int × Int × Int))
  | 0, _ => none
  | k + 1, p0 =>
    Option.bind (f_impl_possibleFaults_0 k (Prod.fst p0) (Prod.fst (Prod.snd p0)) (Prod.snd (Prod.snd p0)) [] (Prod.snd (Prod.snd p0)) (↑(List.length (Prod.snd (Prod.snd p0))) : Int) (0 : Int)) fun z2 => some z2
noncomputable def d_impl_possibleFaults : FnDef := .of q_impl_possibleFaults r_impl_possibleFaults (List (Int × Int × Int)) (fun k x => f_impl_possibleFaults k x.1) to_impl_possibleFaults of_impl_possibleFaults to_of_impl_possibleFaults
noncomputable def c_impl_possibleFaults : Code := Try.f65.body.getD .skip
noncomputable def x_impl_possibleFaults : Ctx (Tup r_impl_possibleFaults × OutD) := { T := T, G := [(109, d_impl_canHave.E)], mvs := [], no := 0, n := 38, res := resOf T q_impl_possibleFaults r_impl_possibleFaults Try.f65.results.toList, loops := [(2, f_impl_possibleFaults_2D.E), (0, f_impl_possibleFaults_0D.E)], regs := [], conds := [] }
theorem g_impl_possibleFaults (k : Nat) : EnvOK Try.prog k x_impl_possibleFaults.G := (EnvOK.cons (s_impl_canHave k) (EnvOK.nil mixed))
noncomputable def f_impl_possibleFaults_2B : Code := (findLoop 2 c_impl_possibleFaults).getD .skip
theorem f_impl_possibleFaults_2h (k : Nat) (x : f_impl_possibleFaults_2i.D) : f_impl_possibleFaults_2D.lp (k + 1) x = loopK x_impl_possibleFaults f_impl_possibleFaults_2D 2 f_impl_possibleFaults_2B k x := by kernel_rfl
theorem f_impl_possibleFaults_2l (k : Nat) : LOK Try.prog x_impl_possibleFaults k f_impl_possibleFaults_2B := LOK.by [] (by kernel_rfl) AllOK.nil
theorem f_impl_possibleFaults_2z (x : f_impl_possibleFaults_2i.D) : f_impl_possibleFaults_2D.lp 0 x = none := by kernel_rfl
theorem f_impl_possibleFaults_2ok (k : Nat) : EOK Try.prog x_impl_possibleFaults k f_impl_possibleFaults_2D.E (.block 2 (.loop f_impl_possibleFaults_2B)) := loop_ok T_ok g_impl_possibleFaults f_impl_possibleFaults_2z f_impl_possibleFaults_2h f_impl_possibleFaults_2l k
noncomputable def f_impl_possibleFaults_0B : Code := (findLoop 0 c_impl_possibleFaults).getD .skip
theorem f_impl_possibleFaults_0h (k : Nat) (x : f_impl_possibleFaults_0i.D) : f_impl_possibleFaults_0D.lp (k + 1) x = loopK x_impl_possibleFaults f_impl_possibleFaults_0D 0 f_impl_possibleFaults_0B k x := by kernel_rfl
theorem f_impl_possibleFaults_0l (k : Nat) : LOK Try.prog x_impl_possibleFaults k f_impl_possibleFaults_0B := LOK.by [(f_impl_possibleFaults_2D.E, .block 2 (.loop f_impl_possibleFaults_2B))] (by kernel_rfl) (AllOK.cons (f_impl_possibleFaults_2ok k) AllOK.nil)
theorem f_impl_possibleFaults_0z (x : f_impl_possibleFaults_0i.D) : f_impl_possibleFaults_0D.lp 0 x = none := by kernel_rfl
theorem f_impl_possibleFaults_0ok (k : Nat) : EOK Try.prog x_impl_possibleFaults k f_impl_possibleFaults_0D.E (.block 0 (.loop f_impl_possibleFaults_0B)) := loop_ok T_ok g_impl_possibleFaults f_impl_possibleFaults_0z f_impl_possibleFaults_0h f_impl_possibleFaults_0l k
theorem h_impl_possibleFaults (k : Nat) (x : Tup d_impl_possibleFaults.ps) : d_impl_possibleFaults.f (k + 1) x = fnK d_impl_possibleFaults x_impl_possibleFaults c_impl_possibleFaults k x := by kernel_rfl
theorem z_impl_possibleFaults (x : Tup d_impl_possibleFaults.ps) : d_impl_possibleFaults.f 0 x = none := by kernel_rfl
theorem l_impl_possibleFaults (k : Nat) : LOK Try.prog x_impl_possibleFaults k c_impl_possibleFaults := LOK.by [(f_impl_possibleFaults_0D.E, .block 0 (.loop f_impl_possibleFaults_0B))] (by kernel_rfl) (AllOK.cons (f_impl_possibleFaults_0ok k) AllOK.nil)
theorem s_impl_possibleFaults (k : Nat) : SoundAt Try.prog k 65 d_impl_possibleFaults.E := @fn_all Try.prog d_impl_possibleFaults x_impl_possibleFaults 65 Try.f65 c_impl_possibleFaults (by kernel_rfl) (by kernel_rfl) (by kernel_rfl) Try.func65 (by kernel_rfl) (by kernel_rfl) (by kernel_rfl) T_ok g_impl_possibleFaults l_impl_possibleFaults z_impl_possibleFaults h_impl_possibleFaults k
/-! function 110 -/
/-! function 111 -/
noncomputable def r_impl_faultyDrops : List PK := [{ t := Ty.slice (91 : Nat) (Ty.pair (Ty.int IntKind.i64) (Ty.pair (Ty.int IntKind.i64) (Ty.int IntKind.i64))) }, { t := Ty.pair (Ty.int IntKind.i64) (Ty.pair (Ty.int IntKind.i64) (Ty.slice (116 : Nat) (Ty.pair (Ty.int IntKind.i64) (Ty.int IntKind.i64)))), agg := true }]
noncomputable def q_impl_faultyDrops : List PK := [{ t := Ty.pair (Ty.int IntKind.i64) (Ty.pair (Ty.int IntKind.i64) (Ty.slice (116 : Nat) (Ty.pair (Ty.int IntKind.i64) (Ty.int IntKind.i64)))), agg := true }, { t := Ty.slice (83 : Nat) (Ty.pair (Ty.int IntKind.i64) (Ty.pair (Ty.int IntKind.i64) (Ty.int IntKind.i64))) }, { t := Ty.slice (3 : Nat) (Ty.int IntKind.i64) }]
noncomputable def to_impl_faultyDrops (r : List (Int × Int × Int) × Int × Int × List (Int × Int)) : Tup r_impl_faultyDrops × OutD := ((r.1, r.2, ()), none)
noncomputable def of_impl_faultyDrops : Tup r_impl_faultyDrops × OutD → Option (List (Int × Int × Int) × Int × Int × List (Int × Int))
  | (a, none) => some (a.1, a.2.1)
  | _ => none
theorem to_of_impl_faultyDrops : ∀ b r, of_impl_faultyDrops b = some r → to_impl_faultyDrops r = b := by
  rintro ⟨a, o⟩ r h
  cases o with
  | none => injection h with h; subst h; rfl
  | some _ => cases h
noncomputable def f_impl_faultyDrops_0 : Nat → Int → Int → List (Int × Int) → Int → Int → List (Int × Int) → List Int → List Int → List (Int × Int × Int) → List Int → Int → Int → Option (Int × Int × List (Int × Int) × Int × Int × List (Int × Int) × List (Int × Int × Int))
  | 0, _, _, _, _, _, _, _, _, _, _, _, _ => none
  | k + 1, b1_0, b1_1, o2, b3_0, b3_1, o4, o5, o6, o7, v22, v23, v24 =>
    if decide (v24 < v23) = true then if (0 : Int) ≤ v24 then if v24 < (↑(List.length v22) : Int) then Option.bind (f_impl_faultyDrop k (b3_0, b3_1, o4) o5 o6 (List.getD v22 (Int.toNat v24) (0 : Int))) fun z3 => if List.length o7 + List.length [(Prod.fst (Prod.fst z3), Prod.fst (Prod.snd (Prod.fst z3)), Prod.snd (Prod.snd (Prod.fst z3)))] ≤ (140737488355328 / 24 : Nat) then f_impl_faultyDrops_0 k b1_0 b1_1 o2 b3_0 b3_1 (Prod.snd z3) o5 o6 (o7 ++ [(Prod.fst (Prod.fst z3), Prod.fst (Prod.snd (Prod.fst z3)), Prod.snd (Prod.snd (Prod.fst z3)))]) v22 v23 (wrap64 (v24 + (1 : Int))) else none else none else none else some (b1_0, b1_1, o2, b3_0, b3_1, o4, o7)
noncomputable def f_impl_faultyDrops_0i : Spec := { objs := [OSh.ro, OSh.box (32 : Nat) [Sh.int IntKind.i64, Sh.int IntKind.i64, Sh.sl (2 : Nat)], OSh.row true (116 : Nat) (Ty.pair (Ty.int IntKind.i64) (Ty.int IntKind.i64)), OSh.box (32 : Nat) [Sh.int IntKind.i64, Sh.int IntKind.i64, Sh.sl (4 : Nat)], OSh.row true (116 : Nat) (Ty.pair (Ty.int IntKind.i64) (Ty.int IntKind.i64)), OSh.row true (3 : Nat) (Ty.int IntKind.i64), OSh.row true (3 : Nat) (Ty.int IntKind.i64), OSh.row true (91 : Nat) (Ty.pair (Ty.int IntKind.i64) (Ty.pair (Ty.int IntKind.i64) (Ty.int IntKind.i64)))], tmps := [((7 : Nat), TSh.at (Sh.ptr (1 : Nat) (0 : Nat))), ((8 : Nat), TSh.at (Sh.ptr (3 : Nat) (0 : Nat))), ((9 : Nat), TSh.at (Sh.sl (5 : Nat))), ((10 : Nat), TSh.at (Sh.sl (6 : Nat))), ((11 : Nat), TSh.at (Sh.sl (7 : Nat))), ((22 : Nat), TSh.at (Sh.snap (0 : Nat) (Ty.int IntKind.i64))), ((23 : Nat), TSh.at (Sh.int IntKind.i64)), ((24 : Nat), TSh.at (Sh.int IntKind.i64))] }
noncomputable def f_impl_faultyDrops_0o : Spec := { objs := [OSh.ro, OSh.box (32 : Nat) [Sh.int IntKind.i64, Sh.int IntKind.i64, Sh.sl (2 : Nat)], OSh.row true (116 : Nat) (Ty.pair (Ty.int IntKind.i64) (Ty.int IntKind.i64)), OSh.box (32 : Nat) [Sh.int IntKind.i64, Sh.int IntKind.i64, Sh.sl (4 : Nat)], OSh.row true (116 : Nat) (Ty.pair (Ty.int IntKind.i64) (Ty.int IntKind.i64)), OSh.row true (91 : Nat) (Ty.pair (Ty.int IntKind.i64) (Ty.pair (Ty.int IntKind.i64) (Ty.int IntKind.i64)))], tmps := [((7 : Nat), TSh.at (Sh.ptr (1 : Nat) (0 : Nat))), ((8 : Nat), TSh.at (Sh.ptr (3 : Nat) (0 : Nat))), ((11 : Nat), TSh.at (Sh.sl (5 : Nat)))] }
noncomputable def f_impl_faultyDrops_0D : LoopDef (Tup r_impl_faultyDrops × OutD) := .plain f_impl_faultyDrops_0i f_impl_faultyDrops_0o (Int × Int × List (Int × Int) × Int × Int × List (Int × Int) × List (Int × Int × Int)) (fun k x => f_impl_faultyDrops_0 k x.1.2.1.1 x.1.2.1.2.1 x.1.2.2.1 x.1.2.2.2.1.1 x.1.2.2.2.1.2.1 x.1.2.2.2.2.1 x.1.2.2.2.2.2.1 x.1.2.2.2.2.2.2.1 x.1.2.2.2.2.2.2.2.1 x.2.2.2.2.2.2.1 x.2.2.2.2.2.2.2.1 x.2.2.2.2.2.2.2.2.1) (fun z => (((), (z.1, z.2.1, (), ()), z.2.2.1, (z.2.2.2.1, z.2.2.2.2.1, (), ()), z.2.2.2.2.2.1, z.2.2.2.2.2.2, ()), ((), (), (), ()))) (fun y => (y.1.2.1.1, y.1.2.1.2.1, y.1.2.2.1, y.1.2.2.2.1.1, y.1.2.2.2.1.2.1, y.1.2.2.2.2.1, y.1.2.2.2.2.2.1)) (fun _ => rfl)
noncomputable def f_impl_faultyDrops : Nat → Int × Int × List (Int × Int) → List (Int × Int × Int) → List Int → Option (List (Int × Int × Int) × Int × Int × List (Int × Int))
  | 0, _, _, _ => none
  | k + 1, p0, p1, p2 =>
    Option.bind (f_impl_copyBoard k (Prod.fst p0, Prod.fst (Prod.snd p0), Prod.snd (Prod.snd p0))) fun z0 => Option.bind (f_impl_groupNumbers k (Prod.fst p0, Prod.fst (Prod.snd p0), Prod.snd (Prod.snd p0))) fun z1 => Option.bind (f_impl_faultsByCell k (Prod.fst p0, Prod.fst (Prod.snd p0), Prod.snd (Prod.snd p0)) p1) fun z2 => Option.bind (f_impl_faultyDrops_0 k (0 : Int) (0 : Int) [] (Prod.fst z0) (Prod.fst (Prod.snd z0)) (Prod.snd (Prod.snd z0)) z1 z2 [] p2 (↑(List.length p2) : Int) (0 : Int)) fun z4 => some (Prod.snd (Prod.snd (Prod.snd (Prod.snd (Prod.snd (Prod.snd z4))))), Prod.fst (Prod.snd (Prod.snd (Prod.snd z4))), Prod.fst (Prod.snd (Prod.snd (Prod.snd (Prod.snd z4)))), Prod.fst (Prod.snd (Prod.snd (Prod.snd (Prod.snd (Prod.snd z4))))))
noncomputable def d_impl_faultyDrops : FnDef := .of q_impl_faultyDrops r_impl_faultyDrops (List (Int × Int × Int) × Int × Int × List (Int × Int)) (fun k x => f_impl_faultyDrops k x.1 x.2.1 x.2.2.1) to_impl_faultyDrops of_impl_faultyDrops to_of_impl_faultyDrops
noncomputable def c_impl_faultyDrops : Code := Try.f111.body.getD .skip
noncomputable def x_impl_faultyDrops : Ctx (Tup r_impl_faultyDrops × OutD) := { T := T, G := [(130, d_impl_copyBoard.E), (131, d_impl_groupNumbers.E), (133, d_impl_faultsByCell.E), (134, d_impl_faultyDrop.E)], mvs := [], no := 0, n := 39, res := resOf T q_impl_faultyDrops r_impl_faultyDrops Try.f111.results.toList, loops := [(0, f_impl_faultyDrops_0D.E)], regs := [], conds := [] }
theorem g_impl_faultyDrops (k : Nat) : EnvOK Try.prog k x_impl_faultyDrops.G := (EnvOK.cons (s_impl_copyBoard k) (EnvOK.cons (s_impl_groupNumbers k) (EnvOK.cons (s_impl_faultsByCell k) (EnvOK.cons (s_impl_faultyDrop k) (EnvOK.nil mixed)))))
noncomputable def f_impl_faultyDrops_0B : Code := (findLoop 0 c_impl_faultyDrops).getD .skip
theorem f_impl_faultyDrops_0h (k : Nat) (x : f_impl_faultyDrops_0i.D) : f_impl_faultyDrops_0D.lp (k + 1) x = loopK x_impl_faultyDrops f_impl_faultyDrops_0D 0 f_impl_faultyDrops_0B k x := by kernel_rfl
theorem f_impl_faultyDrops_0l (k : Nat) : LOK Try.prog x_impl_faultyDrops k f_impl_faultyDrops_0B := LOK.by [] (by kernel_rfl) AllOK.nil
theorem f_impl_faultyDrops_0z (x : f_impl_faultyDrops_0i.D) : f_impl_faultyDrops_0D.lp 0 x = none := by kernel_rfl
theorem f_impl_faultyDrops_0ok (k : Nat) : EOK Try.prog x_impl_faultyDrops k f_impl_faultyDrops_0D.E (.block 0 (.loop f_impl_faultyDrops_0B)) := loop_ok T_ok g_impl_faultyDrops f_impl_faultyDrops_0z f_impl_faultyDrops_0h f_impl_faultyDrops_0l k
theorem h_impl_faultyDrops (k : Nat) (x : Tup d_impl_faultyDrops.ps) : d_impl_faultyDrops.f (k + 1) x = fnK d_impl_faultyDrops x_impl_faultyDrops c_impl_faultyDrops k x := by kernel_rfl
theorem z_impl_faultyDrops (x : Tup d_impl_faultyDrops.ps) : d_impl_faultyDrops.f 0 x = none := by kernel_rfl
theorem l_impl_faultyDrops (k : Nat) : LOK Try.prog x_impl_faultyDrops k c_impl_faultyDrops := LOK.by [(f_impl_faultyDrops_0D.E, .block 0 (.loop f_impl_faultyDrops_0B))] (by kernel_rfl) (AllOK.cons (f_impl_faultyDrops_0ok k) AllOK.nil)
theorem s_impl_faultyDrops (k : Nat) : SoundAt Try.prog k 111 d_impl_faultyDrops.E := @fn_all Try.prog d_impl_faultyDrops x_impl_faultyDrops 111 Try.f111 c_impl_faultyDrops (by kernel_rfl) (by kernel_rfl) (by kernel_rfl) Try.func111 (by kernel_rfl) (by kernel_rfl) (by kernel_rfl) T_ok g_impl_faultyDrops l_impl_faultyDrops z_impl_faultyDrops h_impl_faultyDrops k
/-! function 113 -/
/-! function 118 -/
noncomputable def r_spec_tsGood : List PK := [{ t := Ty.bool }]
noncomputable def q_spec_tsGood : List PK := [{ t := Ty.pair (Ty.int IntKind.i64) (Ty.pair (Ty.int IntKind.i64) (Ty.slice (116 : Nat) (Ty.pair (Ty.int IntKind.i64) (Ty.int IntKind.i64)))), agg := true }]
noncomputable def to_spec_tsGood (r : Bool) : Tup r_spec_tsGood × OutD := ((r, ()), none)
noncomputable def of_spec_tsGood : Tup r_spec_tsGood × OutD → Option (Bool)
  | (a, none) => some (a.1)
  | _ => none
theorem to_of_spec_tsGood : ∀ b r, of_spec_tsGood b = some r → to_spec_tsGood r = b := by
  rintro ⟨a, o⟩ r h
  cases o with
  | none => injection h with h; subst h; rfl
  | some _ => cases h
noncomputable def f_spec_tsGood : Nat → Int × Int × List (Int × Int) → Option Bool
  | 0, _ => none
  | k + 1, p0 =>
    Option.bind (f_spec_boGood k (Prod.fst p0, Prod.fst (Prod.snd p0), Prod.snd (Prod.snd p0))) fun z0 => if z0 = true then some (decide ((↑(List.length (Prod.snd (Prod.snd p0))) : Int) ≤ (30 : Int))) else some false
noncomputable def d_spec_tsGood : FnDef := .of q_spec_tsGood r_spec_tsGood (Bool) (fun k x => f_spec_tsGood k x.1) to_spec_tsGood of_spec_tsGood to_of_spec_tsGood
noncomputable def c_spec_tsGood : Code := Try.f118.body.getD .skip
noncomputable def x_spec_tsGood : Ctx (Tup r_spec_tsGood × OutD) := { T := T, G := [(103, d_spec_boGood.E)], mvs := [], no := 0, n := 11, res := resOf T q_spec_tsGood r_spec_tsGood Try.f118.results.toList, loops := [], regs := [], conds := [] }
theorem g_spec_tsGood (k : Nat) : EnvOK Try.prog k x_spec_tsGood.G := (EnvOK.cons (s_spec_boGood k) (EnvOK.nil mixed))
theorem h_spec_tsGood (k : Nat) (x : Tup d_spec_tsGood.ps) : d_spec_tsGood.f (k + 1) x = fnK d_spec_tsGood x_spec_tsGood c_spec_tsGood k x := by kernel_rfl
theorem z_spec_tsGood (x : Tup d_spec_tsGood.ps) : d_spec_tsGood.f 0 x = none := by kernel_rfl
theorem l_spec_tsGood (k : Nat) : LOK Try.prog x_spec_tsGood k c_spec_tsGood := LOK.by [] (by kernel_rfl) AllOK.nil
theorem s_spec_tsGood (k : Nat) : SoundAt Try.prog k 118 d_spec_tsGood.E := @fn_all Try.prog d_spec_tsGood x_spec_tsGood 118 Try.f118 c_spec_tsGood (by kernel_rfl) (by kernel_rfl) (by kernel_rfl) Try.func118 (by kernel_rfl) (by kernel_rfl) (by kernel_rfl) T_ok g_spec_tsGood l_spec_tsGood z_spec_tsGood h_spec_tsGood k
/-! function 122 -/
noncomputable def r_spec_faAll : List PK := [{ t := Ty.slice (91 : Nat) (Ty.pair (Ty.int IntKind.i64) (Ty.pair (Ty.int IntKind.i64) (Ty.int IntKind.i64))) }, { t := Ty.pair (Ty.int IntKind.i64) (Ty.pair (Ty.int IntKind.i64) (Ty.slice (116 : Nat) (Ty.pair (Ty.int IntKind.i64) (Ty.int IntKind.i64)))), agg := true }]
noncomputable def q_spec_faAll : List PK := [{ t := Ty.pair (Ty.int IntKind.i64) (Ty.pair (Ty.int IntKind.i64) (Ty.slice (116 : Nat) (Ty.pair (Ty.int IntKind.i64) (Ty.int IntKind.i64)))), agg := true }, { t := Ty.slice (83 : Nat) (Ty.pair (Ty.int IntKind.i64) (Ty.pair (Ty.int IntKind.i64) (Ty.int IntKind.i64))) }, { t := Ty.slice (3 : Nat) (Ty.int IntKind.i64) }]
noncomputable def to_spec_faAll (r : List (Int × Int × Int) × Int × Int × List (Int × Int)) : Tup r_spec_faAll × OutD := ((r.1, r.2, ()), none)
noncomputable def of_spec_faAll : Tup r_spec_faAll × OutD → Option (List (Int × Int × Int) × Int × Int × List (Int × Int))
  | (a, none) => some (a.1, a.2.1)
  | _ => none
theorem to_of_spec_faAll : ∀ b r, of_spec_faAll b = some r → to_spec_faAll r = b := by
  rintro ⟨a, o⟩ r h
  cases o with
  | none => injection h with h; subst h; rfl
  | some _ => cases h
noncomputable def f_spec_faAll_g1 : Nat → Int → Int → List (Int × Int) → Int → Int → List (Int × Int) → List (Int × Int × Int) → List Int → Option (Int × Int × List (Int × Int) × Int × Int × List (Int × Int) × List Int × List (Int × Int × Int) × List Int) := fun k b1_0 b1_1 b1_2 b2_0 b2_1 o3 v1 v2 =>
    Option.bind (f_spec_boOwn k (b1_0, b1_1, b1_2)) fun z0 => Option.bind (f_spec_ggGroups k (b1_0, b1_1, b1_2)) fun z1 => some (b2_0, b2_1, o3, Prod.fst z0, Prod.fst (Prod.snd z0), Prod.snd (Prod.snd z0), z1, v1, v2)
noncomputable def f_spec_faAll_g1A : Nat → Int → Int → List (Int × Int) → Int → Int → List (Int × Int) → List (Int × Int × Int) → List Int → Option (List (Int × Int × List (Int × Int) × Int × Int × List (Int × Int) × List Int × List (Int × Int × Int) × List Int)) := fun k b1_0 b1_1 b1_2 b2_0 b2_1 o3 v1 v2 =>
    joinL (Option.bind (f_spec_boOwn k (b1_0, b1_1, b1_2)) fun z2 => joinL (Option.bind (f_spec_ggGroups k (b1_0, b1_1, b1_2)) fun z3 => some [(b2_0, b2_1, o3, Prod.fst z2, Prod.fst (Prod.snd z2), Prod.snd (Prod.snd z2), z3, v1, v2)]) (Option.bind (f_spec_ggGroups k (b1_0, b1_1, b1_2)) fun z4 => some [(b2_0, b2_1, o3, Prod.fst z2, Prod.fst (Prod.snd z2), Prod.snd (Prod.snd z2), z4, v1, v2)])) (Option.bind (f_spec_boOwn k (b1_0, b1_1, b1_2)) fun z5 => Option.bind (f_spec_ggGroups k (b1_0, b1_1, b1_2)) fun z6 => some [(b2_0, b2_1, o3, Prod.fst z5, Prod.fst (Prod.snd z5), Prod.snd (Prod.snd z5), z6, v1, v2)])
noncomputable def f_spec_faAll_g1i : Spec := { objs := [OSh.ro, OSh.box (32 : Nat) [Sh.int IntKind.i64, Sh.int IntKind.i64, Sh.snap (0 : Nat) (Ty.pair (Ty.int IntKind.i64) (Ty.int IntKind.i64))], OSh.box (32 : Nat) [Sh.int IntKind.i64, Sh.int IntKind.i64, Sh.sl (3 : Nat)], OSh.row true (116 : Nat) (Ty.pair (Ty.int IntKind.i64) (Ty.int IntKind.i64))], tmps := [((1 : Nat), TSh.at (Sh.snap (0 : Nat) (Ty.pair (Ty.int IntKind.i64) (Ty.pair (Ty.int IntKind.i64) (Ty.int IntKind.i64))))), ((2 : Nat), TSh.at (Sh.snap (0 : Nat) (Ty.int IntKind.i64))), ((3 : Nat), TSh.at (Sh.ptr (1 : Nat) (0 : Nat))), ((7 : Nat), TSh.at (Sh.ptr (2 : Nat) (0 : Nat)))] }
noncomputable def f_spec_faAll_g1o : Spec := { objs := [OSh.ro, OSh.box (32 : Nat) [Sh.int IntKind.i64, Sh.int IntKind.i64, Sh.sl (2 : Nat)], OSh.row true (116 : Nat) (Ty.pair (Ty.int IntKind.i64) (Ty.int IntKind.i64)), OSh.box (32 : Nat) [Sh.int IntKind.i64, Sh.int IntKind.i64, Sh.sl (4 : Nat)], OSh.row true (116 : Nat) (Ty.pair (Ty.int IntKind.i64) (Ty.int IntKind.i64)), OSh.row true (3 : Nat) (Ty.int IntKind.i64)], tmps := [((1 : Nat), TSh.at (Sh.snap (0 : Nat) (Ty.pair (Ty.int IntKind.i64) (Ty.pair (Ty.int IntKind.i64) (Ty.int IntKind.i64))))), ((2 : Nat), TSh.at (Sh.snap (0 : Nat) (Ty.int IntKind.i64))), ((7 : Nat), TSh.at (Sh.ptr (1 : Nat) (0 : Nat))), ((8 : Nat), TSh.at (Sh.ptr (3 : Nat) (0 : Nat))), ((9 : Nat), TSh.at (Sh.sl (5 : Nat)))] }
noncomputable def f_spec_faAll_g1D : LoopDef (Tup r_spec_faAll × OutD) := .plain f_spec_faAll_g1i f_spec_faAll_g1o (Int × Int × List (Int × Int) × Int × Int × List (Int × Int) × List Int × List (Int × Int × Int) × List Int) (fun k x => f_spec_faAll_g1 k x.1.2.1.1 x.1.2.1.2.1 x.1.2.1.2.2.1 x.1.2.2.1.1 x.1.2.2.1.2.1 x.1.2.2.2.1 x.2.1 x.2.2.1) (fun z => (((), (z.1, z.2.1, (), ()), z.2.2.1, (z.2.2.2.1, z.2.2.2.2.1, (), ()), z.2.2.2.2.2.1, z.2.2.2.2.2.2.1, ()), (z.2.2.2.2.2.2.2.1, z.2.2.2.2.2.2.2.2, (), (), (), ()))) (fun y => (y.1.2.1.1, y.1.2.1.2.1, y.1.2.2.1, y.1.2.2.2.1.1, y.1.2.2.2.1.2.1, y.1.2.2.2.2.1, y.1.2.2.2.2.2.1, y.2.1, y.2.2.1)) (fun _ => rfl)
theorem f_spec_faAll_g1j (k : Nat) (b1_0 : Int) (b1_1 : Int) (b1_2 : List (Int × Int)) (b2_0 : Int) (b2_1 : Int) (o3 : List (Int × Int)) (v1 : List (Int × Int × Int)) (v2 : List Int) : f_spec_faAll_g1A k b1_0 b1_1 b1_2 b2_0 b2_1 o3 v1 v2 = repl 3 (f_spec_faAll_g1 k b1_0 b1_1 b1_2 b2_0 b2_1 o3 v1 v2) := by
  simp only [f_spec_faAll_g1A, f_spec_faAll_g1, repl_some, repl_ite, repl_ite0, repl_ite1, repl_bind, joinL_repl, if_true]
noncomputable def f_spec_faAll_0 : Nat → Int → Int → List (Int × Int) → Int → Int → List (Int × Int) → List Int → List (Int × Int × Int) → List (Int × Int × Int) → List Int → Int → Int → Option (Int × Int × List (Int × Int) × Int × Int × List (Int × Int) × List (Int × Int × Int))
  | 0, _, _, _, _, _, _, _, _, _, _, _, _ => none
  | k + 1, b1_0, b1_1, o2, b3_0, b3_1, o4, o5, o6, v1, v19, v20, v21 =>
    if decide (v21 < v20) = true then if (0 : Int) ≤ v21 then if v21 < (↑(List.length v19) : Int) then Option.bind (f_spec_faGo k (b3_0, b3_1, o4) o5 v1 (List.getD v19 (Int.toNat v21) (0 : Int))) fun z8 => if List.length o6 + List.length [(Prod.fst (Prod.fst z8), Prod.fst (Prod.snd (Prod.fst z8)), Prod.snd (Prod.snd (Prod.fst z8)))] ≤ (140737488355328 / 24 : Nat) then f_spec_faAll_0 k b1_0 b1_1 o2 (Prod.fst (Prod.snd z8)) (Prod.fst (Prod.snd (Prod.snd z8))) (Prod.snd (Prod.snd (Prod.snd z8))) o5 (o6 ++ [(Prod.fst (Prod.fst z8), Prod.fst (Prod.snd (Prod.fst z8)), Prod.snd (Prod.snd (Prod.fst z8)))]) v1 v19 v20 (wrap64 (v21 + (1 : Int))) else none else none else none else some (b1_0, b1_1, o2, b3_0, b3_1, o4, o6)
noncomputable def f_spec_faAll_0i : Spec := { objs := [OSh.ro, OSh.box (32 : Nat) [Sh.int IntKind.i64, Sh.int IntKind.i64, Sh.sl (2 : Nat)], OSh.row true (116 : Nat) (Ty.pair (Ty.int IntKind.i64) (Ty.int IntKind.i64)), OSh.box (32 : Nat) [Sh.int IntKind.i64, Sh.int IntKind.i64, Sh.sl (4 : Nat)], OSh.row true (116 : Nat) (Ty.pair (Ty.int IntKind.i64) (Ty.int IntKind.i64)), OSh.row true (3 : Nat) (Ty.int IntKind.i64), OSh.row true (91 : Nat) (Ty.pair (Ty.int IntKind.i64) (Ty.pair (Ty.int IntKind.i64) (Ty.int IntKind.i64)))], tmps := [((1 : Nat), TSh.at (Sh.snap (0 : Nat) (Ty.pair (Ty.int IntKind.i64) (Ty.pair (Ty.int IntKind.i64) (Ty.int IntKind.i64))))), ((7 : Nat), TSh.at (Sh.ptr (1 : Nat) (0 : Nat))), ((8 : Nat), TSh.at (Sh.ptr (3 : Nat) (0 : Nat))), ((9 : Nat), TSh.at (Sh.sl (5 : Nat))), ((10 : Nat), TSh.at (Sh.sl (6 : Nat))), ((19 : Nat), TSh.at (Sh.snap (0 : Nat) (Ty.int IntKind.i64))), ((20 : Nat), TSh.at (Sh.int IntKind.i64)), ((21 : Nat), TSh.at (Sh.int IntKind.i64))] }
noncomputable def f_spec_faAll_0o : Spec := { objs := [OSh.ro, OSh.box (32 : Nat) [Sh.int IntKind.i64, Sh.int IntKind.i64, Sh.sl (2 : Nat)], OSh.row true (116 : Nat) (Ty.pair (Ty.int IntKind.i64) (Ty.int IntKind.i64)), OSh.box (32 : Nat) [Sh.int IntKind.i64, Sh.int IntKind.i64, Sh.sl (4 : Nat)], OSh.row true (116 : Nat) (Ty.pair (Ty.int IntKind.i64) (Ty.int IntKind.i64)), OSh.row true (91 : Nat) (Ty.pair (Ty.int IntKind.i64) (Ty.pair (Ty.int IntKind.i64) (Ty.int IntKind.i64)))], tmps := [((7 : Nat), TSh.at (Sh.ptr (1 : Nat) (0 : Nat))), ((8 : Nat), TSh.at (Sh.ptr (3 : Nat) (0 : Nat))), ((10 : Nat), TSh.at (Sh.sl (5 : Nat)))] }
noncomputable def f_spec_faAll_0D : LoopDef (Tup r_spec_faAll × OutD) := .plain f_spec_faAll_0i f_spec_faAll_0o (Int × Int × List (Int × Int) × Int × Int × List (Int × Int) × List (Int × Int × Int)) (fun k x => f_spec_faAll_0 k x.1.2.1.1 x.1.2.1.2.1 x.1.2.2.1 x.1.2.2.2.1.1 x.1.2.2.2.1.2.1 x.1.2.2.2.2.1 x.1.2.2.2.2.2.1 x.1.2.2.2.2.2.2.1 x.2.1 x.2.2.2.2.2.2.1 x.2.2.2.2.2.2.2.1 x.2.2.2.2.2.2.2.2.1) (fun z => (((), (z.1, z.2.1, (), ()), z.2.2.1, (z.2.2.2.1, z.2.2.2.2.1, (), ()), z.2.2.2.2.2.1, z.2.2.2.2.2.2, ()), ((), (), (), ()))) (fun y => (y.1.2.1.1, y.1.2.1.2.1, y.1.2.2.1, y.1.2.2.2.1.1, y.1.2.2.2.1.2.1, y.1.2.2.2.2.1, y.1.2.2.2.2.2.1)) (fun _ => rfl)
noncomputable def f_spec_faAll : Nat → Int × Int × List (Int × Int) → List (Int × Int × Int) → List Int → Option (List (Int × Int × Int) × Int × Int × List (Int × Int))
  | 0, _, _, _ => none
  | k + 1, p0, p1, p2 =>
    Option.bind (f_spec_faAll_g1 k (Prod.fst p0) (Prod.fst (Prod.snd p0)) (Prod.snd (Prod.snd p0)) (0 : Int) (0 : Int) [] p1 p2) fun z7 => Option.bind (f_spec_faAll_0 k (Prod.fst z7) (Prod.fst (Prod.snd z7)) (Prod.fst (Prod.snd (Prod.snd z7))) (Prod.fst (Prod.snd (Prod.snd (Prod.snd z7)))) (Prod.fst (Prod.snd (Prod.snd (Prod.snd (Prod.snd z7))))) (Prod.fst (Prod.snd (Prod.snd (Prod.snd (Prod.snd (Prod.snd z7)))))) (Prod.fst (Prod.snd (Prod.snd (Prod.snd (Prod.snd (Prod.snd (Prod.snd z7))))))) [] (Prod.fst (Prod.snd (Prod.snd (Prod.snd (Prod.snd (Prod.snd (Prod.snd (Prod.snd z7)))))))) (Prod.snd (Prod.snd (Prod.snd (Prod.snd (Prod.snd (Prod.snd (Prod.snd (Prod.snd z7)))))))) (↑(List.length (Prod.snd (Prod.snd (Prod.snd (Prod.snd (Prod.snd (Prod.snd (Prod.snd (Prod.snd z7))))))))) : Int) (0 : Int)) fun z9 => some (Prod.snd (Prod.snd (Prod.snd (Prod.snd (Prod.snd (Prod.snd z9))))), Prod.fst (Prod.snd (Prod.snd (Prod.snd z9))), Prod.fst (Prod.snd (Prod.snd (Prod.snd (Prod.snd z9)))), Prod.fst (Prod.snd (Prod.snd (Prod.snd (Prod.snd (Prod.snd z9))))))
noncomputable def d_spec_faAll : FnDef := .of q_spec_faAll r_spec_faAll (List (Int × Int × Int) × Int × Int × List (Int × Int)) (fun k x => f_spec_faAll k x.1 x.2.1 x.2.2.1) to_spec_faAll of_spec_faAll to_of_spec_faAll
noncomputable def c_spec_faAll : Code := Try.f122.body.getD .skip
noncomputable def x_spec_faAll : Ctx (Tup r_spec_faAll × OutD) := { T := T, G := [(136, d_spec_boOwn.E), (137, d_spec_ggGroups.E), (138, d_spec_faGo.E)], mvs := [], no := 0, n := 41, res := resOf T q_spec_faAll r_spec_faAll Try.f122.results.toList, loops := [(0, f_spec_faAll_0D.E)], regs := [(1, f_spec_faAll_g1D.E)], conds := [] }
theorem g_spec_faAll (k : Nat) : EnvOK Try.prog k x_spec_faAll.G := (EnvOK.cons (s_spec_boOwn k) (EnvOK.cons (s_spec_ggGroups k) (EnvOK.cons (s_spec_faGo k) (EnvOK.nil mixed))))
noncomputable def f_spec_faAll_g1O : Array Oper := (findReg 1 c_spec_faAll).getD #[]
theorem f_spec_faAll_g1e (k : Nat) (x : f_spec_faAll_g1i.D) : execD x_spec_faAll.T x_spec_faAll.G x_spec_faAll.mvs k f_spec_faAll_g1O (f_spec_faAll_g1D.inp.st x_spec_faAll.n x) (outK x_spec_faAll f_spec_faAll_g1D) = f_spec_faAll_g1A k x.1.2.1.1 x.1.2.1.2.1 x.1.2.1.2.2.1 x.1.2.2.1.1 x.1.2.2.1.2.1 x.1.2.2.2.1 x.2.1 x.2.2.1 := by kernel_rfl
theorem f_spec_faAll_g1ok (k : Nat) : EOK Try.prog x_spec_faAll k f_spec_faAll_g1D.E (.region 1 f_spec_faAll_g1O true) := reg_ok (D := f_spec_faAll_g1D) (m := 3) T_ok (g_spec_faAll k) (fun x => (f_spec_faAll_g1e k x).trans (f_spec_faAll_g1j k x.1.2.1.1 x.1.2.1.2.1 x.1.2.1.2.2.1 x.1.2.2.1.1 x.1.2.2.1.2.1 x.1.2.2.2.1 x.2.1 x.2.2.1))
noncomputable def f_spec_faAll_0B : Code := (findLoop 0 c_spec_faAll).getD .skip
theorem f_spec_faAll_0h (k : Nat) (x : f_spec_faAll_0i.D) : f_spec_faAll_0D.lp (k + 1) x = loopK x_spec_faAll f_spec_faAll_0D 0 f_spec_faAll_0B k x := by kernel_rfl
theorem f_spec_faAll_0l (k : Nat) : LOK Try.prog x_spec_faAll k f_spec_faAll_0B := LOK.by [] (by kernel_rfl) AllOK.nil
theorem f_spec_faAll_0z (x : f_spec_faAll_0i.D) : f_spec_faAll_0D.lp 0 x = none := by kernel_rfl
theorem f_spec_faAll_0ok (k : Nat) : EOK Try.prog x_spec_faAll k f_spec_faAll_0D.E (.block 0 (.loop f_spec_faAll_0B)) := loop_ok T_ok g_spec_faAll f_spec_faAll_0z f_spec_faAll_0h f_spec_faAll_0l k
theorem h_spec_faAll (k : Nat) (x : Tup d_spec_faAll.ps) : d_spec_faAll.f (k + 1) x = fnK d_spec_faAll x_spec_faAll c_spec_faAll k x := by kernel_rfl
theorem z_spec_faAll (x : Tup d_spec_faAll.ps) : d_spec_faAll.f 0 x = none := by kernel_rfl
theorem l_spec_faAll (k : Nat) : LOK Try.prog x_spec_faAll k c_spec_faAll := LOK.by [(f_spec_faAll_g1D.E, .region 1 f_spec_faAll_g1O true), (f_spec_faAll_0D.E, .block 0 (.loop f_spec_faAll_0B))] (by kernel_rfl) (AllOK.cons (f_spec_faAll_g1ok k) (AllOK.cons (f_spec_faAll_0ok k) AllOK.nil))
theorem s_spec_faAll (k : Nat) : SoundAt Try.prog k 122 d_spec_faAll.E := @fn_all Try.prog d_spec_faAll x_spec_faAll 122 Try.f122 c_spec_faAll (by kernel_rfl) (by kernel_rfl) (by kernel_rfl) Try.func122 (by kernel_rfl) (by kernel_rfl) (by kernel_rfl) T_ok g_spec_faAll l_spec_faAll z_spec_faAll h_spec_faAll k
/-! function 123 -/
/-! function 127 -/
end
end Go.Proofs.Ytgpmbmnfcbippaa.Vs

set_option maxRecDepth 100000
set_option maxHeartbeats 2000000
set_option linter.unusedVariables false
set_option linter.unusedSimpArgs false
namespace Go.Proofs.Ytgpmbmnfcbippaa.Vs
open Go.RowKit
noncomputable section
/-! function 66 -/
/-! function 70 -/
/-! function 73 -/
/-! function 82 -/
noncomputable def r_spec_tsAsked : List PK := [{ t := Ty.bool }]
noncomputable def q_spec_tsAsked : List PK := [{ t := Ty.pair (Ty.int IntKind.i64) (Ty.pair (Ty.int IntKind.i64) (Ty.slice (116 : Nat) (Ty.pair (Ty.int IntKind.i64) (Ty.int IntKind.i64)))), agg := true }, { t := Ty.slice (25 : Nat) (Ty.slice (3 : Nat) (Ty.int IntKind.i64)) }]
noncomputable def to_spec_tsAsked (r : Bool) : Tup r_spec_tsAsked × OutD := ((r, ()), none)
noncomputable def of_spec_tsAsked : Tup r_spec_tsAsked × OutD → Option (Bool)
  | (a, none) => some (a.1)
  | _ => none
theorem to_of_spec_tsAsked : ∀ b r, of_spec_tsAsked b = some r → to_spec_tsAsked r = b := by
  rintro ⟨a, o⟩ r h
  cases o with
  | none => injection h with h; subst h; rfl
  | some _ => cases h
noncomputable def f_spec_tsAsked : Nat → Int × Int × List (Int × Int) → List (List Int) → Option Bool
  | 0, _, _ => none
  | k + 1, p0, p1 =>
    Option.bind (f_spec_tsGood k (Prod.fst p0, Prod.fst (Prod.snd p0), Prod.snd (Prod.snd p0))) fun z0 => if z0 = true then Option.bind (f_spec_tsTests k (Prod.fst p0, Prod.fst (Prod.snd p0), Prod.snd (Prod.snd p0)) p1) fun z1 => some z1 else some false
noncomputable def d_spec_tsAsked : FnDef := .of q_spec_tsAsked r_spec_tsAsked (Bool) (fun k x => f_spec_tsAsked k x.1 x.2.1) to_spec_tsAsked of_spec_tsAsked to_of_spec_tsAsked
noncomputable def c_spec_tsAsked : Code := Try.f82.body.getD .skip
noncomputable def x_spec_tsAsked : Ctx (Tup r_spec_tsAsked × OutD) := { T := T, G := [(118, d_spec_tsGood.E), (119, d_spec_tsTests.E)], mvs := [], no := 0, n := 12, res := resOf T q_spec_tsAsked r_spec_tsAsked Try.f82.results.toList, loops := [], regs := [], conds := [] }
theorem g_spec_tsAsked (k : Nat) : EnvOK Try.prog k x_spec_tsAsked.G := (EnvOK.cons (s_spec_tsGood k) (EnvOK.cons (s_spec_tsTests k) (EnvOK.nil mixed)))
theorem h_spec_tsAsked (k : Nat) (x : Tup d_spec_tsAsked.ps) : d_spec_tsAsked.f (k + 1) x = fnK d_spec_tsAsked x_spec_tsAsked c_spec_tsAsked k x := by kernel_rfl
theorem z_spec_tsAsked (x : Tup d_spec_tsAsked.ps) : d_spec_tsAsked.f 0 x = none := by kernel_rfl
theorem l_spec_tsAsked (k : Nat) : LOK Try.prog x_spec_tsAsked k c_spec_tsAsked := LOK.by [] (by kernel_rfl) AllOK.nil
theorem s_spec_tsAsked (k : Nat) : SoundAt Try.prog k 82 d_spec_tsAsked.E := @fn_all Try.prog d_spec_tsAsked x_spec_tsAsked 82 Try.f82 c_spec_tsAsked (by kernel_rfl) (by kernel_rfl) (by kernel_rfl) Try.func82 (by kernel_rfl) (by kernel_rfl) (by kernel_rfl) T_ok g_spec_tsAsked l_spec_tsAsked z_spec_tsAsked h_spec_tsAsked k
/-! function 84 -/
noncomputable def r_spec_tsEnds : List PK := [{ t := Ty.slice (45 : Nat) (Ty.slice (91 : Nat) (Ty.pair (Ty.int IntKind.i64) (Ty.pair (Ty.int IntKind.i64) (Ty.int IntKind.i64)))) }]
noncomputable def q_spec_tsEnds : List PK := [{ t := Ty.pair (Ty.int IntKind.i64) (Ty.pair (Ty.int IntKind.i64) (Ty.slice (116 : Nat) (Ty.pair (Ty.int IntKind.i64) (Ty.int IntKind.i64)))), agg := true }, { t := Ty.slice (83 : Nat) (Ty.pair (Ty.int IntKind.i64) (Ty.pair (Ty.int IntKind.i64) (Ty.int IntKind.i64))) }, { t := Ty.slice (25 : Nat) (Ty.slice (3 : Nat) (Ty.int IntKind.i64)) }]
noncomputable def to_spec_tsEnds (r : List (List (Int × Int × Int))) : Tup r_spec_tsEnds × OutD := ((r, ()), none)
noncomputable def of_spec_tsEnds : Tup r_spec_tsEnds × OutD → Option (List (List (Int × Int × Int)))
  | (a, none) => some (a.1)
  | _ => none
theorem to_of_spec_tsEnds : ∀ b r, of_spec_tsEnds b = some r → to_spec_tsEnds r = b := by
  rintro ⟨a, o⟩ r h
  cases o with
  | none => injection h with h; subst h; rfl
  | some _ => cases h
noncomputable def f_spec_tsEnds_0 : Nat → Int → Int → List (Int × Int) → List (List (Int × Int × Int)) → List (Int × Int × Int) → List (List Int) → Int → Int → Option (List (List (Int × Int × Int)))
  | 0, _, _, _, _, _, _, _, _ => none
  | k + 1, b1_0, b1_1, b1_2, o2, v1, v12, v13, v14 =>
    if decide (v14 < v13) = true then if (0 : Int) ≤ v14 then if v14 < (↑(List.length v12) : Int) then Option.bind (f_spec_faAll k (b1_0, b1_1, b1_2) v1 (List.getD v12 (Int.toNat v14) [])) fun z0 => if List.length o2 + List.length [Prod.fst z0] ≤ (140737488355328 / 24 : Nat) then f_spec_tsEnds_0 k b1_0 b1_1 b1_2 (o2 ++ [Prod.fst z0]) v1 v12 v13 (wrap64 (v14 + (1 : Int))) else none else none else none else some o2
noncomputable def f_spec_tsEnds_0i : Spec := { objs := [OSh.ro, OSh.box (32 : Nat) [Sh.int IntKind.i64, Sh.int IntKind.i64, Sh.snap (0 : Nat) (Ty.pair (Ty.int IntKind.i64) (Ty.int IntKind.i64))], OSh.row true (45 : Nat) (Ty.slice (91 : Nat) (Ty.pair (Ty.int IntKind.i64) (Ty.pair (Ty.int IntKind.i64) (Ty.int IntKind.i64))))], tmps := [((1 : Nat), TSh.at (Sh.snap (0 : Nat) (Ty.pair (Ty.int IntKind.i64) (Ty.pair (Ty.int IntKind.i64) (Ty.int IntKind.i64))))), ((3 : Nat), TSh.at (Sh.ptr (1 : Nat) (0 : Nat))), ((7 : Nat), TSh.at (Sh.sl (2 : Nat))), ((12 : Nat), TSh.at (Sh.snap (0 : Nat) (Ty.slice (3 : Nat) (Ty.int IntKind.i64)))), ((13 : Nat), TSh.at (Sh.int IntKind.i64)), ((14 : Nat), TSh.at (Sh.int IntKind.i64))] }
noncomputable def f_spec_tsEnds_0o : Spec := { objs := [OSh.ro, OSh.row true (45 : Nat) (Ty.slice (91 : Nat) (Ty.pair (Ty.int IntKind.i64) (Ty.pair (Ty.int IntKind.i64) (Ty.int IntKind.i64))))], tmps := [((7 : Nat), TSh.at (Sh.sl (1 : Nat)))] }
noncomputable def f_spec_tsEnds_0D : LoopDef (Tup r_spec_tsEnds × OutD) := .plain f_spec_tsEnds_0i f_spec_tsEnds_0o (List (List (Int × Int × Int))) (fun k x => f_spec_tsEnds_0 k x.1.2.1.1 x.1.2.1.2.1 x.1.2.1.2.2.1 x.1.2.2.1 x.2.1 x.2.2.2.2.1 x.2.2.2.2.2.1 x.2.2.2.2.2.2.1) (fun z => (((), z, ()), ((), ()))) (fun y => (y.1.2.1)) (fun _ => rfl)
noncomputable def f_spec_tsEnds : Nat → Int × Int × List (Int × Int) → List (Int × Int × Int) → List (List Int) → Option (List (List (Int × Int × Int)))
  | 0, _, _, _ => none
  | k + 1, p0, p1, p2 =>
    Option.bind (f_spec_tsEnds_0 k (Prod.fst p0) (Prod.fst (Prod.snd p0)) (Prod.snd (Prod.snd p0)) [] p1 p2 (↑(List.length p2) : Int) (0 : Int)) fun z1 => some z1
noncomputable def d_spec_tsEnds : FnDef := .of q_spec_tsEnds r_spec_tsEnds (List (List (Int × Int × Int))) (fun k x => f_spec_tsEnds k x.1 x.2.1 x.2.2.1) to_spec_tsEnds of_spec_tsEnds to_of_spec_tsEnds
noncomputable def c_spec_tsEnds : Code := Try.f84.body.getD .skip
noncomputable def x_spec_tsEnds : Ctx (Tup r_spec_tsEnds × OutD) := { T := T, G := [(122, d_spec_faAll.E)], mvs := [], no := 0, n := 31, res := resOf T q_spec_tsEnds r_spec_tsEnds Try.f84.results.toList, loops := [(0, f_spec_tsEnds_0D.E)], regs := [], conds := [] }
theorem g_spec_tsEnds (k : Nat) : EnvOK Try.prog k x_spec_tsEnds.G := (EnvOK.cons (s_spec_faAll k) (EnvOK.nil mixed))
noncomputable def f_spec_tsEnds_0B : Code := (findLoop 0 c_spec_tsEnds).getD .skip
theorem f_spec_tsEnds_0h (k : Nat) (x : f_spec_tsEnds_0i.D) : f_spec_tsEnds_0D.lp (k + 1) x = loopK x_spec_tsEnds f_spec_tsEnds_0D 0 f_spec_tsEnds_0B k x := by kernel_rfl
theorem f_spec_tsEnds_0l (k : Nat) : LOK Try.prog x_spec_tsEnds k f_spec_tsEnds_0B := LOK.by [] (by kernel_rfl) AllOK.nil
theorem f_spec_tsEnds_0z (x : f_spec_tsEnds_0i.D) : f_spec_tsEnds_0D.lp 0 x = none := by kernel_rfl
theorem f_spec_tsEnds_0ok (k : Nat) : EOK Try.prog x_spec_tsEnds k f_spec_tsEnds_0D.E (.block 0 (.loop f_spec_tsEnds_0B)) := loop_ok T_ok g_spec_tsEnds f_spec_tsEnds_0z f_spec_tsEnds_0h f_spec_tsEnds_0l k
theorem h_spec_tsEnds (k : Nat) (x : Tup d_spec_tsEnds.ps) : d_spec_tsEnds.f (k + 1) x = fnK d_spec_tsEnds x_spec_tsEnds c_spec_tsEnds k x := by kernel_rfl
theorem z_spec_tsEnds (x : Tup d_spec_tsEnds.ps) : d_spec_tsEnds.f 0 x = none := by kernel_rfl
theorem l_spec_tsEnds (k : Nat) : LOK Try.prog x_spec_tsEnds k c_spec_tsEnds := LOK.by [(f_spec_tsEnds_0D.E, .block 0 (.loop f_spec_tsEnds_0B))] (by kernel_rfl) (AllOK.cons (f_spec_tsEnds_0ok k) AllOK.nil)
theorem s_spec_tsEnds (k : Nat) : SoundAt Try.prog k 84 d_spec_tsEnds.E := @fn_all Try.prog d_spec_tsEnds x_spec_tsEnds 84 Try.f84 c_spec_tsEnds (by kernel_rfl) (by kernel_rfl) (by kernel_rfl) Try.func84 (by kernel_rfl) (by kernel_rfl) (by kernel_rfl) T_ok g_spec_tsEnds l_spec_tsEnds z_spec_tsEnds h_spec_tsEnds k
/-! function 86 -/
noncomputable def r_impl_areTests : List PK := [{ t := Ty.bool }]
noncomputable def q_impl_areTests : List PK := [{ t := Ty.pair (Ty.int IntKind.i64) (Ty.pair (Ty.int IntKind.i64) (Ty.slice (116 : Nat) (Ty.pair (Ty.int IntKind.i64) (Ty.int IntKind.i64)))), agg := true }, { t := Ty.slice (25 : Nat) (Ty.slice (3 : Nat) (Ty.int IntKind.i64)) }]
noncomputable def to_impl_areTests (r : Bool) : Tup r_impl_areTests × OutD := ((r, ()), none)
noncomputable def of_impl_areTests : Tup r_impl_areTests × OutD → Option (Bool)
  | (a, none) => some (a.1)
  | _ => none
theorem to_of_impl_areTests : ∀ b r, of_impl_areTests b = some r → to_impl_areTests r = b := by
  rintro ⟨a, o⟩ r h
  cases o with
  | none => injection h with h; subst h; rfl
  | some _ => cases h
noncomputable def f_impl_areTests_0 : Nat → Int → Int → List (Int × Int) → List (List Int) → Int → Int → Option (LR Unit Bool)
  | 0, _, _, _, _, _, _ => none
  | k + 1, b1_0, b1_1, b1_2, v21, v22, v23 =>
    if decide (v23 < v22) = true then if (0 : Int) ≤ v23 then if v23 < (↑(List.length v21) : Int) then if decide ((↑(List.length (List.getD v21 (Int.toNat v23) [])) : Int) > (8 : Int)) = true then some (LR.ret false) else Option.bind (f_impl_validEntries k (b1_0, b1_1, b1_2) (List.getD v21 (Int.toNat v23) [])) fun z1 => if (!z1) = true then some (LR.ret false) else f_impl_areTests_0 k b1_0 b1_1 b1_2 v21 v22 (wrap64 (v23 + (1 : Int))) else none else none else some (LR.go ())
noncomputable def f_impl_areTests_0i : Spec := { objs := [OSh.ro, OSh.box (32 : Nat) [Sh.int IntKind.i64, Sh.int IntKind.i64, Sh.snap (0 : Nat) (Ty.pair (Ty.int IntKind.i64) (Ty.int IntKind.i64))]], tmps := [((2 : Nat), TSh.at (Sh.ptr (1 : Nat) (0 : Nat))), ((21 : Nat), TSh.at (Sh.snap (0 : Nat) (Ty.slice (3 : Nat) (Ty.int IntKind.i64)))), ((22 : Nat), TSh.at (Sh.int IntKind.i64)), ((23 : Nat), TSh.at (Sh.int IntKind.i64))] }
noncomputable def f_impl_areTests_0o : Spec := { objs := [OSh.ro], tmps := [] }
noncomputable def f_impl_areTests_0D : LoopDef (Tup r_impl_areTests × OutD) := .rets f_impl_areTests_0i f_impl_areTests_0o (Unit) (Bool) (fun k x => f_impl_areTests_0 k x.1.2.1.1 x.1.2.1.2.1 x.1.2.1.2.2.1 x.2.2.1 x.2.2.2.1 x.2.2.2.2.1) (fun z => (((), ()), (()))) (fun y => ()) (fun _ => rfl) to_impl_areTests of_impl_areTests to_of_impl_areTests
noncomputable def f_impl_areTests : Nat → Int × Int × List (Int × Int) → List (List Int) → Option Bool
  | 0, _, _ => none
  | k + 1, p0, p1 =>
    Option.bind (f_impl_IsBoard k (Prod.fst p0, Prod.fst (Prod.snd p0), Prod.snd (Prod.snd p0))) fun z0 => if (!z0) = true then some false else if decide ((↑(List.length (Prod.snd (Prod.snd p0))) : Int) > (30 : Int)) = true then some false else if decide ((↑(List.length p1) : Int) > (10 : Int)) = true then some false else Option.bind (f_impl_areTests_0 k (Prod.fst p0) (Prod.fst (Prod.snd p0)) (Prod.snd (Prod.snd p0)) p1 (↑(List.length p1) : Int) (0 : Int)) fun z2 => LR.on z2 (fun y2 => some true) fun r2 => some r2
noncomputable def d_impl_areTests : FnDef := .of q_impl_areTests r_impl_areTests (Bool) (fun k x => f_impl_areTests k x.1 x.2.1) to_impl_areTests of_impl_areTests to_of_impl_areTests
noncomputable def c_impl_areTests : Code := Try.f86.body.getD .skip
noncomputable def x_impl_areTests : Ctx (Tup r_impl_areTests × OutD) := { T := T, G := [(108, d_impl_IsBoard.E), (64, d_impl_validEntries.E)], mvs := [], no := 0, n := 37, res := resOf T q_impl_areTests r_impl_areTests Try.f86.results.toList, loops := [(0, f_impl_areTests_0D.E)], regs := [], conds := [] }
theorem g_impl_areTests (k : Nat) : EnvOK Try.prog k x_impl_areTests.G := (EnvOK.cons (s_impl_IsBoard k) (EnvOK.cons (s_impl_validEntries k) (EnvOK.nil mixed)))
noncomputable def f_impl_areTests_0B : Code := (findLoop 0 c_impl_areTests).getD .skip
theorem f_impl_areTests_0h (k : Nat) (x : f_impl_areTests_0i.D) : f_impl_areTests_0D.lp (k + 1) x = loopK x_impl_areTests f_impl_areTests_0D 0 f_impl_areTests_0B k x := by kernel_rfl
theorem f_impl_areTests_0l (k : Nat) : LOK Try.prog x_impl_areTests k f_impl_areTests_0B := LOK.by [] (by kernel_rfl) AllOK.nil
theorem f_impl_areTests_0z (x : f_impl_areTests_0i.D) : f_impl_areTests_0D.lp 0 x = none := by kernel_rfl
theorem f_impl_areTests_0ok (k : Nat) : EOK Try.prog x_impl_areTests k f_impl_areTests_0D.E (.block 0 (.loop f_impl_areTests_0B)) := loop_ok T_ok g_impl_areTests f_impl_areTests_0z f_impl_areTests_0h f_impl_areTests_0l k
theorem h_impl_areTests (k : Nat) (x : Tup d_impl_areTests.ps) : d_impl_areTests.f (k + 1) x = fnK d_impl_areTests x_impl_areTests c_impl_areTests k x := by kernel_rfl
theorem z_impl_areTests (x : Tup d_impl_areTests.ps) : d_impl_areTests.f 0 x = none := by kernel_rfl
theorem l_impl_areTests (k : Nat) : LOK Try.prog x_impl_areTests k c_impl_areTests := LOK.by [(f_impl_areTests_0D.E, .block 0 (.loop f_impl_areTests_0B))] (by kernel_rfl) (AllOK.cons (f_impl_areTests_0ok k) AllOK.nil)
theorem s_impl_areTests (k : Nat) : SoundAt Try.prog k 86 d_impl_areTests.E := @fn_all Try.prog d_impl_areTests x_impl_areTests 86 Try.f86 c_impl_areTests (by kernel_rfl) (by kernel_rfl) (by kernel_rfl) Try.func86 (by kernel_rfl) (by kernel_rfl) (by kernel_rfl) T_ok g_impl_areTests l_impl_areTests z_impl_areTests h_impl_areTests k
/-! function 87 -/
/-! function 88 -/
noncomputable def r_impl_testEnds : List PK := [{ t := Ty.slice (45 : Nat) (Ty.slice (91 : Nat) (Ty.pair (Ty.int IntKind.i64) (Ty.pair (Ty.int IntKind.i64) (Ty.int IntKind.i64)))) }]
noncomputable def q_impl_testEnds : List PK := [{ t := Ty.pair (Ty.int IntKind.i64) (Ty.pair (Ty.int IntKind.i64) (Ty.slice (116 : Nat) (Ty.pair (Ty.int IntKind.i64) (Ty.int IntKind.i64)))), agg := true }, { t := Ty.slice (83 : Nat) (Ty.pair (Ty.int IntKind.i64) (Ty.pair (Ty.int IntKind.i64) (Ty.int IntKind.i64))) }, { t := Ty.slice (25 : Nat) (Ty.slice (3 : Nat) (Ty.int IntKind.i64)) }]
noncomputable def to_impl_testEnds (r : List (List (Int × Int × Int))) : Tup r_impl_testEnds × OutD := ((r, ()), none)
noncomputable def of_impl_testEnds : Tup r_impl_testEnds × OutD → Option (List (List (Int × Int × Int)))
  | (a, none) => some (a.1)
  | _ => none
theorem to_of_impl_testEnds : ∀ b r, of_impl_testEnds b = some r → to_impl_testEnds r = b := by
  rintro ⟨a, o⟩ r h
  cases o with
  | none => injection h with h; subst h; rfl
  | some _ => cases h
noncomputable def f_impl_testEnds_0 : Nat → Int → Int → List (Int × Int) → List (List (Int × Int × Int)) → List (Int × Int × Int) → List (List Int) → Int → Int → Option (List (List (Int × Int × Int)))
  | 0, _, _, _, _, _, _, _, _ => none
  | k + 1, b1_0, b1_1, b1_2, o2, v1, v13, v14, v15 =>
    if decide (v15 < v14) = true then if (0 : Int) ≤ v15 then if v15 < (↑(List.length v13) : Int) then Option.bind (f_impl_faultyDrops k (b1_0, b1_1, b1_2) v1 (List.getD v13 (Int.toNat v15) [])) fun z0 => if List.length o2 + List.length [Prod.fst z0] ≤ (140737488355328 / 24 : Nat) then f_impl_testEnds_0 k b1_0 b1_1 b1_2 (o2 ++ [Prod.fst z0]) v1 v13 v14 (wrap64 (v15 + (1 : Int))) else none else none else none else some o2
noncomputable def f_impl_testEnds_0i : Spec := { objs := [OSh.ro, OSh.box (32 : Nat) [Sh.int IntKind.i64, Sh.int IntKind.i64, Sh.snap (0 : Nat) (Ty.pair (Ty.int IntKind.i64) (Ty.int IntKind.i64))], OSh.row true (45 : Nat) (Ty.slice (91 : Nat) (Ty.pair (Ty.int IntKind.i64) (Ty.pair (Ty.int IntKind.i64) (Ty.int IntKind.i64))))], tmps := [((1 : Nat), TSh.at (Sh.snap (0 : Nat) (Ty.pair (Ty.int IntKind.i64) (Ty.pair (Ty.int IntKind.i64) (Ty.int IntKind.i64))))), ((3 : Nat), TSh.at (Sh.ptr (1 : Nat) (0 : Nat))), ((7 : Nat), TSh.at (Sh.sl (2 : Nat))), ((13 : Nat), TSh.at (Sh.snap (0 : Nat) (Ty.slice (3 : Nat) (Ty.int IntKind.i64)))), ((14 : Nat), TSh.at (Sh.int IntKind.i64)), ((15 : Nat), TSh.at (Sh.int IntKind.i64))] }
noncomputable def f_impl_testEnds_0o : Spec := { objs := [OSh.ro, OSh.row true (45 : Nat) (Ty.slice (91 : Nat) (Ty.pair (Ty.int IntKind.i64) (Ty.pair (Ty.int IntKind.i64) (Ty.int IntKind.i64))))], tmps := [((7 : Nat), TSh.at (Sh.sl (1 : Nat)))] }
noncomputable def f_impl_testEnds_0D : LoopDef (Tup r_impl_testEnds × OutD) := .plain f_impl_testEnds_0i f_impl_testEnds_0o (List (List (Int × Int × Int))) (fun k x => f_impl_testEnds_0 k x.1.2.1.1 x.1.2.1.2.1 x.1.2.1.2.2.1 x.1.2.2.1 x.2.1 x.2.2.2.2.1 x.2.2.2.2.2.1 x.2.2.2.2.2.2.1) (fun z => (((), z, ()), ((), ()))) (fun y => (y.1.2.1)) (fun _ => rfl)
noncomputable def f_impl_testEnds : Nat → Int × Int × List (Int × Int) → List (Int × Int × Int) → List (List Int) → Option (List (List (Int × Int × Int)))
  | 0, _, _, _ => none
  | k + 1, p0, p1, p2 =>
    Option.bind (f_impl_testEnds_0 k (Prod.fst p0) (Prod.fst (Prod.snd p0)) (Prod.snd (Prod.snd p0)) [] p1 p2 (↑(List.length p2) : Int) (0 : Int)) fun z1 => some z1
noncomputable def d_impl_testEnds : FnDef := .of q_impl_testEnds r_impl_testEnds (List (List (Int × Int × Int))) (fun k x => f_impl_testEnds k x.1 x.2.1 x.2.2.1) to_impl_testEnds of_impl_testEnds to_of_impl_testEnds
noncomputable def c_impl_testEnds : Code := Try.f88.body.getD .skip
noncomputable def x_impl_testEnds : Ctx (Tup r_impl_testEnds × OutD) := { T := T, G := [(111, d_impl_faultyDrops.E)], mvs := [], no := 0, n := 32, res := resOf T q_impl_testEnds r_impl_testEnds Try.f88.results.toList, loops := [(0, f_impl_testEnds_0D.E)], regs := [], conds := [] }
theorem g_impl_testEnds (k : Nat) : EnvOK Try.prog k x_impl_testEnds.G := (EnvOK.cons (s_impl_faultyDrops k) (EnvOK.nil mixed))
noncomputable def f_impl_testEnds_0B : Code := (findLoop 0 c_impl_testEnds).getD .skip
theorem f_impl_testEnds_0h (k : Nat) (x : f_impl_testEnds_0i.D) : f_impl_testEnds_0D.lp (k + 1) x = loopK x_impl_testEnds f_impl_testEnds_0D 0 f_impl_testEnds_0B k x := by kernel_rfl
theorem f_impl_testEnds_0l (k : Nat) : LOK Try.prog x_impl_testEnds k f_impl_testEnds_0B := LOK.by [] (by kernel_rfl) AllOK.nil
theorem f_impl_testEnds_0z (x : f_impl_testEnds_0i.D) : f_impl_testEnds_0D.lp 0 x = none := by kernel_rfl
theorem f_impl_testEnds_0ok (k : Nat) : EOK Try.prog x_impl_testEnds k f_impl_testEnds_0D.E (.block 0 (.loop f_impl_testEnds_0B)) := loop_ok T_ok g_impl_testEnds f_impl_testEnds_0z f_impl_testEnds_0h f_impl_testEnds_0l k
theorem h_impl_testEnds (k : Nat) (x : Tup d_impl_testEnds.ps) : d_impl_testEnds.f (k + 1) x = fnK d_impl_testEnds x_impl_testEnds c_impl_testEnds k x := by kernel_rfl
theorem z_impl_testEnds (x : Tup d_impl_testEnds.ps) : d_impl_testEnds.f 0 x = none := by kernel_rfl
theorem l_impl_testEnds (k : Nat) : LOK Try.prog x_impl_testEnds k c_impl_testEnds := LOK.by [(f_impl_testEnds_0D.E, .block 0 (.loop f_impl_testEnds_0B))] (by kernel_rfl) (AllOK.cons (f_impl_testEnds_0ok k) AllOK.nil)
theorem s_impl_testEnds (k : Nat) : SoundAt Try.prog k 88 d_impl_testEnds.E := @fn_all Try.prog d_impl_testEnds x_impl_testEnds 88 Try.f88 c_impl_testEnds (by kernel_rfl) (by kernel_rfl) (by kernel_rfl) Try.func88 (by kernel_rfl) (by kernel_rfl) (by kernel_rfl) T_ok g_impl_testEnds l_impl_testEnds z_impl_testEnds h_impl_testEnds k
/-! function 106 -/
/-! function 115 -/
/-! function 116 -/
end
end Go.Proofs.Ytgpmbmnfcbippaa.Vs

set_option maxRecDepth 100000
set_option maxHeartbeats 2000000
set_option linter.unusedVariables false
set_option linter.unusedSimpArgs false
namespace Go.Proofs.Ytgpmbmnfcbippaa.Vs
open Go.RowKit
noncomputable section
/-! function 17 -/
/-! function 43 -/
/-! function 46 -/
/-! function 62 -/
/-! function 71 -/
/-! function 74 -/
/-! function 76 -/
/-! function 77 -/
/-! function 94 -/
noncomputable def r_impl_caseEnds : List PK := [{ t := Ty.slice (59 : Nat) (Ty.slice (45 : Nat) (Ty.slice (91 : Nat) (Ty.pair (Ty.int IntKind.i64) (Ty.pair (Ty.int IntKind.i64) (Ty.int IntKind.i64))))) }]
noncomputable def q_impl_caseEnds : List PK := [{ t := Ty.pair (Ty.int IntKind.i64) (Ty.pair (Ty.int IntKind.i64) (Ty.slice (116 : Nat) (Ty.pair (Ty.int IntKind.i64) (Ty.int IntKind.i64)))), agg := true }, { t := Ty.slice (25 : Nat) (Ty.slice (3 : Nat) (Ty.int IntKind.i64)) }]
noncomputable def to_impl_caseEnds (r : List (List (List (Int × Int × Int)))) : Tup r_impl_caseEnds × OutD := ((r, ()), none)
noncomputable def of_impl_caseEnds : Tup r_impl_caseEnds × OutD → Option (List (List (List (Int × Int × Int))))
  | (a, none) => some (a.1)
  | _ => none
theorem to_of_impl_caseEnds : ∀ b r, of_impl_caseEnds b = some r → to_impl_caseEnds r = b := by
  rintro ⟨a, o⟩ r h
  cases o with
  | none => injection h with h; subst h; rfl
  | some _ => cases h
noncomputable def f_impl_caseEnds_0 : Nat → Int → Int → List (Int × Int) → List (List (List (Int × Int × Int))) → List (Int × Int × Int) → List (List Int) → Int → Int → Option (List (List (List (Int × Int × Int))))
  | 0, _, _, _, _, _, _, _, _ => none
  | k + 1, b1_0, b1_1, b1_2, o2, o3, v1, v14, v15 =>
    if decide (v15 < v14) = true then if (0 : Int) ≤ v15 then if v15 < (↑(List.length o3) : Int) then Option.bind (f_impl_testEnds k (b1_0, b1_1, b1_2) [(Prod.fst (List.getD o3 (Int.toNat v15) ((0 : Int), (0 : Int), (0 : Int))), Prod.fst (Prod.snd (List.getD o3 (Int.toNat v15) ((0 : Int), (0 : Int), (0 : Int)))), Prod.snd (Prod.snd (List.getD o3 (Int.toNat v15) ((0 : Int), (0 : Int), (0 : Int)))))] v1) fun z2 => if List.length o2 + List.length [z2] ≤ (140737488355328 / 24 : Nat) then f_impl_caseEnds_0 k b1_0 b1_1 b1_2 (o2 ++ [z2]) o3 v1 v14 (wrap64 (v15 + (1 : Int))) else none else none else none else some o2
noncomputable def f_impl_caseEnds_0i : Spec := { objs := [OSh.ro, OSh.box (32 : Nat) [Sh.int IntKind.i64, Sh.int IntKind.i64, Sh.snap (0 : Nat) (Ty.pair (Ty.int IntKind.i64) (Ty.int IntKind.i64))], OSh.row true (59 : Nat) (Ty.slice (45 : Nat) (Ty.slice (91 : Nat) (Ty.pair (Ty.int IntKind.i64) (Ty.pair (Ty.int IntKind.i64) (Ty.int IntKind.i64))))), OSh.row true (83 : Nat) (Ty.pair (Ty.int IntKind.i64) (Ty.pair (Ty.int IntKind.i64) (Ty.int IntKind.i64)))], tmps := [((1 : Nat), TSh.at (Sh.snap (0 : Nat) (Ty.slice (3 : Nat) (Ty.int IntKind.i64)))), ((2 : Nat), TSh.at (Sh.ptr (1 : Nat) (0 : Nat))), ((5 : Nat), TSh.at (Sh.sl (2 : Nat))), ((13 : Nat), TSh.at (Sh.sl (3 : Nat))), ((14 : Nat), TSh.at (Sh.int IntKind.i64)), ((15 : Nat), TSh.at (Sh.int IntKind.i64))] }
noncomputable def f_impl_caseEnds_0o : Spec := { objs := [OSh.ro, OSh.row true (59 : Nat) (Ty.slice (45 : Nat) (Ty.slice (91 : Nat) (Ty.pair (Ty.int IntKind.i64) (Ty.pair (Ty.int IntKind.i64) (Ty.int IntKind.i64)))))], tmps := [((5 : Nat), TSh.at (Sh.sl (1 : Nat)))] }
noncomputable def f_impl_caseEnds_0D : LoopDef (Tup r_impl_caseEnds × OutD) := .plain f_impl_caseEnds_0i f_impl_caseEnds_0o (List (List (List (Int × Int × Int)))) (fun k x => f_impl_caseEnds_0 k x.1.2.1.1 x.1.2.1.2.1 x.1.2.1.2.2.1 x.1.2.2.1 x.1.2.2.2.1 x.2.1 x.2.2.2.2.2.1 x.2.2.2.2.2.2.1) (fun z => (((), z, ()), ((), ()))) (fun y => (y.1.2.1)) (fun _ => rfl)
noncomputable def f_impl_caseEnds : Nat → Int × Int × List (Int × Int) → List (List Int) → Option (List (List (List (Int × Int × Int))))
  | 0, _, _ => none
  | k + 1, p0, p1 =>
    Option.bind (f_impl_testEnds k (Prod.fst p0, Prod.fst (Prod.snd p0), Prod.snd (Prod.snd p0)) [] p1) fun z0 => Option.bind (f_impl_possibleFaults k (Prod.fst p0, Prod.fst (Prod.snd p0), Prod.snd (Prod.snd p0))) fun z1 => Option.bind (f_impl_caseEnds_0 k (Prod.fst p0) (Prod.fst (Prod.snd p0)) (Prod.snd (Prod.snd p0)) [z0] z1 p1 (↑(List.length z1) : Int) (0 : Int)) fun z3 => some z3
noncomputable def d_impl_caseEnds : FnDef := .of q_impl_caseEnds r_impl_caseEnds (List (List (List (Int × Int × Int)))) (fun k x => f_impl_caseEnds k x.1 x.2.1) to_impl_caseEnds of_impl_caseEnds to_of_impl_caseEnds
noncomputable def c_impl_caseEnds : Code := Try.f94.body.getD .skip
noncomputable def x_impl_caseEnds : Ctx (Tup r_impl_caseEnds × OutD) := { T := T, G := [(88, d_impl_testEnds.E), (65, d_impl_possibleFaults.E)], mvs := [], no := 0, n := 29, res := resOf T q_impl_caseEnds r_impl_caseEnds Try.f94.results.toList, loops := [(0, f_impl_caseEnds_0D.E)], regs := [], conds := [] }
theorem g_impl_caseEnds (k : Nat) : EnvOK Try.prog k x_impl_caseEnds.G := (EnvOK.cons (s_impl_testEnds k) (EnvOK.cons (s_impl_possibleFaults k) (EnvOK.nil mixed)))
noncomputable def f_impl_caseEnds_0B : Code := (findLoop 0 c_impl_caseEnds).getD .skip
theorem f_impl_caseEnds_0h (k : Nat) (x : f_impl_caseEnds_0i.D) : f_impl_caseEnds_0D.lp (k + 1) x = loopK x_impl_caseEnds f_impl_caseEnds_0D 0 f_impl_caseEnds_0B k x := by kernel_rfl
theorem f_impl_caseEnds_0l (k : Nat) : LOK Try.prog x_impl_caseEnds k f_impl_caseEnds_0B := LOK.by [] (by kernel_rfl) AllOK.nil
theorem f_impl_caseEnds_0z (x : f_impl_caseEnds_0i.D) : f_impl_caseEnds_0D.lp 0 x = none := by kernel_rfl
theorem f_impl_caseEnds_0ok (k : Nat) : EOK Try.prog x_impl_caseEnds k f_impl_caseEnds_0D.E (.block 0 (.loop f_impl_caseEnds_0B)) := loop_ok T_ok g_impl_caseEnds f_impl_caseEnds_0z f_impl_caseEnds_0h f_impl_caseEnds_0l k
theorem h_impl_caseEnds (k : Nat) (x : Tup d_impl_caseEnds.ps) : d_impl_caseEnds.f (k + 1) x = fnK d_impl_caseEnds x_impl_caseEnds c_impl_caseEnds k x := by kernel_rfl
theorem z_impl_caseEnds (x : Tup d_impl_caseEnds.ps) : d_impl_caseEnds.f 0 x = none := by kernel_rfl
theorem l_impl_caseEnds (k : Nat) : LOK Try.prog x_impl_caseEnds k c_impl_caseEnds := LOK.by [(f_impl_caseEnds_0D.E, .block 0 (.loop f_impl_caseEnds_0B))] (by kernel_rfl) (AllOK.cons (f_impl_caseEnds_0ok k) AllOK.nil)
theorem s_impl_caseEnds (k : Nat) : SoundAt Try.prog k 94 d_impl_caseEnds.E := @fn_all Try.prog d_impl_caseEnds x_impl_caseEnds 94 Try.f94 c_impl_caseEnds (by kernel_rfl) (by kernel_rfl) (by kernel_rfl) Try.func94 (by kernel_rfl) (by kernel_rfl) (by kernel_rfl) T_ok g_impl_caseEnds l_impl_caseEnds z_impl_caseEnds h_impl_caseEnds k
/-! function 99 -/
noncomputable def r_spec_tsCases : List PK := [{ t := Ty.slice (59 : Nat) (Ty.slice (45 : Nat) (Ty.slice (91 : Nat) (Ty.pair (Ty.int IntKind.i64) (Ty.pair (Ty.int IntKind.i64) (Ty.int IntKind.i64))))) }]
noncomputable def q_spec_tsCases : List PK := [{ t := Ty.pair (Ty.int IntKind.i64) (Ty.pair (Ty.int IntKind.i64) (Ty.slice (116 : Nat) (Ty.pair (Ty.int IntKind.i64) (Ty.int IntKind.i64)))), agg := true }, { t := Ty.slice (25 : Nat) (Ty.slice (3 : Nat) (Ty.int IntKind.i64)) }]
noncomputable def to_spec_tsCases (r : List (List (List (Int × Int × Int)))) : Tup r_spec_tsCases × OutD := ((r, ()), none)
noncomputable def of_spec_tsCases : Tup r_spec_tsCases × OutD → Option (List (List (List (Int × Int × Int))))
  | (a, none) => some (a.1)
  | _ => none
theorem to_of_spec_tsCases : ∀ b r, of_spec_tsCases b = some r → to_spec_tsCases r = b := by
  rintro ⟨a, o⟩ r h
  cases o with
  | none => injection h with h; subst h; rfl
  | some _ => cases h
noncomputable def f_spec_tsCases_0 : Nat → Int → Int → List (Int × Int) → List (List (List (Int × Int × Int))) → List (Int × Int × Int) → List (List Int) → Int → Int → Option (List (List (List (Int × Int × Int))))
  | 0, _, _, _, _, _, _, _, _ => none
  | k + 1, b1_0, b1_1, b1_2, o2, o3, v1, v14, v15 =>
    if decide (v15 < v14) = true then if (0 : Int) ≤ v15 then if v15 < (↑(List.length o3) : Int) then Option.bind (f_spec_tsEnds k (b1_0, b1_1, b1_2) [(Prod.fst (List.getD o3 (Int.toNat v15) ((0 : Int), (0 : Int), (0 : Int))), Prod.fst (Prod.snd (List.getD o3 (Int.toNat v15) ((0 : Int), (0 : Int), (0 : Int)))), Prod.snd (Prod.snd (List.getD o3 (Int.toNat v15) ((0 : Int), (0 : Int), (0 : Int)))))] v1) fun z2 => if List.length o2 + List.length [z2] ≤ (140737488355328 / 24 : Nat) then f_spec_tsCases_0 k b1_0 b1_1 b1_2 (o2 ++ [z2]) o3 v1 v14 (wrap64 (v15 + (1 : Int))) else none else none else none else some o2
noncomputable def f_spec_tsCases_0i : Spec := { objs := [OSh.ro, OSh.box (32 : Nat) [Sh.int IntKind.i64, Sh.int IntKind.i64, Sh.snap (0 : Nat) (Ty.pair (Ty.int IntKind.i64) (Ty.int IntKind.i64))], OSh.row true (59 : Nat) (Ty.slice (45 : Nat) (Ty.slice (91 : Nat) (Ty.pair (Ty.int IntKind.i64) (Ty.pair (Ty.int IntKind.i64) (Ty.int IntKind.i64))))), OSh.row true (83 : Nat) (Ty.pair (Ty.int IntKind.i64) (Ty.pair (Ty.int IntKind.i64) (Ty.int IntKind.i64)))], tmps := [((1 : Nat), TSh.at (Sh.snap (0 : Nat) (Ty.slice (3 : Nat) (Ty.int IntKind.i64)))), ((2 : Nat), TSh.at (Sh.ptr (1 : Nat) (0 : Nat))), ((5 : Nat), TSh.at (Sh.sl (2 : Nat))), ((13 : Nat), TSh.at (Sh.sl (3 : Nat))), ((14 : Nat), TSh.at (Sh.int IntKind.i64)), ((15 : Nat), TSh.at (Sh.int IntKind.i64))] }
noncomputable def f_spec_tsCases_0o : Spec := { objs := [OSh.ro, OSh.row true (59 : Nat) (Ty.slice (45 : Nat) (Ty.slice (91 : Nat) (Ty.pair (Ty.int IntKind.i64) (Ty.pair (Ty.int IntKind.i64) (Ty.int IntKind.i64)))))], tmps := [((5 : Nat), TSh.at (Sh.sl (1 : Nat)))] }
noncomputable def f_spec_tsCases_0D : LoopDef (Tup r_spec_tsCases × OutD) := .plain f_spec_tsCases_0i f_spec_tsCases_0o (List (List (List (Int × Int × Int)))) (fun k x => f_spec_tsCases_0 k x.1.2.1.1 x.1.2.1.2.1 x.1.2.1.2.2.1 x.1.2.2.1 x.1.2.2.2.1 x.2.1 x.2.2.2.2.2.1 x.2.2.2.2.2.2.1) (fun z => (((), z, ()), ((), ()))) (fun y => (y.1.2.1)) (fun _ => rfl)
noncomputable def f_spec_tsCases : Nat → Int × Int × List (Int × Int) → List (List Int) → Option (List (List (List (Int × Int × Int))))
  | 0, _, _ => none
  | k + 1, p0, p1 =>
    Option.bind (f_spec_tsEnds k (Prod.fst p0, Prod.fst (Prod.snd p0), Prod.snd (Prod.snd p0)) [] p1) fun z0 => Option.bind (f_spec_faPossible k (Prod.fst p0, Prod.fst (Prod.snd p0), Prod.snd (Prod.snd p0))) fun z1 => Option.bind (f_spec_tsCases_0 k (Prod.fst p0) (Prod.fst (Prod.snd p0)) (Prod.snd (Prod.snd p0)) [z0] z1 p1 (↑(List.length z1) : Int) (0 : Int)) fun z3 => some z3
noncomputable def d_spec_tsCases : FnDef := .of q_spec_tsCases r_spec_tsCases (List (List (List (Int × Int × Int)))) (fun k x => f_spec_tsCases k x.1 x.2.1) to_spec_tsCases of_spec_tsCases to_of_spec_tsCases
noncomputable def c_spec_tsCases : Code := Try.f99.body.getD .skip
noncomputable def x_spec_tsCases : Ctx (Tup r_spec_tsCases × OutD) := { T := T, G := [(84, d_spec_tsEnds.E), (105, d_spec_faPossible.E)], mvs := [], no := 0, n := 29, res := resOf T q_spec_tsCases r_spec_tsCases Try.f99.results.toList, loops := [(0, f_spec_tsCases_0D.E)], regs := [], conds := [] }
theorem g_spec_tsCases (k : Nat) : EnvOK Try.prog k x_spec_tsCases.G := (EnvOK.cons (s_spec_tsEnds k) (EnvOK.cons (s_spec_faPossible k) (EnvOK.nil mixed)))
noncomputable def f_spec_tsCases_0B : Code := (findLoop 0 c_spec_tsCases).getD .skip
theorem f_spec_tsCases_0h (k : Nat) (x : f_spec_tsCases_0i.D) : f_spec_tsCases_0D.lp (k + 1) x = loopK x_spec_tsCases f_spec_tsCases_0D 0 f_spec_tsCases_0B k x := by kernel_rfl
theorem f_spec_tsCases_0l (k : Nat) : LOK Try.prog x_spec_tsCases k f_spec_tsCases_0B := LOK.by [] (by kernel_rfl) AllOK.nil
theorem f_spec_tsCases_0z (x : f_spec_tsCases_0i.D) : f_spec_tsCases_0D.lp 0 x = none := by kernel_rfl
theorem f_spec_tsCases_0ok (k : Nat) : EOK Try.prog x_spec_tsCases k f_spec_tsCases_0D.E (.block 0 (.loop f_spec_tsCases_0B)) := loop_ok T_ok g_spec_tsCases f_spec_tsCases_0z f_spec_tsCases_0h f_spec_tsCases_0l k
theorem h_spec_tsCases (k : Nat) (x : Tup d_spec_tsCases.ps) : d_spec_tsCases.f (k + 1) x = fnK d_spec_tsCases x_spec_tsCases c_spec_tsCases k x := by kernel_rfl
theorem z_spec_tsCases (x : Tup d_spec_tsCases.ps) : d_spec_tsCases.f 0 x = none := by kernel_rfl
theorem l_spec_tsCases (k : Nat) : LOK Try.prog x_spec_tsCases k c_spec_tsCases := LOK.by [(f_spec_tsCases_0D.E, .block 0 (.loop f_spec_tsCases_0B))] (by kernel_rfl) (AllOK.cons (f_spec_tsCases_0ok k) AllOK.nil)
theorem s_spec_tsCases (k : Nat) : SoundAt Try.prog k 99 d_spec_tsCases.E := @fn_all Try.prog d_spec_tsCases x_spec_tsCases 99 Try.f99 c_spec_tsCases (by kernel_rfl) (by kernel_rfl) (by kernel_rfl) Try.func99 (by kernel_rfl) (by kernel_rfl) (by kernel_rfl) T_ok g_spec_tsCases l_spec_tsCases z_spec_tsCases h_spec_tsCases k
end
end Go.Proofs.Ytgpmbmnfcbippaa.Vs
