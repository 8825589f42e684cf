/- Functions of the program by plain functions, each with its contract. -/
import Derived.Test.YtkefbmaagdaodaaVsT
import Derived.Test.YtkefbmaagdaodaaVf0
import Derived.Test.YtkefbmaagdaodaaVf1
set_option maxRecDepth 100000
set_option linter.unusedVariables false
namespace Go.Proofs.Ytkefbmaagdaodaa.Vs
open Go.RowKit
noncomputable section
/-! function 18 -/
noncomputable def r_laws_toBoard : List PK := [{ t := Ty.pair (Ty.int IntKind.i64) (Ty.pair (Ty.int IntKind.i64) (Ty.slice 123 (Ty.pair (Ty.int IntKind.i64) (Ty.int IntKind.i64)))), agg := true }]
noncomputable def q_laws_toBoard : List PK := [{ t := Ty.pair (Ty.int IntKind.i64) (Ty.pair (Ty.int IntKind.i64) (Ty.slice 128 (Ty.pair (Ty.int IntKind.i64) (Ty.int IntKind.i64)))), agg := true }]
noncomputable def to_laws_toBoard (r : Int × Int × List (Int × Int)) : Tup r_laws_toBoard × OutD := ((r, ()), none)
noncomputable def of_laws_toBoard : Tup r_laws_toBoard × OutD → Option (Int × Int × List (Int × Int))
  | (a, none) => some (a.1)
  | _ => none
theorem to_of_laws_toBoard : ∀ b r, of_laws_toBoard b = some r → to_laws_toBoard r = b := by
  rintro ⟨a, o⟩ r h
  cases o with
  | none => injection h with h; subst h; rfl
  | some _ => cases h
noncomputable def f_laws_toBoard : Nat → Int × Int × List (Int × Int) → Option (Int × Int × List (Int × Int))
  | 0, _ => none
  | k + 1, p0 =>
    Option.bind (f_laws_toCellS k (Prod.snd (Prod.snd p0))) fun z0 => some (Prod.fst p0, Prod.fst (Prod.snd p0), z0)
noncomputable def d_laws_toBoard : FnDef := .of q_laws_toBoard r_laws_toBoard (Int × Int × List (Int × Int)) (fun k x => f_laws_toBoard k x.1) to_laws_toBoard of_laws_toBoard to_of_laws_toBoard
noncomputable def c_laws_toBoard : Code := Try.f18.body.getD .skip
noncomputable def x_laws_toBoard : Ctx (Tup r_laws_toBoard × OutD) := { T := T, G := [(65, d_laws_toCellS.E)], mvs := [], no := 0, n := 15, res := resOf T q_laws_toBoard r_laws_toBoard Try.f18.results.toList, loops := [] }
theorem g_laws_toBoard (k : Nat) : EnvOK Try.prog k x_laws_toBoard.G := (EnvOK.cons (s_laws_toCellS k) (EnvOK.nil mixed))
theorem h_laws_toBoard (k : Nat) (x : Tup d_laws_toBoard.ps) : d_laws_toBoard.f (k + 1) x = fnK d_laws_toBoard x_laws_toBoard c_laws_toBoard k x := by kernel_rfl
theorem z_laws_toBoard (x : Tup d_laws_toBoard.ps) : d_laws_toBoard.f 0 x = none := by kernel_rfl
theorem l_laws_toBoard (k : Nat) : LOK Try.prog x_laws_toBoard k c_laws_toBoard := LOK.by [] (by kernel_rfl) AllOK.nil
theorem s_laws_toBoard (k : Nat) : SoundAt Try.prog k 18 d_laws_toBoard.E := @fn_all Try.prog d_laws_toBoard x_laws_toBoard 18 Try.f18 c_laws_toBoard (by kernel_rfl) (by kernel_rfl) (by kernel_rfl) Try.func18 (by kernel_rfl) (by kernel_rfl) (by kernel_rfl) T_ok g_laws_toBoard l_laws_toBoard z_laws_toBoard h_laws_toBoard k
/-! function 21 -/
noncomputable def r_laws_eqBoard : List PK := [{ t := Ty.bool }]
noncomputable def q_laws_eqBoard : List PK := [{ t := Ty.pair (Ty.int IntKind.i64) (Ty.pair (Ty.int IntKind.i64) (Ty.slice 123 (Ty.pair (Ty.int IntKind.i64) (Ty.int IntKind.i64)))), agg := true }, { t := Ty.pair (Ty.int IntKind.i64) (Ty.pair (Ty.int IntKind.i64) (Ty.slice 123 (Ty.pair (Ty.int IntKind.i64) (Ty.int IntKind.i64)))), agg := true }]
noncomputable def to_laws_eqBoard (r : Bool) : Tup r_laws_eqBoard × OutD := ((r, ()), none)
noncomputable def of_laws_eqBoard : Tup r_laws_eqBoard × OutD → Option (Bool)
  | (a, none) => some (a.1)
  | _ => none
theorem to_of_laws_eqBoard : ∀ b r, of_laws_eqBoard b = some r → to_laws_eqBoard r = b := by
  rintro ⟨a, o⟩ r h
  cases o with
  | none => injection h with h; subst h; rfl
  | some _ => cases h
noncomputable def f_laws_eqBoard : Nat → Int × Int × List (Int × Int) → Int × Int × List (Int × Int) → Option Bool
  | 0, _, _ => none
  | k + 1, p0, p1 =>
    if decide (Prod.fst p0 ≠ Prod.fst p1) = true then some false else if decide (Prod.fst (Prod.snd p0) ≠ Prod.fst (Prod.snd p1)) = true then some false else Option.bind (f_laws_eqCellS k (Prod.snd (Prod.snd p0)) (Prod.snd (Prod.snd p1))) fun z0 => if (!z0) = true then some false else some true
noncomputable def d_laws_eqBoard : FnDef := .of q_laws_eqBoard r_laws_eqBoard (Bool) (fun k x => f_laws_eqBoard k x.1 x.2.1) to_laws_eqBoard of_laws_eqBoard to_of_laws_eqBoard
noncomputable def c_laws_eqBoard : Code := Try.f21.body.getD .skip
noncomputable def x_laws_eqBoard : Ctx (Tup r_laws_eqBoard × OutD) := { T := T, G := [(69, d_laws_eqCellS.E)], mvs := [], no := 0, n := 21, res := resOf T q_laws_eqBoard r_laws_eqBoard Try.f21.results.toList, loops := [] }
theorem g_laws_eqBoard (k : Nat) : EnvOK Try.prog k x_laws_eqBoard.G := (EnvOK.cons (s_laws_eqCellS k) (EnvOK.nil mixed))
theorem h_laws_eqBoard (k : Nat) (x : Tup d_laws_eqBoard.ps) : d_laws_eqBoard.f (k + 1) x = fnK d_laws_eqBoard x_laws_eqBoard c_laws_eqBoard k x := by kernel_rfl
theorem z_laws_eqBoard (x : Tup d_laws_eqBoard.ps) : d_laws_eqBoard.f 0 x = none := by kernel_rfl
theorem l_laws_eqBoard (k : Nat) : LOK Try.prog x_laws_eqBoard k c_laws_eqBoard := LOK.by [] (by kernel_rfl) AllOK.nil
theorem s_laws_eqBoard (k : Nat) : SoundAt Try.prog k 21 d_laws_eqBoard.E := @fn_all Try.prog d_laws_eqBoard x_laws_eqBoard 21 Try.f21 c_laws_eqBoard (by kernel_rfl) (by kernel_rfl) (by kernel_rfl) Try.func21 (by kernel_rfl) (by kernel_rfl) (by kernel_rfl) T_ok g_laws_eqBoard l_laws_eqBoard z_laws_eqBoard h_laws_eqBoard k
/-! function 63 -/
noncomputable def r_spec_boGood : List PK := [{ t := Ty.bool }]
noncomputable def q_spec_boGood : List PK := [{ t := Ty.pair (Ty.int IntKind.i64) (Ty.pair (Ty.int IntKind.i64) (Ty.slice 123 (Ty.pair (Ty.int IntKind.i64) (Ty.int IntKind.i64)))), agg := true }]
noncomputable def to_spec_boGood (r : Bool) : Tup r_spec_boGood × OutD := ((r, ()), none)
noncomputable def of_spec_boGood : Tup r_spec_boGood × OutD → Option (Bool)
  | (a, none) => some (a.1)
  | _ => none
theorem to_of_spec_boGood : ∀ b r, of_spec_boGood b = some r → to_spec_boGood r = b := by
  rintro ⟨a, o⟩ r h
  cases o with
  | none => injection h with h; subst h; rfl
  | some _ => cases h
noncomputable def f_spec_boGood_0 : Nat → List (Int × Int) → Int → Int → Option (LR Unit Bool)
  | 0, _, _, _ => none
  | k + 1, v27, v28, v29 =>
    if decide (v29 < v28) = true then if 0 ≤ v29 then if v29 < (↑(List.length v27) : Int) then Option.bind (f_spec_paGood k (Prod.fst (List.getD v27 (Int.toNat v29) (0, 0)), Prod.snd (List.getD v27 (Int.toNat v29) (0, 0)))) fun z2 => if (!z2) = true then some (LR.ret false) else f_spec_boGood_0 k v27 v28 (wrap64 (v29 + 1)) else none else none else some (LR.go ())
noncomputable def f_spec_boGood_0i : Spec := { objs := [OSh.ro], tmps := [(27, TSh.at (Sh.snap 0 (Ty.pair (Ty.int IntKind.i64) (Ty.int IntKind.i64)))), (28, TSh.at (Sh.int IntKind.i64)), (29, TSh.at (Sh.int IntKind.i64))] }
noncomputable def f_spec_boGood_0o : Spec := { objs := [OSh.ro], tmps := [] }
noncomputable def f_spec_boGood_0D : LoopDef (Tup r_spec_boGood × OutD) := .rets f_spec_boGood_0i f_spec_boGood_0o (Unit) (Bool) (fun k x => f_spec_boGood_0 k x.2.1 x.2.2.1 x.2.2.2.1) (fun z => (((), ()), (()))) (fun y => ()) (fun _ => rfl) to_spec_boGood of_spec_boGood to_of_spec_boGood
noncomputable def f_spec_boGood : Nat → Int × Int × List (Int × Int) → Option Bool
  | 0, _ => none
  | k + 1, p0 =>
    Option.bind (f_spec_l1In k (Prod.fst p0) 1 10) fun z0 => if (!z0) = true then some false else Option.bind (f_spec_l1In k (Prod.fst (Prod.snd p0)) 1 9) fun z1 => if (!z1) = true then some false else if decide ((↑(List.length (Prod.snd (Prod.snd p0))) : Int) ≠ wrap64 (Prod.fst p0 * Prod.fst (Prod.snd p0))) = true then some false else Option.bind (f_spec_boGood_0 k (Prod.snd (Prod.snd p0)) (↑(List.length (Prod.snd (Prod.snd p0))) : Int) 0) fun z3 => LR.on z3 (fun y3 => some true) fun r3 => some r3
noncomputable def d_spec_boGood : FnDef := .of q_spec_boGood r_spec_boGood (Bool) (fun k x => f_spec_boGood k x.1) to_spec_boGood of_spec_boGood to_of_spec_boGood
noncomputable def c_spec_boGood : Code := Try.f63.body.getD .skip
noncomputable def x_spec_boGood : Ctx (Tup r_spec_boGood × OutD) := { T := T, G := [(110, d_spec_l1In.E), (111, d_spec_paGood.E)], mvs := [], no := 0, n := 37, res := resOf T q_spec_boGood r_spec_boGood Try.f63.results.toList, loops := [(0, f_spec_boGood_0D.E)] }
theorem g_spec_boGood (k : Nat) : EnvOK Try.prog k x_spec_boGood.G := (EnvOK.cons (s_spec_l1In k) (EnvOK.cons (s_spec_paGood k) (EnvOK.nil mixed)))
noncomputable def f_spec_boGood_0B : Code := (findLoop 0 c_spec_boGood).getD .skip
theorem f_spec_boGood_0h (k : Nat) (x : f_spec_boGood_0i.D) : f_spec_boGood_0D.lp (k + 1) x = loopK x_spec_boGood f_spec_boGood_0D 0 f_spec_boGood_0B k x := by kernel_rfl
theorem f_spec_boGood_0l (k : Nat) : LOK Try.prog x_spec_boGood k f_spec_boGood_0B := LOK.by [] (by kernel_rfl) AllOK.nil
theorem f_spec_boGood_0z (x : f_spec_boGood_0i.D) : f_spec_boGood_0D.lp 0 x = none := by kernel_rfl
theorem f_spec_boGood_0ok (k : Nat) : EOK Try.prog x_spec_boGood k f_spec_boGood_0D.E (.block 0 (.loop f_spec_boGood_0B)) := loop_ok T_ok g_spec_boGood f_spec_boGood_0z f_spec_boGood_0h f_spec_boGood_0l k
theorem h_spec_boGood (k : Nat) (x : Tup d_spec_boGood.ps) : d_spec_boGood.f (k + 1) x = fnK d_spec_boGood x_spec_boGood c_spec_boGood k x := by kernel_rfl
theorem z_spec_boGood (x : Tup d_spec_boGood.ps) : d_spec_boGood.f 0 x = none := by kernel_rfl
theorem l_spec_boGood (k : Nat) : LOK Try.prog x_spec_boGood k c_spec_boGood := LOK.by [(f_spec_boGood_0D.E, .block 0 (.loop f_spec_boGood_0B))] (by kernel_rfl) (AllOK.cons (f_spec_boGood_0ok k) AllOK.nil)
theorem s_spec_boGood (k : Nat) : SoundAt Try.prog k 63 d_spec_boGood.E := @fn_all Try.prog d_spec_boGood x_spec_boGood 63 Try.f63 c_spec_boGood (by kernel_rfl) (by kernel_rfl) (by kernel_rfl) Try.func63 (by kernel_rfl) (by kernel_rfl) (by kernel_rfl) T_ok g_spec_boGood l_spec_boGood z_spec_boGood h_spec_boGood k
/-! function 64 -/
noncomputable def r_spec_faGood : List PK := [{ t := Ty.bool }]
noncomputable def q_spec_faGood : List PK := [{ t := Ty.pair (Ty.int IntKind.i64) (Ty.pair (Ty.int IntKind.i64) (Ty.slice 123 (Ty.pair (Ty.int IntKind.i64) (Ty.int IntKind.i64)))), agg := true }, { t := Ty.slice 87 (Ty.pair (Ty.int IntKind.i64) (Ty.pair (Ty.int IntKind.i64) (Ty.int IntKind.i64))) }]
noncomputable def to_spec_faGood (r : Bool) : Tup r_spec_faGood × OutD := ((r, ()), none)
noncomputable def of_spec_faGood : Tup r_spec_faGood × OutD → Option (Bool)
  | (a, none) => some (a.1)
  | _ => none
theorem to_of_spec_faGood : ∀ b r, of_spec_faGood b = some r → to_spec_faGood r = b := by
  rintro ⟨a, o⟩ r h
  cases o with
  | none => injection h with h; subst h; rfl
  | some _ => cases h
noncomputable def f_spec_faGood_0 : Nat → Int → Int → List (Int × Int) → List (Int × Int × Int) → Int → List (Int × Int × Int) → Int → Int → Option (LR (List (Int × Int × Int)) Bool)
  | 0, _, _, _, _, _, _, _, _ => none
  | k + 1, b1_0, b1_1, b1_2, v1, v5, v8, v9, v10 =>
    if decide (v10 < v9) = true then if 0 ≤ v10 then if v10 < (↑(List.length v8) : Int) then Option.bind (f_spec_l1In k (Prod.fst (Prod.snd (List.getD v8 (Int.toNat v10) (0, 0, 0)))) 0 (wrap64 (b1_0 - 1))) fun z0 => if (!z0) = true then some (LR.ret false) else Option.bind (f_spec_l1In k (Prod.snd (Prod.snd (List.getD v8 (Int.toNat v10) (0, 0, 0)))) 0 (wrap64 (b1_1 - 1))) fun z1 => if (!z1) = true then some (LR.ret false) else Option.bind (f_spec_boAt k (b1_0, b1_1, b1_2) (Prod.fst (Prod.snd (List.getD v8 (Int.toNat v10) (0, 0, 0)))) (Prod.snd (Prod.snd (List.getD v8 (Int.toNat v10) (0, 0, 0))))) fun z2 => Option.bind (f_spec_faFits k (Prod.fst z2, Prod.snd z2) (Prod.fst (List.getD v8 (Int.toNat v10) (0, 0, 0)))) fun z3 => if (!z3) = true then some (LR.ret false) else if decide (wrap64 (wrap64 (Prod.fst (Prod.snd (List.getD v8 (Int.toNat v10) (0, 0, 0))) * b1_1) + Prod.snd (Prod.snd (List.getD v8 (Int.toNat v10) (0, 0, 0)))) ≤ v5) = true then some (LR.ret false) else f_spec_faGood_0 k b1_0 b1_1 b1_2 v1 (wrap64 (wrap64 (Prod.fst (Prod.snd (List.getD v8 (Int.toNat v10) (0, 0, 0))) * b1_1) + Prod.snd (Prod.snd (List.getD v8 (Int.toNat v10) (0, 0, 0))))) v8 v9 (wrap64 (v10 + 1)) else none else none else some (LR.go v1)
noncomputable def f_spec_faGood_0i : Spec := { objs := [OSh.ro, OSh.box 32 [Sh.int IntKind.i64, Sh.int IntKind.i64, Sh.snap 0 (Ty.pair (Ty.int IntKind.i64) (Ty.int IntKind.i64))]], tmps := [(1, TSh.at (Sh.snap 0 (Ty.pair (Ty.int IntKind.i64) (Ty.pair (Ty.int IntKind.i64) (Ty.int IntKind.i64))))), (2, TSh.at (Sh.ptr 1 0)), (5, TSh.at (Sh.int IntKind.i64)), (8, TSh.at (Sh.snap 0 (Ty.pair (Ty.int IntKind.i64) (Ty.pair (Ty.int IntKind.i64) (Ty.int IntKind.i64))))), (9, TSh.at (Sh.int IntKind.i64)), (10, TSh.at (Sh.int IntKind.i64))] }
noncomputable def f_spec_faGood_0o : Spec := { objs := [OSh.ro], tmps := [(1, TSh.at (Sh.snap 0 (Ty.pair (Ty.int IntKind.i64) (Ty.pair (Ty.int IntKind.i64) (Ty.int IntKind.i64)))))] }
noncomputable def f_spec_faGood_0D : LoopDef (Tup r_spec_faGood × OutD) := .rets f_spec_faGood_0i f_spec_faGood_0o (List (Int × Int × Int)) (Bool) (fun k x => f_spec_faGood_0 k x.1.2.1.1 x.1.2.1.2.1 x.1.2.1.2.2.1 x.2.1 x.2.2.2.1 x.2.2.2.2.1 x.2.2.2.2.2.1 x.2.2.2.2.2.2.1) (fun z => (((), ()), (z, ()))) (fun y => (y.2.1)) (fun _ => rfl) to_spec_faGood of_spec_faGood to_of_spec_faGood
noncomputable def f_spec_faGood : Nat → Int × Int × List (Int × Int) → List (Int × Int × Int) → Option Bool
  | 0, _, _ => none
  | k + 1, p0, p1 =>
    Option.bind (f_spec_faGood_0 k (Prod.fst p0) (Prod.fst (Prod.snd p0)) (Prod.snd (Prod.snd p0)) p1 (-1) p1 (↑(List.length p1) : Int) 0) fun z4 => LR.on z4 (fun y4 => some (decide ((↑(List.length y4) : Int) ≤ 4))) fun r4 => some r4
noncomputable def d_spec_faGood : FnDef := .of q_spec_faGood r_spec_faGood (Bool) (fun k x => f_spec_faGood k x.1 x.2.1) to_spec_faGood of_spec_faGood to_of_spec_faGood
noncomputable def c_spec_faGood : Code := Try.f64.body.getD .skip
noncomputable def x_spec_faGood : Ctx (Tup r_spec_faGood × OutD) := { T := T, G := [(110, d_spec_l1In.E), (113, d_spec_boAt.E), (112, d_spec_faFits.E)], mvs := [], no := 0, n := 66, res := resOf T q_spec_faGood r_spec_faGood Try.f64.results.toList, loops := [(0, f_spec_faGood_0D.E)] }
theorem g_spec_faGood (k : Nat) : EnvOK Try.prog k x_spec_faGood.G := (EnvOK.cons (s_spec_l1In k) (EnvOK.cons (s_spec_boAt k) (EnvOK.cons (s_spec_faFits k) (EnvOK.nil mixed))))
noncomputable def f_spec_faGood_0B : Code := (findLoop 0 c_spec_faGood).getD .skip
theorem f_spec_faGood_0h (k : Nat) (x : f_spec_faGood_0i.D) : f_spec_faGood_0D.lp (k + 1) x = loopK x_spec_faGood f_spec_faGood_0D 0 f_spec_faGood_0B k x := by kernel_rfl
theorem f_spec_faGood_0l (k : Nat) : LOK Try.prog x_spec_faGood k f_spec_faGood_0B := LOK.by [] (by kernel_rfl) AllOK.nil
theorem f_spec_faGood_0z (x : f_spec_faGood_0i.D) : f_spec_faGood_0D.lp 0 x = none := by kernel_rfl
theorem f_spec_faGood_0ok (k : Nat) : EOK Try.prog x_spec_faGood k f_spec_faGood_0D.E (.block 0 (.loop f_spec_faGood_0B)) := loop_ok T_ok g_spec_faGood f_spec_faGood_0z f_spec_faGood_0h f_spec_faGood_0l k
theorem h_spec_faGood (k : Nat) (x : Tup d_spec_faGood.ps) : d_spec_faGood.f (k + 1) x = fnK d_spec_faGood x_spec_faGood c_spec_faGood k x := by kernel_rfl
theorem z_spec_faGood (x : Tup d_spec_faGood.ps) : d_spec_faGood.f 0 x = none := by kernel_rfl
theorem l_spec_faGood (k : Nat) : LOK Try.prog x_spec_faGood k c_spec_faGood := LOK.by [(f_spec_faGood_0D.E, .block 0 (.loop f_spec_faGood_0B))] (by kernel_rfl) (AllOK.cons (f_spec_faGood_0ok k) AllOK.nil)
theorem s_spec_faGood (k : Nat) : SoundAt Try.prog k 64 d_spec_faGood.E := @fn_all Try.prog d_spec_faGood x_spec_faGood 64 Try.f64 c_spec_faGood (by kernel_rfl) (by kernel_rfl) (by kernel_rfl) Try.func64 (by kernel_rfl) (by kernel_rfl) (by kernel_rfl) T_ok g_spec_faGood l_spec_faGood z_spec_faGood h_spec_faGood k
/-! function 67 -/
noncomputable def r_impl_IsBoard : List PK := [{ t := Ty.bool }]
noncomputable def q_impl_IsBoard : List PK := [{ t := Ty.pair (Ty.int IntKind.i64) (Ty.pair (Ty.int IntKind.i64) (Ty.slice 123 (Ty.pair (Ty.int IntKind.i64) (Ty.int IntKind.i64)))), agg := true }]
noncomputable def to_impl_IsBoard (r : Bool) : Tup r_impl_IsBoard × OutD := ((r, ()), none)
noncomputable def of_impl_IsBoard : Tup r_impl_IsBoard × OutD → Option (Bool)
  | (a, none) => some (a.1)
  | _ => none
theorem to_of_impl_IsBoard : ∀ b r, of_impl_IsBoard b = some r → to_impl_IsBoard r = b := by
  rintro ⟨a, o⟩ r h
  cases o with
  | none => injection h with h; subst h; rfl
  | some _ => cases h
noncomputable def f_impl_IsBoard : Nat → Int × Int × List (Int × Int) → Option Bool
  | 0, _ => none
  | k + 1, p0 =>
    if decide (Prod.fst p0 ≥ 1) = true then if decide (Prod.fst p0 ≤ 10) = true then if decide (Prod.fst (Prod.snd p0) ≥ 1) = true then if decide (Prod.fst (Prod.snd p0) ≤ 9) = true then if decide ((↑(List.length (Prod.snd (Prod.snd p0))) : Int) = wrap64 (Prod.fst p0 * Prod.fst (Prod.snd p0))) = true then Option.bind (f_impl_validCells k (Prod.snd (Prod.snd p0))) fun z0 => some z0 else some false else some false else some false else some false else some false
noncomputable def d_impl_IsBoard : FnDef := .of q_impl_IsBoard r_impl_IsBoard (Bool) (fun k x => f_impl_IsBoard k x.1) to_impl_IsBoard of_impl_IsBoard to_of_impl_IsBoard
noncomputable def c_impl_IsBoard : Code := Try.f67.body.getD .skip
noncomputable def x_impl_IsBoard : Ctx (Tup r_impl_IsBoard × OutD) := { T := T, G := [(115, d_impl_validCells.E)], mvs := [], no := 0, n := 37, res := resOf T q_impl_IsBoard r_impl_IsBoard Try.f67.results.toList, loops := [] }
theorem g_impl_IsBoard (k : Nat) : EnvOK Try.prog k x_impl_IsBoard.G := (EnvOK.cons (s_impl_validCells k) (EnvOK.nil mixed))
theorem h_impl_IsBoard (k : Nat) (x : Tup d_impl_IsBoard.ps) : d_impl_IsBoard.f (k + 1) x = fnK d_impl_IsBoard x_impl_IsBoard c_impl_IsBoard k x := by kernel_rfl
theorem z_impl_IsBoard (x : Tup d_impl_IsBoard.ps) : d_impl_IsBoard.f 0 x = none := by kernel_rfl
theorem l_impl_IsBoard (k : Nat) : LOK Try.prog x_impl_IsBoard k c_impl_IsBoard := LOK.by [] (by kernel_rfl) AllOK.nil
theorem s_impl_IsBoard (k : Nat) : SoundAt Try.prog k 67 d_impl_IsBoard.E := @fn_all Try.prog d_impl_IsBoard x_impl_IsBoard 67 Try.f67 c_impl_IsBoard (by kernel_rfl) (by kernel_rfl) (by kernel_rfl) Try.func67 (by kernel_rfl) (by kernel_rfl) (by kernel_rfl) T_ok g_impl_IsBoard l_impl_IsBoard z_impl_IsBoard h_impl_IsBoard k
/-! function 71 -/
noncomputable def r_spec_faPossible : List PK := [{ t := Ty.slice 87 (Ty.pair (Ty.int IntKind.i64) (Ty.pair (Ty.int IntKind.i64) (Ty.int IntKind.i64))) }]
noncomputable def q_spec_faPossible : List PK := [{ t := Ty.pair (Ty.int IntKind.i64) (Ty.pair (Ty.int IntKind.i64) (Ty.slice 123 (Ty.pair (Ty.int IntKind.i64) (Ty.int IntKind.i64)))), agg := true }]
noncomputable def to_spec_faPossible (r : List (Int × Int × Int)) : Tup r_spec_faPossible × OutD := ((r, ()), none)
noncomputable def of_spec_faPossible : Tup r_spec_faPossible × OutD → Option (List (Int × Int × Int))
  | (a, none) => some (a.1)
  | _ => none
theorem to_of_spec_faPossible : ∀ b r, of_spec_faPossible b = some r → to_spec_faPossible r = b := by
  rintro ⟨a, o⟩ r h
  cases o with
  | none => injection h with h; subst h; rfl
  | some _ => cases h
noncomputable def f_spec_faPossible_2 : Nat → Int → Int → List (Int × Int) → List (Int × Int × Int) → Int → Int → Int → Int → List (Int × Int) → Int → Int → Option (Int × Int × List (Int × Int) × List (Int × Int × Int) × List (Int × Int) × Int × Int)
  | 0, _, _, _, _, _, _, _, _, _, _, _ => none
  | k + 1, b1_0, b1_1, b1_2, o2, b3_0, b3_1, v4, v6, v8, v9, v10 =>
    if decide (v6 ≤ 3) = true then Option.bind (f_spec_faFits k (b3_0, b3_1) v6) fun z0 => if z0 = true then if b1_1 = 0 then none else if b1_1 = 0 then none else if List.length o2 + List.length [(v6, wrap64 (Int.tdiv v4 b1_1), Int.tmod v4 b1_1)] ≤ 140737488355328 / 24 then f_spec_faPossible_2 k b1_0 b1_1 b1_2 (o2 ++ [(v6, wrap64 (Int.tdiv v4 b1_1), Int.tmod v4 b1_1)]) b3_0 b3_1 v4 (wrap64 (v6 + 1)) v8 v9 v10 else none else f_spec_faPossible_2 k b1_0 b1_1 b1_2 o2 b3_0 b3_1 v4 (wrap64 (v6 + 1)) v8 v9 v10 else some (b1_0, b1_1, b1_2, o2, v8, v9, v10)
noncomputable def f_spec_faPossible_2i : Spec := { objs := [OSh.ro, OSh.box 32 [Sh.int IntKind.i64, Sh.int IntKind.i64, Sh.snap 0 (Ty.pair (Ty.int IntKind.i64) (Ty.int IntKind.i64))], OSh.row true 87 (Ty.pair (Ty.int IntKind.i64) (Ty.pair (Ty.int IntKind.i64) (Ty.int IntKind.i64))), OSh.box 123 [Sh.int IntKind.i64, Sh.int IntKind.i64]], tmps := [(1, TSh.at (Sh.ptr 1 0)), (3, TSh.at (Sh.sl 2)), (4, TSh.at (Sh.int IntKind.i64)), (5, TSh.at (Sh.ptr 3 0)), (6, TSh.at (Sh.int IntKind.i64)), (8, TSh.at (Sh.snap 0 (Ty.pair (Ty.int IntKind.i64) (Ty.int IntKind.i64)))), (9, TSh.at (Sh.int IntKind.i64)), (10, TSh.at (Sh.int IntKind.i64))] }
noncomputable def f_spec_faPossible_2o : Spec := { objs := [OSh.ro, OSh.box 32 [Sh.int IntKind.i64, Sh.int IntKind.i64, Sh.snap 0 (Ty.pair (Ty.int IntKind.i64) (Ty.int IntKind.i64))], OSh.row true 87 (Ty.pair (Ty.int IntKind.i64) (Ty.pair (Ty.int IntKind.i64) (Ty.int IntKind.i64)))], tmps := [(1, TSh.at (Sh.ptr 1 0)), (3, TSh.at (Sh.sl 2)), (8, TSh.at (Sh.snap 0 (Ty.pair (Ty.int IntKind.i64) (Ty.int IntKind.i64)))), (9, TSh.at (Sh.int IntKind.i64)), (10, TSh.at (Sh.int IntKind.i64))] }
noncomputable def f_spec_faPossible_2D : LoopDef (Tup r_spec_faPossible × OutD) := .plain f_spec_faPossible_2i f_spec_faPossible_2o (Int × Int × List (Int × Int) × List (Int × Int × Int) × List (Int × Int) × Int × Int) (fun k x => f_spec_faPossible_2 k x.1.2.1.1 x.1.2.1.2.1 x.1.2.1.2.2.1 x.1.2.2.1 x.1.2.2.2.1.1 x.1.2.2.2.1.2.1 x.2.2.2.1 x.2.2.2.2.2.1 x.2.2.2.2.2.2.1 x.2.2.2.2.2.2.2.1 x.2.2.2.2.2.2.2.2.1) (fun z => (((), (z.1, z.2.1, z.2.2.1, ()), z.2.2.2.1, ()), ((), (), z.2.2.2.2.1, z.2.2.2.2.2.1, z.2.2.2.2.2.2, ()))) (fun y => (y.1.2.1.1, y.1.2.1.2.1, y.1.2.1.2.2.1, y.1.2.2.1, y.2.2.2.1, y.2.2.2.2.1, y.2.2.2.2.2.1)) (fun _ => rfl)
noncomputable def f_spec_faPossible_0 : Nat → Int → Int → List (Int × Int) → List (Int × Int × Int) → List (Int × Int) → Int → Int → Option (List (Int × Int × Int))
  | 0, _, _, _, _, _, _, _ => none
  | k + 1, b1_0, b1_1, b1_2, o2, v8, v9, v10 =>
    if decide (v10 < v9) = true then if 0 ≤ v10 then if v10 < (↑(List.length v8) : Int) then Option.bind (f_spec_faPossible_2 k b1_0 b1_1 b1_2 o2 (Prod.fst (List.getD v8 (Int.toNat v10) (0, 0))) (Prod.snd (List.getD v8 (Int.toNat v10) (0, 0))) v10 1 v8 v9 v10) fun z1 => f_spec_faPossible_0 k (Prod.fst z1) (Prod.fst (Prod.snd z1)) (Prod.fst (Prod.snd (Prod.snd z1))) (Prod.fst (Prod.snd (Prod.snd (Prod.snd z1)))) (Prod.fst (Prod.snd (Prod.snd (Prod.snd (Prod.snd z1))))) (Prod.fst (Prod.snd (Prod.snd (Prod.snd (Prod.snd (Prod.snd z1)))))) (wrap64 (Prod.snd (Prod.snd (Prod.snd (Prod.snd (Prod.snd (Prod.snd z1))))) + 1)) else none else none else some o2
noncomputable def f_spec_faPossible_0i : Spec := { objs := [OSh.ro, OSh.box 32 [Sh.int IntKind.i64, Sh.int IntKind.i64, Sh.snap 0 (Ty.pair (Ty.int IntKind.i64) (Ty.int IntKind.i64))], OSh.row true 87 (Ty.pair (Ty.int IntKind.i64) (Ty.pair (Ty.int IntKind.i64) (Ty.int IntKind.i64)))], tmps := [(1, TSh.at (Sh.ptr 1 0)), (3, TSh.at (Sh.sl 2)), (8, TSh.at (Sh.snap 0 (Ty.pair (Ty.int IntKind.i64) (Ty.int IntKind.i64)))), (9, TSh.at (Sh.int IntKind.i64)), (10, TSh.at (Sh.int IntKind.i64))] }
noncomputable def f_spec_faPossible_0o : Spec := { objs := [OSh.ro, OSh.row true 87 (Ty.pair (Ty.int IntKind.i64) (Ty.pair (Ty.int IntKind.i64) (Ty.int IntKind.i64)))], tmps := [(3, TSh.at (Sh.sl 1))] }
noncomputable def f_spec_faPossible_0D : LoopDef (Tup r_spec_faPossible × OutD) := .plain f_spec_faPossible_0i f_spec_faPossible_0o (List (Int × Int × Int)) (fun k x => f_spec_faPossible_0 k x.1.2.1.1 x.1.2.1.2.1 x.1.2.1.2.2.1 x.1.2.2.1 x.2.2.2.1 x.2.2.2.2.1 x.2.2.2.2.2.1) (fun z => (((), z, ()), ((), ()))) (fun y => (y.1.2.1)) (fun _ => rfl)
noncomputable def f_spec_faPossible : Nat → Int × Int × List (Int × Int) → Option (List (Int × Int × Int))
  | 0, _ => none
  | k + 1, p0 =>
    Option.bind (f_spec_faPossible_0 k (Prod.fst p0) (Prod.fst (Prod.snd p0)) (Prod.snd (Prod.snd p0)) [] (Prod.snd (Prod.snd p0)) (↑(List.length (Prod.snd (Prod.snd p0))) : Int) 0) fun z2 => some z2
noncomputable def d_spec_faPossible : FnDef := .of q_spec_faPossible r_spec_faPossible (List (Int × Int × Int)) (fun k x => f_spec_faPossible k x.1) to_spec_faPossible of_spec_faPossible to_of_spec_faPossible
noncomputable def c_spec_faPossible : Code := Try.f71.body.getD .skip
noncomputable def x_spec_faPossible : Ctx (Tup r_spec_faPossible × OutD) := { T := T, G := [(112, d_spec_faFits.E)], mvs := [], no := 0, n := 37, res := resOf T q_spec_faPossible r_spec_faPossible Try.f71.results.toList, loops := [(2, f_spec_faPossible_2D.E), (0, f_spec_faPossible_0D.E)] }
theorem g_spec_faPossible (k : Nat) : EnvOK Try.prog k x_spec_faPossible.G := (EnvOK.cons (s_spec_faFits k) (EnvOK.nil mixed))
noncomputable def f_spec_faPossible_2B : Code := (findLoop 2 c_spec_faPossible).getD .skip
theorem f_spec_faPossible_2h (k : Nat) (x : f_spec_faPossible_2i.D) : f_spec_faPossible_2D.lp (k + 1) x = loopK x_spec_faPossible f_spec_faPossible_2D 2 f_spec_faPossible_2B k x := by kernel_rfl
theorem f_spec_faPossible_2l (k : Nat) : LOK Try.prog x_spec_faPossible k f_spec_faPossible_2B := LOK.by [] (by kernel_rfl) AllOK.nil
theorem f_spec_faPossible_2z (x : f_spec_faPossible_2i.D) : f_spec_faPossible_2D.lp 0 x = none := by kernel_rfl
theorem f_spec_faPossible_2ok (k : Nat) : EOK Try.prog x_spec_faPossible k f_spec_faPossible_2D.E (.block 2 (.loop f_spec_faPossible_2B)) := loop_ok T_ok g_spec_faPossible f_spec_faPossible_2z f_spec_faPossible_2h f_spec_faPossible_2l k
noncomputable def f_spec_faPossible_0B : Code := (findLoop 0 c_spec_faPossible).getD .skip
theorem f_spec_faPossible_0h (k : Nat) (x : f_spec_faPossible_0i.D) : f_spec_faPossible_0D.lp (k + 1) x = loopK x_spec_faPossible f_spec_faPossible_0D 0 f_spec_faPossible_0B k x := by kernel_rfl
theorem f_spec_faPossible_0l (k : Nat) : LOK Try.prog x_spec_faPossible k f_spec_faPossible_0B := LOK.by [(f_spec_faPossible_2D.E, .block 2 (.loop f_spec_faPossible_2B))] (by kernel_rfl) (AllOK.cons (f_spec_faPossible_2ok k) AllOK.nil)
theorem f_spec_faPossible_0z (x : f_spec_faPossible_0i.D) : f_spec_faPossible_0D.lp 0 x = none := by kernel_rfl
theorem f_spec_faPossible_0ok (k : Nat) : EOK Try.prog x_spec_faPossible k f_spec_faPossible_0D.E (.block 0 (.loop f_spec_faPossible_0B)) := loop_ok T_ok g_spec_faPossible f_spec_faPossible_0z f_spec_faPossible_0h f_spec_faPossible_0l k
theorem h_spec_faPossible (k : Nat) (x : Tup d_spec_faPossible.ps) : d_spec_faPossible.f (k + 1) x = fnK d_spec_faPossible x_spec_faPossible c_spec_faPossible k x := by kernel_rfl
theorem z_spec_faPossible (x : Tup d_spec_faPossible.ps) : d_spec_faPossible.f 0 x = none := by kernel_rfl
theorem l_spec_faPossible (k : Nat) : LOK Try.prog x_spec_faPossible k c_spec_faPossible := LOK.by [(f_spec_faPossible_0D.E, .block 0 (.loop f_spec_faPossible_0B))] (by kernel_rfl) (AllOK.cons (f_spec_faPossible_0ok k) AllOK.nil)
theorem s_spec_faPossible (k : Nat) : SoundAt Try.prog k 71 d_spec_faPossible.E := @fn_all Try.prog d_spec_faPossible x_spec_faPossible 71 Try.f71 c_spec_faPossible (by kernel_rfl) (by kernel_rfl) (by kernel_rfl) Try.func71 (by kernel_rfl) (by kernel_rfl) (by kernel_rfl) T_ok g_spec_faPossible l_spec_faPossible z_spec_faPossible h_spec_faPossible k
/-! function 117 -/
noncomputable def r_impl_canHave : List PK := [{ t := Ty.bool }]
noncomputable def q_impl_canHave : List PK := [{ t := Ty.pair (Ty.int IntKind.i64) (Ty.int IntKind.i64), agg := true }, { t := Ty.int IntKind.i64 }]
noncomputable def to_impl_canHave (r : Bool) : Tup r_impl_canHave × OutD := ((r, ()), none)
noncomputable def of_impl_canHave : Tup r_impl_canHave × OutD → Option (Bool)
  | (a, none) => some (a.1)
  | _ => none
theorem to_of_impl_canHave : ∀ b r, of_impl_canHave b = some r → to_impl_canHave r = b := by
  rintro ⟨a, o⟩ r h
  cases o with
  | none => injection h with h; subst h; rfl
  | some _ => cases h
noncomputable def f_impl_canHave : Nat → Int × Int → Int → Option Bool
  | 0, _, _ => none
  | k + 1, p0, p1 =>
    if decide (p1 = 1) = true then Option.bind (f_impl_IsTurning k (Prod.fst p0, Prod.snd p0)) fun z0 => some z0 else if decide (p1 = 2) = true then some true else if decide (p1 = 3) = true then Option.bind (f_impl_IsTurning k (Prod.fst p0, Prod.snd p0)) fun z1 => if z1 = true then some true else if decide (Prod.fst p0 = 1) = true then some true else some (decide (Prod.fst p0 = 2)) else some false
noncomputable def d_impl_canHave : FnDef := .of q_impl_canHave r_impl_canHave (Bool) (fun k x => f_impl_canHave k x.1 x.2.1) to_impl_canHave of_impl_canHave to_of_impl_canHave
noncomputable def c_impl_canHave : Code := Try.f117.body.getD .skip
noncomputable def x_impl_canHave : Ctx (Tup r_impl_canHave × OutD) := { T := T, G := [(123, d_impl_IsTurning.E)], mvs := [], no := 0, n := 26, res := resOf T q_impl_canHave r_impl_canHave Try.f117.results.toList, loops := [] }
theorem g_impl_canHave (k : Nat) : EnvOK Try.prog k x_impl_canHave.G := (EnvOK.cons (s_impl_IsTurning k) (EnvOK.nil mixed))
theorem h_impl_canHave (k : Nat) (x : Tup d_impl_canHave.ps) : d_impl_canHave.f (k + 1) x = fnK d_impl_canHave x_impl_canHave c_impl_canHave k x := by kernel_rfl
theorem z_impl_canHave (x : Tup d_impl_canHave.ps) : d_impl_canHave.f 0 x = none := by kernel_rfl
theorem l_impl_canHave (k : Nat) : LOK Try.prog x_impl_canHave k c_impl_canHave := LOK.by [] (by kernel_rfl) AllOK.nil
theorem s_impl_canHave (k : Nat) : SoundAt Try.prog k 117 d_impl_canHave.E := @fn_all Try.prog d_impl_canHave x_impl_canHave 117 Try.f117 c_impl_canHave (by kernel_rfl) (by kernel_rfl) (by kernel_rfl) Try.func117 (by kernel_rfl) (by kernel_rfl) (by kernel_rfl) T_ok g_impl_canHave l_impl_canHave z_impl_canHave h_impl_canHave k
end
end Go.Proofs.Ytkefbmaagdaodaa.Vs
