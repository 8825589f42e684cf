/- Functions of the program by plain functions, each with its contract. -/
import Derived.Test.YtcmndffpmjinlaaVsT
import Derived.Test.YtcmndffpmjinlaaVf0
import Derived.Test.YtcmndffpmjinlaaVf1
set_option maxRecDepth 100000
set_option linter.unusedVariables false
set_option linter.unusedSimpArgs false
namespace Go.Proofs.Ytcmndffpmjinlaa.Vs
open Go.RowKit
noncomputable section
/-! function 33 -/
noncomputable def r_laws_toShop : List PK := [{ t := Ty.pair (Ty.slice 3 (Ty.int IntKind.i64)) (Ty.slice 81 (Ty.pair (Ty.int IntKind.i64) (Ty.pair (Ty.int IntKind.i64) (Ty.pair (Ty.int IntKind.i64) (Ty.int IntKind.i64))))), agg := true }]
noncomputable def q_laws_toShop : List PK := [{ t := Ty.pair (Ty.slice 3 (Ty.int IntKind.i64)) (Ty.slice 95 (Ty.pair (Ty.int IntKind.i64) (Ty.pair (Ty.int IntKind.i64) (Ty.pair (Ty.int IntKind.i64) (Ty.int IntKind.i64))))), agg := true }]
noncomputable def to_laws_toShop (r : List Int × List (Int × Int × Int × Int)) : Tup r_laws_toShop × OutD := ((r, ()), none)
noncomputable def of_laws_toShop : Tup r_laws_toShop × OutD → Option (List Int × List (Int × Int × Int × Int))
  | (a, none) => some (a.1)
  | _ => none
theorem to_of_laws_toShop : ∀ b r, of_laws_toShop b = some r → to_laws_toShop r = b := by
  rintro ⟨a, o⟩ r h
  cases o with
  | none => injection h with h; subst h; rfl
  | some _ => cases h
noncomputable def f_laws_toShop : Nat → List Int × List (Int × Int × Int × Int) → Option (List Int × List (Int × Int × Int × Int))
  | 0, _ => none
  | k + 1, p0 =>
    Option.bind (f_laws_toIntS k (Prod.fst p0)) fun z0 => Option.bind (f_laws_toLoanS k (Prod.snd p0)) fun z1 => some (z0, z1)
noncomputable def d_laws_toShop : FnDef := .of q_laws_toShop r_laws_toShop (List Int × List (Int × Int × Int × Int)) (fun k x => f_laws_toShop k x.1) to_laws_toShop of_laws_toShop to_of_laws_toShop
noncomputable def c_laws_toShop : Code := Try.f33.body.getD .skip
noncomputable def x_laws_toShop : Ctx (Tup r_laws_toShop × OutD) := { T := T, G := [(18, d_laws_toIntS.E), (69, d_laws_toLoanS.E)], mvs := [], no := 0, n := 13, res := resOf T q_laws_toShop r_laws_toShop Try.f33.results.toList, loops := [], regs := [] }
theorem g_laws_toShop (k : Nat) : EnvOK Try.prog k x_laws_toShop.G := (EnvOK.cons (s_laws_toIntS k) (EnvOK.cons (s_laws_toLoanS k) (EnvOK.nil mixed)))
theorem h_laws_toShop (k : Nat) (x : Tup d_laws_toShop.ps) : d_laws_toShop.f (k + 1) x = fnK d_laws_toShop x_laws_toShop c_laws_toShop k x := by kernel_rfl
theorem z_laws_toShop (x : Tup d_laws_toShop.ps) : d_laws_toShop.f 0 x = none := by kernel_rfl
theorem l_laws_toShop (k : Nat) : LOK Try.prog x_laws_toShop k c_laws_toShop := LOK.by [] (by kernel_rfl) AllOK.nil
theorem s_laws_toShop (k : Nat) : SoundAt Try.prog k 33 d_laws_toShop.E := @fn_all Try.prog d_laws_toShop x_laws_toShop 33 Try.f33 c_laws_toShop (by kernel_rfl) (by kernel_rfl) (by kernel_rfl) Try.func33 (by kernel_rfl) (by kernel_rfl) (by kernel_rfl) T_ok g_laws_toShop l_laws_toShop z_laws_toShop h_laws_toShop k
/-! function 34 -/
noncomputable def r_impl_IsShop : List PK := [{ t := Ty.bool }]
noncomputable def q_impl_IsShop : List PK := [{ t := Ty.pair (Ty.slice 3 (Ty.int IntKind.i64)) (Ty.slice 81 (Ty.pair (Ty.int IntKind.i64) (Ty.pair (Ty.int IntKind.i64) (Ty.pair (Ty.int IntKind.i64) (Ty.int IntKind.i64))))), agg := true }]
noncomputable def to_impl_IsShop (r : Bool) : Tup r_impl_IsShop × OutD := ((r, ()), none)
noncomputable def of_impl_IsShop : Tup r_impl_IsShop × OutD → Option (Bool)
  | (a, none) => some (a.1)
  | _ => none
theorem to_of_impl_IsShop : ∀ b r, of_impl_IsShop b = some r → to_impl_IsShop r = b := by
  rintro ⟨a, o⟩ r h
  cases o with
  | none => injection h with h; subst h; rfl
  | some _ => cases h
noncomputable def f_impl_IsShop_0 : Nat → List Int → List (Int × Int × Int × Int) → List Int → Int → Int → Option (LR (List Int × List (Int × Int × Int × Int)) Bool)
  | 0, _, _, _, _, _ => none
  | k + 1, b1_0, b1_1, v25, v26, v27 =>
    if decide (v27 < v26) = true then if 0 ≤ v27 then if v27 < (↑(List.length v25) : Int) then if decide (List.getD v25 (Int.toNat v27) 0 < 0) = true then some (LR.ret false) else if decide (List.getD v25 (Int.toNat v27) 0 > 999) = true then some (LR.ret false) else f_impl_IsShop_0 k b1_0 b1_1 v25 v26 (wrap64 (v27 + 1)) else none else none else some (LR.go (b1_0, b1_1))
noncomputable def f_impl_IsShop_0i : Spec := { objs := [OSh.ro, OSh.box 46 [Sh.snap 0 (Ty.int IntKind.i64), Sh.snap 0 (Ty.pair (Ty.int IntKind.i64) (Ty.pair (Ty.int IntKind.i64) (Ty.pair (Ty.int IntKind.i64) (Ty.int IntKind.i64))))]], tmps := [(1, TSh.at (Sh.ptr 1 0)), (25, TSh.at (Sh.snap 0 (Ty.int IntKind.i64))), (26, TSh.at (Sh.int IntKind.i64)), (27, TSh.at (Sh.int IntKind.i64))] }
noncomputable def f_impl_IsShop_0o : Spec := { objs := [OSh.ro, OSh.box 46 [Sh.snap 0 (Ty.int IntKind.i64), Sh.snap 0 (Ty.pair (Ty.int IntKind.i64) (Ty.pair (Ty.int IntKind.i64) (Ty.pair (Ty.int IntKind.i64) (Ty.int IntKind.i64))))]], tmps := [(1, TSh.at (Sh.ptr 1 0))] }
noncomputable def f_impl_IsShop_0D : LoopDef (Tup r_impl_IsShop × OutD) := .rets f_impl_IsShop_0i f_impl_IsShop_0o (List Int × List (Int × Int × Int × Int)) (Bool) (fun k x => f_impl_IsShop_0 k x.1.2.1.1 x.1.2.1.2.1 x.2.2.1 x.2.2.2.1 x.2.2.2.2.1) (fun z => (((), (z.1, z.2, ()), ()), ((), ()))) (fun y => (y.1.2.1.1, y.1.2.1.2.1)) (fun _ => rfl) to_impl_IsShop of_impl_IsShop to_of_impl_IsShop
noncomputable def f_impl_IsShop_2 : Nat → List Int → List (Int × Int × Int × Int) → List (Int × Int × Int × Int) → Int → Int → Option (LR Unit Bool)
  | 0, _, _, _, _, _ => none
  | k + 1, b1_0, b1_1, v39, v40, v41 =>
    if decide (v41 < v40) = true then if 0 ≤ v41 then if v41 < (↑(List.length v39) : Int) then Option.bind (f_impl_isLoan k (Prod.fst (List.getD v39 (Int.toNat v41) (0, 0, 0, 0)), Prod.fst (Prod.snd (List.getD v39 (Int.toNat v41) (0, 0, 0, 0))), Prod.fst (Prod.snd (Prod.snd (List.getD v39 (Int.toNat v41) (0, 0, 0, 0)))), Prod.snd (Prod.snd (Prod.snd (List.getD v39 (Int.toNat v41) (0, 0, 0, 0)))))) fun z1 => if (!z1) = true then some (LR.ret false) else if 0 ≤ v41 then if v41 ≤ (↑(List.length b1_1) : Int) then Option.bind (f_impl_sameLoan k (List.take (Int.toNat v41 - Int.toNat 0) (List.drop (Int.toNat 0) b1_1)) (Prod.fst (List.getD v39 (Int.toNat v41) (0, 0, 0, 0)), Prod.fst (Prod.snd (List.getD v39 (Int.toNat v41) (0, 0, 0, 0))), Prod.fst (Prod.snd (Prod.snd (List.getD v39 (Int.toNat v41) (0, 0, 0, 0)))), Prod.snd (Prod.snd (Prod.snd (List.getD v39 (Int.toNat v41) (0, 0, 0, 0)))))) fun z2 => if decide (z2 ≥ 0) = true then some (LR.ret false) else f_impl_IsShop_2 k b1_0 b1_1 v39 v40 (wrap64 (v41 + 1)) else none else none else none else none else some (LR.go ())
noncomputable def f_impl_IsShop_2i : Spec := { objs := [OSh.ro, OSh.box 46 [Sh.snap 0 (Ty.int IntKind.i64), Sh.snap 0 (Ty.pair (Ty.int IntKind.i64) (Ty.pair (Ty.int IntKind.i64) (Ty.pair (Ty.int IntKind.i64) (Ty.int IntKind.i64))))]], tmps := [(1, TSh.at (Sh.ptr 1 0)), (39, TSh.at (Sh.snap 0 (Ty.pair (Ty.int IntKind.i64) (Ty.pair (Ty.int IntKind.i64) (Ty.pair (Ty.int IntKind.i64) (Ty.int IntKind.i64)))))), (40, TSh.at (Sh.int IntKind.i64)), (41, TSh.at (Sh.int IntKind.i64))] }
noncomputable def f_impl_IsShop_2o : Spec := { objs := [OSh.ro], tmps := [] }
noncomputable def f_impl_IsShop_2D : LoopDef (Tup r_impl_IsShop × OutD) := .rets f_impl_IsShop_2i f_impl_IsShop_2o (Unit) (Bool) (fun k x => f_impl_IsShop_2 k x.1.2.1.1 x.1.2.1.2.1 x.2.2.1 x.2.2.2.1 x.2.2.2.2.1) (fun z => (((), ()), (()))) (fun y => ()) (fun _ => rfl) to_impl_IsShop of_impl_IsShop to_of_impl_IsShop
noncomputable def f_impl_IsShop : Nat → List Int × List (Int × Int × Int × Int) → Option Bool
  | 0, _ => none
  | k + 1, p0 =>
    if decide ((↑(List.length (Prod.fst p0)) : Int) ≠ 8) = true then some false else if 0 < (↑(List.length (Prod.fst p0)) : Int) then if decide (List.getD (Prod.fst p0) (Int.toNat 0) 0 ≠ 0) = true then some false else if decide ((↑(List.length (Prod.snd p0)) : Int) > 20) = true then some false else Option.bind (f_impl_IsShop_0 k (Prod.fst p0) (Prod.snd p0) (Prod.fst p0) (↑(List.length (Prod.fst p0)) : Int) 0) fun z0 => LR.on z0 (fun y0 => Option.bind (f_impl_IsShop_2 k (Prod.fst y0) (Prod.snd y0) (Prod.snd y0) (↑(List.length (Prod.snd y0)) : Int) 0) fun z3 => LR.on z3 (fun y3 => some true) fun r3 => some r3) fun r0 => some r0 else none
noncomputable def d_impl_IsShop : FnDef := .of q_impl_IsShop r_impl_IsShop (Bool) (fun k x => f_impl_IsShop k x.1) to_impl_IsShop of_impl_IsShop to_of_impl_IsShop
noncomputable def c_impl_IsShop : Code := Try.f34.body.getD .skip
noncomputable def x_impl_IsShop : Ctx (Tup r_impl_IsShop × OutD) := { T := T, G := [(70, d_impl_isLoan.E), (71, d_impl_sameLoan.E)], mvs := [], no := 0, n := 59, res := resOf T q_impl_IsShop r_impl_IsShop Try.f34.results.toList, loops := [(0, f_impl_IsShop_0D.E), (2, f_impl_IsShop_2D.E)], regs := [] }
theorem g_impl_IsShop (k : Nat) : EnvOK Try.prog k x_impl_IsShop.G := (EnvOK.cons (s_impl_isLoan k) (EnvOK.cons (s_impl_sameLoan k) (EnvOK.nil mixed)))
noncomputable def f_impl_IsShop_0B : Code := (findLoop 0 c_impl_IsShop).getD .skip
theorem f_impl_IsShop_0h (k : Nat) (x : f_impl_IsShop_0i.D) : f_impl_IsShop_0D.lp (k + 1) x = loopK x_impl_IsShop f_impl_IsShop_0D 0 f_impl_IsShop_0B k x := by kernel_rfl
theorem f_impl_IsShop_0l (k : Nat) : LOK Try.prog x_impl_IsShop k f_impl_IsShop_0B := LOK.by [] (by kernel_rfl) AllOK.nil
theorem f_impl_IsShop_0z (x : f_impl_IsShop_0i.D) : f_impl_IsShop_0D.lp 0 x = none := by kernel_rfl
theorem f_impl_IsShop_0ok (k : Nat) : EOK Try.prog x_impl_IsShop k f_impl_IsShop_0D.E (.block 0 (.loop f_impl_IsShop_0B)) := loop_ok T_ok g_impl_IsShop f_impl_IsShop_0z f_impl_IsShop_0h f_impl_IsShop_0l k
noncomputable def f_impl_IsShop_2B : Code := (findLoop 2 c_impl_IsShop).getD .skip
theorem f_impl_IsShop_2h (k : Nat) (x : f_impl_IsShop_2i.D) : f_impl_IsShop_2D.lp (k + 1) x = loopK x_impl_IsShop f_impl_IsShop_2D 2 f_impl_IsShop_2B k x := by kernel_rfl
theorem f_impl_IsShop_2l (k : Nat) : LOK Try.prog x_impl_IsShop k f_impl_IsShop_2B := LOK.by [] (by kernel_rfl) AllOK.nil
theorem f_impl_IsShop_2z (x : f_impl_IsShop_2i.D) : f_impl_IsShop_2D.lp 0 x = none := by kernel_rfl
theorem f_impl_IsShop_2ok (k : Nat) : EOK Try.prog x_impl_IsShop k f_impl_IsShop_2D.E (.block 2 (.loop f_impl_IsShop_2B)) := loop_ok T_ok g_impl_IsShop f_impl_IsShop_2z f_impl_IsShop_2h f_impl_IsShop_2l k
theorem h_impl_IsShop (k : Nat) (x : Tup d_impl_IsShop.ps) : d_impl_IsShop.f (k + 1) x = fnK d_impl_IsShop x_impl_IsShop c_impl_IsShop k x := by kernel_rfl
theorem z_impl_IsShop (x : Tup d_impl_IsShop.ps) : d_impl_IsShop.f 0 x = none := by kernel_rfl
theorem l_impl_IsShop (k : Nat) : LOK Try.prog x_impl_IsShop k c_impl_IsShop := LOK.by [(f_impl_IsShop_0D.E, .block 0 (.loop f_impl_IsShop_0B)), (f_impl_IsShop_2D.E, .block 2 (.loop f_impl_IsShop_2B))] (by kernel_rfl) (AllOK.cons (f_impl_IsShop_0ok k) (AllOK.cons (f_impl_IsShop_2ok k) AllOK.nil))
theorem s_impl_IsShop (k : Nat) : SoundAt Try.prog k 34 d_impl_IsShop.E := @fn_all Try.prog d_impl_IsShop x_impl_IsShop 34 Try.f34 c_impl_IsShop (by kernel_rfl) (by kernel_rfl) (by kernel_rfl) Try.func34 (by kernel_rfl) (by kernel_rfl) (by kernel_rfl) T_ok g_impl_IsShop l_impl_IsShop z_impl_IsShop h_impl_IsShop k
/-! function 35 -/
noncomputable def r_laws_eqShop : List PK := [{ t := Ty.bool }]
noncomputable def q_laws_eqShop : List PK := [{ t := Ty.pair (Ty.slice 3 (Ty.int IntKind.i64)) (Ty.slice 81 (Ty.pair (Ty.int IntKind.i64) (Ty.pair (Ty.int IntKind.i64) (Ty.pair (Ty.int IntKind.i64) (Ty.int IntKind.i64))))), agg := true }, { t := Ty.pair (Ty.slice 3 (Ty.int IntKind.i64)) (Ty.slice 81 (Ty.pair (Ty.int IntKind.i64) (Ty.pair (Ty.int IntKind.i64) (Ty.pair (Ty.int IntKind.i64) (Ty.int IntKind.i64))))), agg := true }]
noncomputable def to_laws_eqShop (r : Bool) : Tup r_laws_eqShop × OutD := ((r, ()), none)
noncomputable def of_laws_eqShop : Tup r_laws_eqShop × OutD → Option (Bool)
  | (a, none) => some (a.1)
  | _ => none
theorem to_of_laws_eqShop : ∀ b r, of_laws_eqShop b = some r → to_laws_eqShop r = b := by
  rintro ⟨a, o⟩ r h
  cases o with
  | none => injection h with h; subst h; rfl
  | some _ => cases h
noncomputable def f_laws_eqShop : Nat → List Int × List (Int × Int × Int × Int) → List Int × List (Int × Int × Int × Int) → Option Bool
  | 0, _, _ => none
  | k + 1, p0, p1 =>
    Option.bind (f_laws_eqIntS k (Prod.fst p0) (Prod.fst p1)) fun z0 => if (!z0) = true then some false else Option.bind (f_laws_eqLoanS k (Prod.snd p0) (Prod.snd p1)) fun z1 => if (!z1) = true then some false else some true
noncomputable def d_laws_eqShop : FnDef := .of q_laws_eqShop r_laws_eqShop (Bool) (fun k x => f_laws_eqShop k x.1 x.2.1) to_laws_eqShop of_laws_eqShop to_of_laws_eqShop
noncomputable def c_laws_eqShop : Code := Try.f35.body.getD .skip
noncomputable def x_laws_eqShop : Ctx (Tup r_laws_eqShop × OutD) := { T := T, G := [(20, d_laws_eqIntS.E), (72, d_laws_eqLoanS.E)], mvs := [], no := 0, n := 17, res := resOf T q_laws_eqShop r_laws_eqShop Try.f35.results.toList, loops := [], regs := [] }
theorem g_laws_eqShop (k : Nat) : EnvOK Try.prog k x_laws_eqShop.G := (EnvOK.cons (s_laws_eqIntS k) (EnvOK.cons (s_laws_eqLoanS k) (EnvOK.nil mixed)))
theorem h_laws_eqShop (k : Nat) (x : Tup d_laws_eqShop.ps) : d_laws_eqShop.f (k + 1) x = fnK d_laws_eqShop x_laws_eqShop c_laws_eqShop k x := by kernel_rfl
theorem z_laws_eqShop (x : Tup d_laws_eqShop.ps) : d_laws_eqShop.f 0 x = none := by kernel_rfl
theorem l_laws_eqShop (k : Nat) : LOK Try.prog x_laws_eqShop k c_laws_eqShop := LOK.by [] (by kernel_rfl) AllOK.nil
theorem s_laws_eqShop (k : Nat) : SoundAt Try.prog k 35 d_laws_eqShop.E := @fn_all Try.prog d_laws_eqShop x_laws_eqShop 35 Try.f35 c_laws_eqShop (by kernel_rfl) (by kernel_rfl) (by kernel_rfl) Try.func35 (by kernel_rfl) (by kernel_rfl) (by kernel_rfl) T_ok g_laws_eqShop l_laws_eqShop z_laws_eqShop h_laws_eqShop k
/-! function 68 -/
noncomputable def r_spec_psGood : List PK := [{ t := Ty.bool }]
noncomputable def q_spec_psGood : List PK := [{ t := Ty.pair (Ty.slice 3 (Ty.int IntKind.i64)) (Ty.slice 81 (Ty.pair (Ty.int IntKind.i64) (Ty.pair (Ty.int IntKind.i64) (Ty.pair (Ty.int IntKind.i64) (Ty.int IntKind.i64))))), agg := true }]
noncomputable def to_spec_psGood (r : Bool) : Tup r_spec_psGood × OutD := ((r, ()), none)
noncomputable def of_spec_psGood : Tup r_spec_psGood × OutD → Option (Bool)
  | (a, none) => some (a.1)
  | _ => none
theorem to_of_spec_psGood : ∀ b r, of_spec_psGood b = some r → to_spec_psGood r = b := by
  rintro ⟨a, o⟩ r h
  cases o with
  | none => injection h with h; subst h; rfl
  | some _ => cases h
noncomputable def f_spec_psGood_0 : Nat → List Int → List (Int × Int × Int × Int) → List (Int × Int × Int × Int) → Int → Int → Option (LR (List Int × List (Int × Int × Int × Int)) Bool)
  | 0, _, _, _, _, _ => none
  | k + 1, b1_0, b1_1, v6, v7, v8 =>
    if decide (v8 < v7) = true then if 0 ≤ v8 then if v8 < (↑(List.length v6) : Int) then Option.bind (f_spec_psLoan k (Prod.fst (List.getD v6 (Int.toNat v8) (0, 0, 0, 0)), Prod.fst (Prod.snd (List.getD v6 (Int.toNat v8) (0, 0, 0, 0))), Prod.fst (Prod.snd (Prod.snd (List.getD v6 (Int.toNat v8) (0, 0, 0, 0)))), Prod.snd (Prod.snd (Prod.snd (List.getD v6 (Int.toNat v8) (0, 0, 0, 0)))))) fun z0 => if (!z0) = true then some (LR.ret false) else Option.bind (f_spec_psSame k (b1_0, b1_1) (Prod.fst (List.getD v6 (Int.toNat v8) (0, 0, 0, 0)), Prod.fst (Prod.snd (List.getD v6 (Int.toNat v8) (0, 0, 0, 0))), Prod.fst (Prod.snd (Prod.snd (List.getD v6 (Int.toNat v8) (0, 0, 0, 0)))), Prod.snd (Prod.snd (Prod.snd (List.getD v6 (Int.toNat v8) (0, 0, 0, 0)))))) fun z1 => if decide (z1 ≠ v8) = true then some (LR.ret false) else f_spec_psGood_0 k b1_0 b1_1 v6 v7 (wrap64 (v8 + 1)) else none else none else some (LR.go (b1_0, b1_1))
noncomputable def f_spec_psGood_0i : Spec := { objs := [OSh.ro, OSh.box 46 [Sh.snap 0 (Ty.int IntKind.i64), Sh.snap 0 (Ty.pair (Ty.int IntKind.i64) (Ty.pair (Ty.int IntKind.i64) (Ty.pair (Ty.int IntKind.i64) (Ty.int IntKind.i64))))]], tmps := [(1, TSh.at (Sh.ptr 1 0)), (6, TSh.at (Sh.snap 0 (Ty.pair (Ty.int IntKind.i64) (Ty.pair (Ty.int IntKind.i64) (Ty.pair (Ty.int IntKind.i64) (Ty.int IntKind.i64)))))), (7, TSh.at (Sh.int IntKind.i64)), (8, TSh.at (Sh.int IntKind.i64))] }
noncomputable def f_spec_psGood_0o : Spec := { objs := [OSh.ro, OSh.box 46 [Sh.snap 0 (Ty.int IntKind.i64), Sh.snap 0 (Ty.pair (Ty.int IntKind.i64) (Ty.pair (Ty.int IntKind.i64) (Ty.pair (Ty.int IntKind.i64) (Ty.int IntKind.i64))))]], tmps := [(1, TSh.at (Sh.ptr 1 0))] }
noncomputable def f_spec_psGood_0D : LoopDef (Tup r_spec_psGood × OutD) := .rets f_spec_psGood_0i f_spec_psGood_0o (List Int × List (Int × Int × Int × Int)) (Bool) (fun k x => f_spec_psGood_0 k x.1.2.1.1 x.1.2.1.2.1 x.2.2.1 x.2.2.2.1 x.2.2.2.2.1) (fun z => (((), (z.1, z.2, ()), ()), ((), ()))) (fun y => (y.1.2.1.1, y.1.2.1.2.1)) (fun _ => rfl) to_spec_psGood of_spec_psGood to_of_spec_psGood
noncomputable def f_spec_psGood : Nat → List Int × List (Int × Int × Int × Int) → Option Bool
  | 0, _ => none
  | k + 1, p0 =>
    Option.bind (f_spec_psGood_0 k (Prod.fst p0) (Prod.snd p0) (Prod.snd p0) (↑(List.length (Prod.snd p0)) : Int) 0) fun z2 => LR.on z2 (fun y2 => if decide ((↑(List.length (Prod.fst y2)) : Int) = 8) = true then Option.bind (f_spec_l1All k (Prod.fst y2) 0 999) fun z3 => if z3 = true then if 0 < (↑(List.length (Prod.fst y2)) : Int) then if decide (List.getD (Prod.fst y2) (Int.toNat 0) 0 = 0) = true then some (decide ((↑(List.length (Prod.snd y2)) : Int) ≤ 20)) else some false else none else some false else some false) fun r2 => some r2
noncomputable def d_spec_psGood : FnDef := .of q_spec_psGood r_spec_psGood (Bool) (fun k x => f_spec_psGood k x.1) to_spec_psGood of_spec_psGood to_of_spec_psGood
noncomputable def c_spec_psGood : Code := Try.f68.body.getD .skip
noncomputable def x_spec_psGood : Ctx (Tup r_spec_psGood × OutD) := { T := T, G := [(92, d_spec_psLoan.E), (93, d_spec_psSame.E), (63, d_spec_l1All.E)], mvs := [], no := 0, n := 46, res := resOf T q_spec_psGood r_spec_psGood Try.f68.results.toList, loops := [(0, f_spec_psGood_0D.E)], regs := [] }
theorem g_spec_psGood (k : Nat) : EnvOK Try.prog k x_spec_psGood.G := (EnvOK.cons (s_spec_psLoan k) (EnvOK.cons (s_spec_psSame k) (EnvOK.cons (s_spec_l1All k) (EnvOK.nil mixed))))
noncomputable def f_spec_psGood_0B : Code := (findLoop 0 c_spec_psGood).getD .skip
theorem f_spec_psGood_0h (k : Nat) (x : f_spec_psGood_0i.D) : f_spec_psGood_0D.lp (k + 1) x = loopK x_spec_psGood f_spec_psGood_0D 0 f_spec_psGood_0B k x := by kernel_rfl
theorem f_spec_psGood_0l (k : Nat) : LOK Try.prog x_spec_psGood k f_spec_psGood_0B := LOK.by [] (by kernel_rfl) AllOK.nil
theorem f_spec_psGood_0z (x : f_spec_psGood_0i.D) : f_spec_psGood_0D.lp 0 x = none := by kernel_rfl
theorem f_spec_psGood_0ok (k : Nat) : EOK Try.prog x_spec_psGood k f_spec_psGood_0D.E (.block 0 (.loop f_spec_psGood_0B)) := loop_ok T_ok g_spec_psGood f_spec_psGood_0z f_spec_psGood_0h f_spec_psGood_0l k
theorem h_spec_psGood (k : Nat) (x : Tup d_spec_psGood.ps) : d_spec_psGood.f (k + 1) x = fnK d_spec_psGood x_spec_psGood c_spec_psGood k x := by kernel_rfl
theorem z_spec_psGood (x : Tup d_spec_psGood.ps) : d_spec_psGood.f 0 x = none := by kernel_rfl
theorem l_spec_psGood (k : Nat) : LOK Try.prog x_spec_psGood k c_spec_psGood := LOK.by [(f_spec_psGood_0D.E, .block 0 (.loop f_spec_psGood_0B))] (by kernel_rfl) (AllOK.cons (f_spec_psGood_0ok k) AllOK.nil)
theorem s_spec_psGood (k : Nat) : SoundAt Try.prog k 68 d_spec_psGood.E := @fn_all Try.prog d_spec_psGood x_spec_psGood 68 Try.f68 c_spec_psGood (by kernel_rfl) (by kernel_rfl) (by kernel_rfl) Try.func68 (by kernel_rfl) (by kernel_rfl) (by kernel_rfl) T_ok g_spec_psGood l_spec_psGood z_spec_psGood h_spec_psGood k
end
end Go.Proofs.Ytcmndffpmjinlaa.Vs
