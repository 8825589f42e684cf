/- Functions of the program by plain functions, each with its contract. -/
import Derived.Test.YtcmndffpmjinlaaVsT
set_option maxRecDepth 100000
set_option linter.unusedVariables false
set_option linter.unusedSimpArgs false
namespace Go.Proofs.Ytcmndffpmjinlaa.Vs
open Go.RowKit
noncomputable section
/-! function 18 -/
noncomputable def r_laws_toIntS : List PK := [{ t := Ty.slice 3 (Ty.int IntKind.i64) }]
noncomputable def q_laws_toIntS : List PK := [{ t := Ty.slice 3 (Ty.int IntKind.i64) }]
noncomputable def to_laws_toIntS (r : List Int) : Tup r_laws_toIntS × OutD := ((r, ()), none)
noncomputable def of_laws_toIntS : Tup r_laws_toIntS × OutD → Option (List Int)
  | (a, none) => some (a.1)
  | _ => none
theorem to_of_laws_toIntS : ∀ b r, of_laws_toIntS b = some r → to_laws_toIntS r = b := by
  rintro ⟨a, o⟩ r h
  cases o with
  | none => injection h with h; subst h; rfl
  | some _ => cases h
noncomputable def f_laws_toIntS_0 : Nat → List Int → List Int → Int → Option (List Int)
  | 0, _, _, _ => none
  | k + 1, o1, v0, v4 =>
    if decide (v4 < (↑(List.length v0) : Int)) = true then if 0 ≤ v4 then if v4 < (↑(List.length v0) : Int) then if 0 ≤ v4 then if v4 < (↑(List.length o1) : Int) then f_laws_toIntS_0 k (List.set o1 (Int.toNat v4) (List.getD v0 (Int.toNat v4) 0)) v0 (wrap64 (v4 + 1)) else none else none else none else none else some o1
noncomputable def f_laws_toIntS_0i : Spec := { objs := [OSh.ro, OSh.row true 3 (Ty.int IntKind.i64)], tmps := [(0, TSh.at (Sh.snap 0 (Ty.int IntKind.i64))), (3, TSh.at (Sh.sl 1)), (4, TSh.at (Sh.int IntKind.i64))] }
noncomputable def f_laws_toIntS_0o : Spec := { objs := [OSh.ro, OSh.row true 3 (Ty.int IntKind.i64)], tmps := [(3, TSh.at (Sh.sl 1))] }
noncomputable def f_laws_toIntS_0D : LoopDef (Tup r_laws_toIntS × OutD) := .plain f_laws_toIntS_0i f_laws_toIntS_0o (List Int) (fun k x => f_laws_toIntS_0 k x.1.2.1 x.2.1 x.2.2.2.1) (fun z => (((), z, ()), ((), ()))) (fun y => (y.1.2.1)) (fun _ => rfl)
noncomputable def f_laws_toIntS : Nat → List Int → Option (List Int)
  | 0, _ => none
  | k + 1, p0 =>
    if Int.toNat (↑(List.length p0) : Int) * 8 ≤ 281474976710656 then Option.bind (f_laws_toIntS_0 k (List.replicate (Int.toNat (↑(List.length p0) : Int)) 0) p0 0) fun z0 => some z0 else none
noncomputable def d_laws_toIntS : FnDef := .of q_laws_toIntS r_laws_toIntS (List Int) (fun k x => f_laws_toIntS k x.1) to_laws_toIntS of_laws_toIntS to_of_laws_toIntS
noncomputable def c_laws_toIntS : Code := Try.f18.body.getD .skip
noncomputable def x_laws_toIntS : Ctx (Tup r_laws_toIntS × OutD) := { T := T, G := [], mvs := [], no := 0, n := 22, res := resOf T q_laws_toIntS r_laws_toIntS Try.f18.results.toList, loops := [(0, f_laws_toIntS_0D.E)], regs := [] }
theorem g_laws_toIntS (k : Nat) : EnvOK Try.prog k x_laws_toIntS.G := (EnvOK.nil mixed)
noncomputable def f_laws_toIntS_0B : Code := (findLoop 0 c_laws_toIntS).getD .skip
theorem f_laws_toIntS_0h (k : Nat) (x : f_laws_toIntS_0i.D) : f_laws_toIntS_0D.lp (k + 1) x = loopK x_laws_toIntS f_laws_toIntS_0D 0 f_laws_toIntS_0B k x := by kernel_rfl
theorem f_laws_toIntS_0l (k : Nat) : LOK Try.prog x_laws_toIntS k f_laws_toIntS_0B := LOK.by [] (by kernel_rfl) AllOK.nil
theorem f_laws_toIntS_0z (x : f_laws_toIntS_0i.D) : f_laws_toIntS_0D.lp 0 x = none := by kernel_rfl
theorem f_laws_toIntS_0ok (k : Nat) : EOK Try.prog x_laws_toIntS k f_laws_toIntS_0D.E (.block 0 (.loop f_laws_toIntS_0B)) := loop_ok T_ok g_laws_toIntS f_laws_toIntS_0z f_laws_toIntS_0h f_laws_toIntS_0l k
theorem h_laws_toIntS (k : Nat) (x : Tup d_laws_toIntS.ps) : d_laws_toIntS.f (k + 1) x = fnK d_laws_toIntS x_laws_toIntS c_laws_toIntS k x := by kernel_rfl
theorem z_laws_toIntS (x : Tup d_laws_toIntS.ps) : d_laws_toIntS.f 0 x = none := by kernel_rfl
theorem l_laws_toIntS (k : Nat) : LOK Try.prog x_laws_toIntS k c_laws_toIntS := LOK.by [(f_laws_toIntS_0D.E, .block 0 (.loop f_laws_toIntS_0B))] (by kernel_rfl) (AllOK.cons (f_laws_toIntS_0ok k) AllOK.nil)
theorem s_laws_toIntS (k : Nat) : SoundAt Try.prog k 18 d_laws_toIntS.E := @fn_all Try.prog d_laws_toIntS x_laws_toIntS 18 Try.f18 c_laws_toIntS (by kernel_rfl) (by kernel_rfl) (by kernel_rfl) Try.func18 (by kernel_rfl) (by kernel_rfl) (by kernel_rfl) T_ok g_laws_toIntS l_laws_toIntS z_laws_toIntS h_laws_toIntS k
/-! function 20 -/
noncomputable def r_laws_eqIntS : List PK := [{ t := Ty.bool }]
noncomputable def q_laws_eqIntS : List PK := [{ t := Ty.slice 3 (Ty.int IntKind.i64) }, { t := Ty.slice 3 (Ty.int IntKind.i64) }]
noncomputable def to_laws_eqIntS (r : Bool) : Tup r_laws_eqIntS × OutD := ((r, ()), none)
noncomputable def of_laws_eqIntS : Tup r_laws_eqIntS × OutD → Option (Bool)
  | (a, none) => some (a.1)
  | _ => none
theorem to_of_laws_eqIntS : ∀ b r, of_laws_eqIntS b = some r → to_laws_eqIntS r = b := by
  rintro ⟨a, o⟩ r h
  cases o with
  | none => injection h with h; subst h; rfl
  | some _ => cases h
noncomputable def f_laws_eqIntS_0 : Nat → List Int → List Int → Int → Option (LR Unit Bool)
  | 0, _, _, _ => none
  | k + 1, v0, v1, v5 =>
    if decide (v5 < (↑(List.length v0) : Int)) = true then if 0 ≤ v5 then if v5 < (↑(List.length v0) : Int) then if 0 ≤ v5 then if v5 < (↑(List.length v1) : Int) then if decide (List.getD v0 (Int.toNat v5) 0 ≠ List.getD v1 (Int.toNat v5) 0) = true then some (LR.ret false) else f_laws_eqIntS_0 k v0 v1 (wrap64 (v5 + 1)) else none else none else none else none else some (LR.go ())
noncomputable def f_laws_eqIntS_0i : Spec := { objs := [OSh.ro], tmps := [(0, TSh.at (Sh.snap 0 (Ty.int IntKind.i64))), (1, TSh.at (Sh.snap 0 (Ty.int IntKind.i64))), (5, TSh.at (Sh.int IntKind.i64))] }
noncomputable def f_laws_eqIntS_0o : Spec := { objs := [OSh.ro], tmps := [] }
noncomputable def f_laws_eqIntS_0D : LoopDef (Tup r_laws_eqIntS × OutD) := .rets f_laws_eqIntS_0i f_laws_eqIntS_0o (Unit) (Bool) (fun k x => f_laws_eqIntS_0 k x.2.1 x.2.2.1 x.2.2.2.1) (fun z => (((), ()), (()))) (fun y => ()) (fun _ => rfl) to_laws_eqIntS of_laws_eqIntS to_of_laws_eqIntS
noncomputable def f_laws_eqIntS : Nat → List Int → List Int → Option Bool
  | 0, _, _ => none
  | k + 1, p0, p1 =>
    if decide ((↑(List.length p0) : Int) ≠ (↑(List.length p1) : Int)) = true then some false else Option.bind (f_laws_eqIntS_0 k p0 p1 0) fun z0 => LR.on z0 (fun y0 => some true) fun r0 => some r0
noncomputable def d_laws_eqIntS : FnDef := .of q_laws_eqIntS r_laws_eqIntS (Bool) (fun k x => f_laws_eqIntS k x.1 x.2.1) to_laws_eqIntS of_laws_eqIntS to_of_laws_eqIntS
noncomputable def c_laws_eqIntS : Code := Try.f20.body.getD .skip
noncomputable def x_laws_eqIntS : Ctx (Tup r_laws_eqIntS × OutD) := { T := T, G := [], mvs := [], no := 0, n := 26, res := resOf T q_laws_eqIntS r_laws_eqIntS Try.f20.results.toList, loops := [(0, f_laws_eqIntS_0D.E)], regs := [] }
theorem g_laws_eqIntS (k : Nat) : EnvOK Try.prog k x_laws_eqIntS.G := (EnvOK.nil mixed)
noncomputable def f_laws_eqIntS_0B : Code := (findLoop 0 c_laws_eqIntS).getD .skip
theorem f_laws_eqIntS_0h (k : Nat) (x : f_laws_eqIntS_0i.D) : f_laws_eqIntS_0D.lp (k + 1) x = loopK x_laws_eqIntS f_laws_eqIntS_0D 0 f_laws_eqIntS_0B k x := by kernel_rfl
theorem f_laws_eqIntS_0l (k : Nat) : LOK Try.prog x_laws_eqIntS k f_laws_eqIntS_0B := LOK.by [] (by kernel_rfl) AllOK.nil
theorem f_laws_eqIntS_0z (x : f_laws_eqIntS_0i.D) : f_laws_eqIntS_0D.lp 0 x = none := by kernel_rfl
theorem f_laws_eqIntS_0ok (k : Nat) : EOK Try.prog x_laws_eqIntS k f_laws_eqIntS_0D.E (.block 0 (.loop f_laws_eqIntS_0B)) := loop_ok T_ok g_laws_eqIntS f_laws_eqIntS_0z f_laws_eqIntS_0h f_laws_eqIntS_0l k
theorem h_laws_eqIntS (k : Nat) (x : Tup d_laws_eqIntS.ps) : d_laws_eqIntS.f (k + 1) x = fnK d_laws_eqIntS x_laws_eqIntS c_laws_eqIntS k x := by kernel_rfl
theorem z_laws_eqIntS (x : Tup d_laws_eqIntS.ps) : d_laws_eqIntS.f 0 x = none := by kernel_rfl
theorem l_laws_eqIntS (k : Nat) : LOK Try.prog x_laws_eqIntS k c_laws_eqIntS := LOK.by [(f_laws_eqIntS_0D.E, .block 0 (.loop f_laws_eqIntS_0B))] (by kernel_rfl) (AllOK.cons (f_laws_eqIntS_0ok k) AllOK.nil)
theorem s_laws_eqIntS (k : Nat) : SoundAt Try.prog k 20 d_laws_eqIntS.E := @fn_all Try.prog d_laws_eqIntS x_laws_eqIntS 20 Try.f20 c_laws_eqIntS (by kernel_rfl) (by kernel_rfl) (by kernel_rfl) Try.func20 (by kernel_rfl) (by kernel_rfl) (by kernel_rfl) T_ok g_laws_eqIntS l_laws_eqIntS z_laws_eqIntS h_laws_eqIntS k
/-! function 55 -/
noncomputable def r_spec_l1In : List PK := [{ t := Ty.bool }]
noncomputable def q_spec_l1In : List PK := [{ t := Ty.int IntKind.i64 }, { t := Ty.int IntKind.i64 }, { t := Ty.int IntKind.i64 }]
noncomputable def to_spec_l1In (r : Bool) : Tup r_spec_l1In × OutD := ((r, ()), none)
noncomputable def of_spec_l1In : Tup r_spec_l1In × OutD → Option (Bool)
  | (a, none) => some (a.1)
  | _ => none
theorem to_of_spec_l1In : ∀ b r, of_spec_l1In b = some r → to_spec_l1In r = b := by
  rintro ⟨a, o⟩ r h
  cases o with
  | none => injection h with h; subst h; rfl
  | some _ => cases h
noncomputable def f_spec_l1In : Nat → Int → Int → Int → Option Bool
  | 0, _, _, _ => none
  | k + 1, p0, p1, p2 =>
    if decide (p0 ≥ p1) = true then some (decide (p0 ≤ p2)) else some false
noncomputable def d_spec_l1In : FnDef := .of q_spec_l1In r_spec_l1In (Bool) (fun k x => f_spec_l1In k x.1 x.2.1 x.2.2.1) to_spec_l1In of_spec_l1In to_of_spec_l1In
noncomputable def c_spec_l1In : Code := Try.f55.body.getD .skip
noncomputable def x_spec_l1In : Ctx (Tup r_spec_l1In × OutD) := { T := T, G := [], mvs := [], no := 0, n := 15, res := resOf T q_spec_l1In r_spec_l1In Try.f55.results.toList, loops := [], regs := [] }
theorem g_spec_l1In (k : Nat) : EnvOK Try.prog k x_spec_l1In.G := (EnvOK.nil mixed)
theorem h_spec_l1In (k : Nat) (x : Tup d_spec_l1In.ps) : d_spec_l1In.f (k + 1) x = fnK d_spec_l1In x_spec_l1In c_spec_l1In k x := by kernel_rfl
theorem z_spec_l1In (x : Tup d_spec_l1In.ps) : d_spec_l1In.f 0 x = none := by kernel_rfl
theorem l_spec_l1In (k : Nat) : LOK Try.prog x_spec_l1In k c_spec_l1In := LOK.by [] (by kernel_rfl) AllOK.nil
theorem s_spec_l1In (k : Nat) : SoundAt Try.prog k 55 d_spec_l1In.E := @fn_all Try.prog d_spec_l1In x_spec_l1In 55 Try.f55 c_spec_l1In (by kernel_rfl) (by kernel_rfl) (by kernel_rfl) Try.func55 (by kernel_rfl) (by kernel_rfl) (by kernel_rfl) T_ok g_spec_l1In l_spec_l1In z_spec_l1In h_spec_l1In k
/-! function 66 -/
noncomputable def r_laws_szIntS : List PK := [{ t := Ty.int IntKind.i64 }]
noncomputable def q_laws_szIntS : List PK := [{ t := Ty.slice 3 (Ty.int IntKind.i64) }, { t := Ty.int IntKind.i64 }]
noncomputable def to_laws_szIntS (r : Int) : Tup r_laws_szIntS × OutD := ((r, ()), none)
noncomputable def of_laws_szIntS : Tup r_laws_szIntS × OutD → Option (Int)
  | (a, none) => some (a.1)
  | _ => none
theorem to_of_laws_szIntS : ∀ b r, of_laws_szIntS b = some r → to_laws_szIntS r = b := by
  rintro ⟨a, o⟩ r h
  cases o with
  | none => injection h with h; subst h; rfl
  | some _ => cases h
noncomputable def f_laws_szIntS : Nat → List Int → Int → Option Int
  | 0, _, _ => none
  | k + 1, p0, p1 =>
    if decide (wrap64 (p1 - (↑(List.length p0) : Int)) < 0) = true then some (-1) else some (wrap64 (p1 - (↑(List.length p0) : Int)))
noncomputable def d_laws_szIntS : FnDef := .of q_laws_szIntS r_laws_szIntS (Int) (fun k x => f_laws_szIntS k x.1 x.2.1) to_laws_szIntS of_laws_szIntS to_of_laws_szIntS
noncomputable def c_laws_szIntS : Code := Try.f66.body.getD .skip
noncomputable def x_laws_szIntS : Ctx (Tup r_laws_szIntS × OutD) := { T := T, G := [], mvs := [], no := 0, n := 12, res := resOf T q_laws_szIntS r_laws_szIntS Try.f66.results.toList, loops := [], regs := [] }
theorem g_laws_szIntS (k : Nat) : EnvOK Try.prog k x_laws_szIntS.G := (EnvOK.nil mixed)
theorem h_laws_szIntS (k : Nat) (x : Tup d_laws_szIntS.ps) : d_laws_szIntS.f (k + 1) x = fnK d_laws_szIntS x_laws_szIntS c_laws_szIntS k x := by kernel_rfl
theorem z_laws_szIntS (x : Tup d_laws_szIntS.ps) : d_laws_szIntS.f 0 x = none := by kernel_rfl
theorem l_laws_szIntS (k : Nat) : LOK Try.prog x_laws_szIntS k c_laws_szIntS := LOK.by [] (by kernel_rfl) AllOK.nil
theorem s_laws_szIntS (k : Nat) : SoundAt Try.prog k 66 d_laws_szIntS.E := @fn_all Try.prog d_laws_szIntS x_laws_szIntS 66 Try.f66 c_laws_szIntS (by kernel_rfl) (by kernel_rfl) (by kernel_rfl) Try.func66 (by kernel_rfl) (by kernel_rfl) (by kernel_rfl) T_ok g_laws_szIntS l_laws_szIntS z_laws_szIntS h_laws_szIntS k
/-! function 67 -/
noncomputable def r_laws_szLoanS : List PK := [{ t := Ty.int IntKind.i64 }]
noncomputable def q_laws_szLoanS : List PK := [{ t := Ty.slice 95 (Ty.pair (Ty.int IntKind.i64) (Ty.pair (Ty.int IntKind.i64) (Ty.pair (Ty.int IntKind.i64) (Ty.int IntKind.i64)))) }, { t := Ty.int IntKind.i64 }]
noncomputable def to_laws_szLoanS (r : Int) : Tup r_laws_szLoanS × OutD := ((r, ()), none)
noncomputable def of_laws_szLoanS : Tup r_laws_szLoanS × OutD → Option (Int)
  | (a, none) => some (a.1)
  | _ => none
theorem to_of_laws_szLoanS : ∀ b r, of_laws_szLoanS b = some r → to_laws_szLoanS r = b := by
  rintro ⟨a, o⟩ r h
  cases o with
  | none => injection h with h; subst h; rfl
  | some _ => cases h
noncomputable def f_laws_szLoanS : Nat → List (Int × Int × Int × Int) → Int → Option Int
  | 0, _, _ => none
  | k + 1, p0, p1 =>
    if decide (wrap64 (p1 - (↑(List.length p0) : Int)) < 0) = true then some (-1) else some (wrap64 (p1 - (↑(List.length p0) : Int)))
noncomputable def d_laws_szLoanS : FnDef := .of q_laws_szLoanS r_laws_szLoanS (Int) (fun k x => f_laws_szLoanS k x.1 x.2.1) to_laws_szLoanS of_laws_szLoanS to_of_laws_szLoanS
noncomputable def c_laws_szLoanS : Code := Try.f67.body.getD .skip
noncomputable def x_laws_szLoanS : Ctx (Tup r_laws_szLoanS × OutD) := { T := T, G := [], mvs := [], no := 0, n := 12, res := resOf T q_laws_szLoanS r_laws_szLoanS Try.f67.results.toList, loops := [], regs := [] }
theorem g_laws_szLoanS (k : Nat) : EnvOK Try.prog k x_laws_szLoanS.G := (EnvOK.nil mixed)
theorem h_laws_szLoanS (k : Nat) (x : Tup d_laws_szLoanS.ps) : d_laws_szLoanS.f (k + 1) x = fnK d_laws_szLoanS x_laws_szLoanS c_laws_szLoanS k x := by kernel_rfl
theorem z_laws_szLoanS (x : Tup d_laws_szLoanS.ps) : d_laws_szLoanS.f 0 x = none := by kernel_rfl
theorem l_laws_szLoanS (k : Nat) : LOK Try.prog x_laws_szLoanS k c_laws_szLoanS := LOK.by [] (by kernel_rfl) AllOK.nil
theorem s_laws_szLoanS (k : Nat) : SoundAt Try.prog k 67 d_laws_szLoanS.E := @fn_all Try.prog d_laws_szLoanS x_laws_szLoanS 67 Try.f67 c_laws_szLoanS (by kernel_rfl) (by kernel_rfl) (by kernel_rfl) Try.func67 (by kernel_rfl) (by kernel_rfl) (by kernel_rfl) T_ok g_laws_szLoanS l_laws_szLoanS z_laws_szLoanS h_laws_szLoanS k
/-! function 71 -/
noncomputable def r_impl_sameLoan : List PK := [{ t := Ty.int IntKind.i64 }]
noncomputable def q_impl_sameLoan : List PK := [{ t := Ty.slice 81 (Ty.pair (Ty.int IntKind.i64) (Ty.pair (Ty.int IntKind.i64) (Ty.pair (Ty.int IntKind.i64) (Ty.int IntKind.i64)))) }, { t := Ty.pair (Ty.int IntKind.i64) (Ty.pair (Ty.int IntKind.i64) (Ty.pair (Ty.int IntKind.i64) (Ty.int IntKind.i64))), agg := true }]
noncomputable def to_impl_sameLoan (r : Int) : Tup r_impl_sameLoan × OutD := ((r, ()), none)
noncomputable def of_impl_sameLoan : Tup r_impl_sameLoan × OutD → Option (Int)
  | (a, none) => some (a.1)
  | _ => none
theorem to_of_impl_sameLoan : ∀ b r, of_impl_sameLoan b = some r → to_impl_sameLoan r = b := by
  rintro ⟨a, o⟩ r h
  cases o with
  | none => injection h with h; subst h; rfl
  | some _ => cases h
noncomputable def f_impl_sameLoan_0 : Nat → Int → Int → Int → Int → List (Int × Int × Int × Int) → Int → Int → Option (LR Unit Int)
  | 0, _, _, _, _, _, _, _ => none
  | k + 1, b1_0, b1_1, b1_2, b1_3, v7, v8, v9 =>
    if decide (v9 < v8) = true then if 0 ≤ v9 then if v9 < (↑(List.length v7) : Int) then if decide (b1_0 = Prod.fst (List.getD v7 (Int.toNat v9) (0, 0, 0, 0))) = true then if decide (b1_1 = Prod.fst (Prod.snd (List.getD v7 (Int.toNat v9) (0, 0, 0, 0)))) = true then if decide (b1_3 = Prod.snd (Prod.snd (Prod.snd (List.getD v7 (Int.toNat v9) (0, 0, 0, 0))))) = true then some (LR.ret v9) else f_impl_sameLoan_0 k b1_0 b1_1 b1_2 b1_3 v7 v8 (wrap64 (v9 + 1)) else f_impl_sameLoan_0 k b1_0 b1_1 b1_2 b1_3 v7 v8 (wrap64 (v9 + 1)) else f_impl_sameLoan_0 k b1_0 b1_1 b1_2 b1_3 v7 v8 (wrap64 (v9 + 1)) else none else none else some (LR.go ())
noncomputable def f_impl_sameLoan_0i : Spec := { objs := [OSh.ro, OSh.box 81 [Sh.int IntKind.i64, Sh.int IntKind.i64, Sh.int IntKind.i64, Sh.int IntKind.i64]], tmps := [(3, TSh.at (Sh.ptr 1 0)), (7, TSh.at (Sh.snap 0 (Ty.pair (Ty.int IntKind.i64) (Ty.pair (Ty.int IntKind.i64) (Ty.pair (Ty.int IntKind.i64) (Ty.int IntKind.i64)))))), (8, TSh.at (Sh.int IntKind.i64)), (9, TSh.at (Sh.int IntKind.i64))] }
noncomputable def f_impl_sameLoan_0o : Spec := { objs := [OSh.ro], tmps := [] }
noncomputable def f_impl_sameLoan_0D : LoopDef (Tup r_impl_sameLoan × OutD) := .rets f_impl_sameLoan_0i f_impl_sameLoan_0o (Unit) (Int) (fun k x => f_impl_sameLoan_0 k x.1.2.1.1 x.1.2.1.2.1 x.1.2.1.2.2.1 x.1.2.1.2.2.2.1 x.2.2.1 x.2.2.2.1 x.2.2.2.2.1) (fun z => (((), ()), (()))) (fun y => ()) (fun _ => rfl) to_impl_sameLoan of_impl_sameLoan to_of_impl_sameLoan
noncomputable def f_impl_sameLoan : Nat → List (Int × Int × Int × Int) → Int × Int × Int × Int → Option Int
  | 0, _, _ => none
  | k + 1, p0, p1 =>
    Option.bind (f_impl_sameLoan_0 k (Prod.fst p1) (Prod.fst (Prod.snd p1)) (Prod.fst (Prod.snd (Prod.snd p1))) (Prod.snd (Prod.snd (Prod.snd p1))) p0 (↑(List.length p0) : Int) 0) fun z0 => LR.on z0 (fun y0 => some (-1)) fun r0 => some r0
noncomputable def d_impl_sameLoan : FnDef := .of q_impl_sameLoan r_impl_sameLoan (Int) (fun k x => f_impl_sameLoan k x.1 x.2.1) to_impl_sameLoan of_impl_sameLoan to_of_impl_sameLoan
noncomputable def c_impl_sameLoan : Code := Try.f71.body.getD .skip
noncomputable def x_impl_sameLoan : Ctx (Tup r_impl_sameLoan × OutD) := { T := T, G := [], mvs := [], no := 0, n := 35, res := resOf T q_impl_sameLoan r_impl_sameLoan Try.f71.results.toList, loops := [(0, f_impl_sameLoan_0D.E)], regs := [] }
theorem g_impl_sameLoan (k : Nat) : EnvOK Try.prog k x_impl_sameLoan.G := (EnvOK.nil mixed)
noncomputable def f_impl_sameLoan_0B : Code := (findLoop 0 c_impl_sameLoan).getD .skip
theorem f_impl_sameLoan_0h (k : Nat) (x : f_impl_sameLoan_0i.D) : f_impl_sameLoan_0D.lp (k + 1) x = loopK x_impl_sameLoan f_impl_sameLoan_0D 0 f_impl_sameLoan_0B k x := by kernel_rfl
theorem f_impl_sameLoan_0l (k : Nat) : LOK Try.prog x_impl_sameLoan k f_impl_sameLoan_0B := LOK.by [] (by kernel_rfl) AllOK.nil
theorem f_impl_sameLoan_0z (x : f_impl_sameLoan_0i.D) : f_impl_sameLoan_0D.lp 0 x = none := by kernel_rfl
theorem f_impl_sameLoan_0ok (k : Nat) : EOK Try.prog x_impl_sameLoan k f_impl_sameLoan_0D.E (.block 0 (.loop f_impl_sameLoan_0B)) := loop_ok T_ok g_impl_sameLoan f_impl_sameLoan_0z f_impl_sameLoan_0h f_impl_sameLoan_0l k
theorem h_impl_sameLoan (k : Nat) (x : Tup d_impl_sameLoan.ps) : d_impl_sameLoan.f (k + 1) x = fnK d_impl_sameLoan x_impl_sameLoan c_impl_sameLoan k x := by kernel_rfl
theorem z_impl_sameLoan (x : Tup d_impl_sameLoan.ps) : d_impl_sameLoan.f 0 x = none := by kernel_rfl
theorem l_impl_sameLoan (k : Nat) : LOK Try.prog x_impl_sameLoan k c_impl_sameLoan := LOK.by [(f_impl_sameLoan_0D.E, .block 0 (.loop f_impl_sameLoan_0B))] (by kernel_rfl) (AllOK.cons (f_impl_sameLoan_0ok k) AllOK.nil)
theorem s_impl_sameLoan (k : Nat) : SoundAt Try.prog k 71 d_impl_sameLoan.E := @fn_all Try.prog d_impl_sameLoan x_impl_sameLoan 71 Try.f71 c_impl_sameLoan (by kernel_rfl) (by kernel_rfl) (by kernel_rfl) Try.func71 (by kernel_rfl) (by kernel_rfl) (by kernel_rfl) T_ok g_impl_sameLoan l_impl_sameLoan z_impl_sameLoan h_impl_sameLoan k
/-! function 93 -/
noncomputable def r_spec_psSame : List PK := [{ t := Ty.int IntKind.i64 }]
noncomputable def q_spec_psSame : List PK := [{ t := Ty.pair (Ty.slice 3 (Ty.int IntKind.i64)) (Ty.slice 81 (Ty.pair (Ty.int IntKind.i64) (Ty.pair (Ty.int IntKind.i64) (Ty.pair (Ty.int IntKind.i64) (Ty.int IntKind.i64))))), agg := true }, { t := Ty.pair (Ty.int IntKind.i64) (Ty.pair (Ty.int IntKind.i64) (Ty.pair (Ty.int IntKind.i64) (Ty.int IntKind.i64))), agg := true }]
noncomputable def to_spec_psSame (r : Int) : Tup r_spec_psSame × OutD := ((r, ()), none)
noncomputable def of_spec_psSame : Tup r_spec_psSame × OutD → Option (Int)
  | (a, none) => some (a.1)
  | _ => none
theorem to_of_spec_psSame : ∀ b r, of_spec_psSame b = some r → to_spec_psSame r = b := by
  rintro ⟨a, o⟩ r h
  cases o with
  | none => injection h with h; subst h; rfl
  | some _ => cases h
noncomputable def f_spec_psSame_0 : Nat → Int → Int → Int → Int → List (Int × Int × Int × Int) → Int → Int → Option (LR Unit Int)
  | 0, _, _, _, _, _, _, _ => none
  | k + 1, b1_0, b1_1, b1_2, b1_3, v8, v9, v10 =>
    if decide (v10 < v9) = true then if 0 ≤ v10 then if v10 < (↑(List.length v8) : Int) then if decide (Prod.fst (List.getD v8 (Int.toNat v10) (0, 0, 0, 0)) = b1_0) = true then if decide (Prod.fst (Prod.snd (List.getD v8 (Int.toNat v10) (0, 0, 0, 0))) = b1_1) = true then if decide (Prod.snd (Prod.snd (Prod.snd (List.getD v8 (Int.toNat v10) (0, 0, 0, 0)))) = b1_3) = true then some (LR.ret v10) else f_spec_psSame_0 k b1_0 b1_1 b1_2 b1_3 v8 v9 (wrap64 (v10 + 1)) else f_spec_psSame_0 k b1_0 b1_1 b1_2 b1_3 v8 v9 (wrap64 (v10 + 1)) else f_spec_psSame_0 k b1_0 b1_1 b1_2 b1_3 v8 v9 (wrap64 (v10 + 1)) else none else none else some (LR.go ())
noncomputable def f_spec_psSame_0i : Spec := { objs := [OSh.ro, OSh.box 81 [Sh.int IntKind.i64, Sh.int IntKind.i64, Sh.int IntKind.i64, Sh.int IntKind.i64]], tmps := [(3, TSh.at (Sh.ptr 1 0)), (8, TSh.at (Sh.snap 0 (Ty.pair (Ty.int IntKind.i64) (Ty.pair (Ty.int IntKind.i64) (Ty.pair (Ty.int IntKind.i64) (Ty.int IntKind.i64)))))), (9, TSh.at (Sh.int IntKind.i64)), (10, TSh.at (Sh.int IntKind.i64))] }
noncomputable def f_spec_psSame_0o : Spec := { objs := [OSh.ro], tmps := [] }
noncomputable def f_spec_psSame_0D : LoopDef (Tup r_spec_psSame × OutD) := .rets f_spec_psSame_0i f_spec_psSame_0o (Unit) (Int) (fun k x => f_spec_psSame_0 k x.1.2.1.1 x.1.2.1.2.1 x.1.2.1.2.2.1 x.1.2.1.2.2.2.1 x.2.2.1 x.2.2.2.1 x.2.2.2.2.1) (fun z => (((), ()), (()))) (fun y => ()) (fun _ => rfl) to_spec_psSame of_spec_psSame to_of_spec_psSame
noncomputable def f_spec_psSame : Nat → List Int × List (Int × Int × Int × Int) → Int × Int × Int × Int → Option Int
  | 0, _, _ => none
  | k + 1, p0, p1 =>
    Option.bind (f_spec_psSame_0 k (Prod.fst p1) (Prod.fst (Prod.snd p1)) (Prod.fst (Prod.snd (Prod.snd p1))) (Prod.snd (Prod.snd (Prod.snd p1))) (Prod.snd p0) (↑(List.length (Prod.snd p0)) : Int) 0) fun z0 => LR.on z0 (fun y0 => some (-1)) fun r0 => some r0
noncomputable def d_spec_psSame : FnDef := .of q_spec_psSame r_spec_psSame (Int) (fun k x => f_spec_psSame k x.1 x.2.1) to_spec_psSame of_spec_psSame to_of_spec_psSame
noncomputable def c_spec_psSame : Code := Try.f93.body.getD .skip
noncomputable def x_spec_psSame : Ctx (Tup r_spec_psSame × OutD) := { T := T, G := [], mvs := [], no := 0, n := 36, res := resOf T q_spec_psSame r_spec_psSame Try.f93.results.toList, loops := [(0, f_spec_psSame_0D.E)], regs := [] }
theorem g_spec_psSame (k : Nat) : EnvOK Try.prog k x_spec_psSame.G := (EnvOK.nil mixed)
noncomputable def f_spec_psSame_0B : Code := (findLoop 0 c_spec_psSame).getD .skip
theorem f_spec_psSame_0h (k : Nat) (x : f_spec_psSame_0i.D) : f_spec_psSame_0D.lp (k + 1) x = loopK x_spec_psSame f_spec_psSame_0D 0 f_spec_psSame_0B k x := by kernel_rfl
theorem f_spec_psSame_0l (k : Nat) : LOK Try.prog x_spec_psSame k f_spec_psSame_0B := LOK.by [] (by kernel_rfl) AllOK.nil
theorem f_spec_psSame_0z (x : f_spec_psSame_0i.D) : f_spec_psSame_0D.lp 0 x = none := by kernel_rfl
theorem f_spec_psSame_0ok (k : Nat) : EOK Try.prog x_spec_psSame k f_spec_psSame_0D.E (.block 0 (.loop f_spec_psSame_0B)) := loop_ok T_ok g_spec_psSame f_spec_psSame_0z f_spec_psSame_0h f_spec_psSame_0l k
theorem h_spec_psSame (k : Nat) (x : Tup d_spec_psSame.ps) : d_spec_psSame.f (k + 1) x = fnK d_spec_psSame x_spec_psSame c_spec_psSame k x := by kernel_rfl
theorem z_spec_psSame (x : Tup d_spec_psSame.ps) : d_spec_psSame.f 0 x = none := by kernel_rfl
theorem l_spec_psSame (k : Nat) : LOK Try.prog x_spec_psSame k c_spec_psSame := LOK.by [(f_spec_psSame_0D.E, .block 0 (.loop f_spec_psSame_0B))] (by kernel_rfl) (AllOK.cons (f_spec_psSame_0ok k) AllOK.nil)
theorem s_spec_psSame (k : Nat) : SoundAt Try.prog k 93 d_spec_psSame.E := @fn_all Try.prog d_spec_psSame x_spec_psSame 93 Try.f93 c_spec_psSame (by kernel_rfl) (by kernel_rfl) (by kernel_rfl) Try.func93 (by kernel_rfl) (by kernel_rfl) (by kernel_rfl) T_ok g_spec_psSame l_spec_psSame z_spec_psSame h_spec_psSame k
/-! function 94 -/
noncomputable def r_laws_toLoan : List PK := [{ t := Ty.pair (Ty.int IntKind.i64) (Ty.pair (Ty.int IntKind.i64) (Ty.pair (Ty.int IntKind.i64) (Ty.int IntKind.i64))), agg := true }]
noncomputable def q_laws_toLoan : List PK := [{ t := Ty.pair (Ty.int IntKind.i64) (Ty.pair (Ty.int IntKind.i64) (Ty.pair (Ty.int IntKind.i64) (Ty.int IntKind.i64))), agg := true }]
noncomputable def to_laws_toLoan (r : Int × Int × Int × Int) : Tup r_laws_toLoan × OutD := ((r, ()), none)
noncomputable def of_laws_toLoan : Tup r_laws_toLoan × OutD → Option (Int × Int × Int × Int)
  | (a, none) => some (a.1)
  | _ => none
theorem to_of_laws_toLoan : ∀ b r, of_laws_toLoan b = some r → to_laws_toLoan r = b := by
  rintro ⟨a, o⟩ r h
  cases o with
  | none => injection h with h; subst h; rfl
  | some _ => cases h
noncomputable def f_laws_toLoan : Nat → Int × Int × Int × Int → Option (Int × Int × Int × Int)
  | 0, _ => none
  | k + 1, p0 =>
    some (Prod.fst p0, Prod.fst (Prod.snd p0), Prod.fst (Prod.snd (Prod.snd p0)), Prod.snd (Prod.snd (Prod.snd p0)))
noncomputable def d_laws_toLoan : FnDef := .of q_laws_toLoan r_laws_toLoan (Int × Int × Int × Int) (fun k x => f_laws_toLoan k x.1) to_laws_toLoan of_laws_toLoan to_of_laws_toLoan
noncomputable def c_laws_toLoan : Code := Try.f94.body.getD .skip
noncomputable def x_laws_toLoan : Ctx (Tup r_laws_toLoan × OutD) := { T := T, G := [], mvs := [], no := 0, n := 17, res := resOf T q_laws_toLoan r_laws_toLoan Try.f94.results.toList, loops := [], regs := [] }
theorem g_laws_toLoan (k : Nat) : EnvOK Try.prog k x_laws_toLoan.G := (EnvOK.nil mixed)
theorem h_laws_toLoan (k : Nat) (x : Tup d_laws_toLoan.ps) : d_laws_toLoan.f (k + 1) x = fnK d_laws_toLoan x_laws_toLoan c_laws_toLoan k x := by kernel_rfl
theorem z_laws_toLoan (x : Tup d_laws_toLoan.ps) : d_laws_toLoan.f 0 x = none := by kernel_rfl
theorem l_laws_toLoan (k : Nat) : LOK Try.prog x_laws_toLoan k c_laws_toLoan := LOK.by [] (by kernel_rfl) AllOK.nil
theorem s_laws_toLoan (k : Nat) : SoundAt Try.prog k 94 d_laws_toLoan.E := @fn_all Try.prog d_laws_toLoan x_laws_toLoan 94 Try.f94 c_laws_toLoan (by kernel_rfl) (by kernel_rfl) (by kernel_rfl) Try.func94 (by kernel_rfl) (by kernel_rfl) (by kernel_rfl) T_ok g_laws_toLoan l_laws_toLoan z_laws_toLoan h_laws_toLoan k
/-! function 95 -/
noncomputable def r_impl_isDay : List PK := [{ t := Ty.bool }]
noncomputable def q_impl_isDay : List PK := [{ t := Ty.int IntKind.i64 }]
noncomputable def to_impl_isDay (r : Bool) : Tup r_impl_isDay × OutD := ((r, ()), none)
noncomputable def of_impl_isDay : Tup r_impl_isDay × OutD → Option (Bool)
  | (a, none) => some (a.1)
  | _ => none
theorem to_of_impl_isDay : ∀ b r, of_impl_isDay b = some r → to_impl_isDay r = b := by
  rintro ⟨a, o⟩ r h
  cases o with
  | none => injection h with h; subst h; rfl
  | some _ => cases h
noncomputable def f_impl_isDay : Nat → Int → Option Bool
  | 0, _ => none
  | k + 1, p0 =>
    if decide (p0 ≥ 0) = true then some (decide (p0 ≤ 999)) else some false
noncomputable def d_impl_isDay : FnDef := .of q_impl_isDay r_impl_isDay (Bool) (fun k x => f_impl_isDay k x.1) to_impl_isDay of_impl_isDay to_of_impl_isDay
noncomputable def c_impl_isDay : Code := Try.f95.body.getD .skip
noncomputable def x_impl_isDay : Ctx (Tup r_impl_isDay × OutD) := { T := T, G := [], mvs := [], no := 0, n := 9, res := resOf T q_impl_isDay r_impl_isDay Try.f95.results.toList, loops := [], regs := [] }
theorem g_impl_isDay (k : Nat) : EnvOK Try.prog k x_impl_isDay.G := (EnvOK.nil mixed)
theorem h_impl_isDay (k : Nat) (x : Tup d_impl_isDay.ps) : d_impl_isDay.f (k + 1) x = fnK d_impl_isDay x_impl_isDay c_impl_isDay k x := by kernel_rfl
theorem z_impl_isDay (x : Tup d_impl_isDay.ps) : d_impl_isDay.f 0 x = none := by kernel_rfl
theorem l_impl_isDay (k : Nat) : LOK Try.prog x_impl_isDay k c_impl_isDay := LOK.by [] (by kernel_rfl) AllOK.nil
theorem s_impl_isDay (k : Nat) : SoundAt Try.prog k 95 d_impl_isDay.E := @fn_all Try.prog d_impl_isDay x_impl_isDay 95 Try.f95 c_impl_isDay (by kernel_rfl) (by kernel_rfl) (by kernel_rfl) Try.func95 (by kernel_rfl) (by kernel_rfl) (by kernel_rfl) T_ok g_impl_isDay l_impl_isDay z_impl_isDay h_impl_isDay k
/-! function 96 -/
noncomputable def r_laws_eqLoan : List PK := [{ t := Ty.bool }]
noncomputable def q_laws_eqLoan : List PK := [{ t := Ty.pair (Ty.int IntKind.i64) (Ty.pair (Ty.int IntKind.i64) (Ty.pair (Ty.int IntKind.i64) (Ty.int IntKind.i64))), agg := true }, { t := Ty.pair (Ty.int IntKind.i64) (Ty.pair (Ty.int IntKind.i64) (Ty.pair (Ty.int IntKind.i64) (Ty.int IntKind.i64))), agg := true }]
noncomputable def to_laws_eqLoan (r : Bool) : Tup r_laws_eqLoan × OutD := ((r, ()), none)
noncomputable def of_laws_eqLoan : Tup r_laws_eqLoan × OutD → Option (Bool)
  | (a, none) => some (a.1)
  | _ => none
theorem to_of_laws_eqLoan : ∀ b r, of_laws_eqLoan b = some r → to_laws_eqLoan r = b := by
  rintro ⟨a, o⟩ r h
  cases o with
  | none => injection h with h; subst h; rfl
  | some _ => cases h
noncomputable def f_laws_eqLoan : Nat → Int × Int × Int × Int → Int × Int × Int × Int → Option Bool
  | 0, _, _ => none
  | k + 1, p0, p1 =>
    if decide (Prod.fst p0 ≠ Prod.fst p1) = true then some false else if decide (Prod.fst (Prod.snd p0) ≠ Prod.fst (Prod.snd p1)) = true then some false else if decide (Prod.fst (Prod.snd (Prod.snd p0)) ≠ Prod.fst (Prod.snd (Prod.snd p1))) = true then some false else if decide (Prod.snd (Prod.snd (Prod.snd p0)) ≠ Prod.snd (Prod.snd (Prod.snd p1))) = true then some false else some true
noncomputable def d_laws_eqLoan : FnDef := .of q_laws_eqLoan r_laws_eqLoan (Bool) (fun k x => f_laws_eqLoan k x.1 x.2.1) to_laws_eqLoan of_laws_eqLoan to_of_laws_eqLoan
noncomputable def c_laws_eqLoan : Code := Try.f96.body.getD .skip
noncomputable def x_laws_eqLoan : Ctx (Tup r_laws_eqLoan × OutD) := { T := T, G := [], mvs := [], no := 0, n := 25, res := resOf T q_laws_eqLoan r_laws_eqLoan Try.f96.results.toList, loops := [], regs := [] }
theorem g_laws_eqLoan (k : Nat) : EnvOK Try.prog k x_laws_eqLoan.G := (EnvOK.nil mixed)
theorem h_laws_eqLoan (k : Nat) (x : Tup d_laws_eqLoan.ps) : d_laws_eqLoan.f (k + 1) x = fnK d_laws_eqLoan x_laws_eqLoan c_laws_eqLoan k x := by kernel_rfl
theorem z_laws_eqLoan (x : Tup d_laws_eqLoan.ps) : d_laws_eqLoan.f 0 x = none := by kernel_rfl
theorem l_laws_eqLoan (k : Nat) : LOK Try.prog x_laws_eqLoan k c_laws_eqLoan := LOK.by [] (by kernel_rfl) AllOK.nil
theorem s_laws_eqLoan (k : Nat) : SoundAt Try.prog k 96 d_laws_eqLoan.E := @fn_all Try.prog d_laws_eqLoan x_laws_eqLoan 96 Try.f96 c_laws_eqLoan (by kernel_rfl) (by kernel_rfl) (by kernel_rfl) Try.func96 (by kernel_rfl) (by kernel_rfl) (by kernel_rfl) T_ok g_laws_eqLoan l_laws_eqLoan z_laws_eqLoan h_laws_eqLoan k
end
end Go.Proofs.Ytcmndffpmjinlaa.Vs
