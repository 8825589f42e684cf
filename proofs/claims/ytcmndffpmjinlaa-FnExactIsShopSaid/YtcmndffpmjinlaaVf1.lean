/- Functions of the program by plain functions, each with its contract. -/
import Derived.Test.YtcmndffpmjinlaaVsT
import Derived.Test.YtcmndffpmjinlaaVf0
set_option maxRecDepth 100000
set_option linter.unusedVariables false
set_option linter.unusedSimpArgs false
namespace Go.Proofs.Ytcmndffpmjinlaa.Vs
open Go.RowKit
noncomputable section
/-! function 31 -/
noncomputable def r_laws_szShop : List PK := [{ t := Ty.int IntKind.i64 }]
noncomputable def q_laws_szShop : List PK := [{ t := Ty.pair (Ty.slice 3 (Ty.int IntKind.i64)) (Ty.slice 95 (Ty.pair (Ty.int IntKind.i64) (Ty.pair (Ty.int IntKind.i64) (Ty.pair (Ty.int IntKind.i64) (Ty.int IntKind.i64))))), agg := true }, { t := Ty.int IntKind.i64 }]
noncomputable def to_laws_szShop (r : Int) : Tup r_laws_szShop × OutD := ((r, ()), none)
noncomputable def of_laws_szShop : Tup r_laws_szShop × OutD → Option (Int)
  | (a, none) => some (a.1)
  | _ => none
theorem to_of_laws_szShop : ∀ b r, of_laws_szShop b = some r → to_laws_szShop r = b := by
  rintro ⟨a, o⟩ r h
  cases o with
  | none => injection h with h; subst h; rfl
  | some _ => cases h
noncomputable def f_laws_szShop : Nat → List Int × List (Int × Int × Int × Int) → Int → Option Int
  | 0, _, _ => none
  | k + 1, p0, p1 =>
    Option.bind (f_laws_szIntS k (Prod.fst p0) p1) fun z0 => if decide (z0 < 0) = true then some (-1) else Option.bind (f_laws_szLoanS k (Prod.snd p0) z0) fun z1 => if decide (z1 < 0) = true then some (-1) else some z1
noncomputable def d_laws_szShop : FnDef := .of q_laws_szShop r_laws_szShop (Int) (fun k x => f_laws_szShop k x.1 x.2.1) to_laws_szShop of_laws_szShop to_of_laws_szShop
noncomputable def c_laws_szShop : Code := Try.f31.body.getD .skip
noncomputable def x_laws_szShop : Ctx (Tup r_laws_szShop × OutD) := { T := T, G := [(66, d_laws_szIntS.E), (67, d_laws_szLoanS.E)], mvs := [], no := 0, n := 18, res := resOf T q_laws_szShop r_laws_szShop Try.f31.results.toList, loops := [], regs := [] }
theorem g_laws_szShop (k : Nat) : EnvOK Try.prog k x_laws_szShop.G := (EnvOK.cons (s_laws_szIntS k) (EnvOK.cons (s_laws_szLoanS k) (EnvOK.nil mixed)))
theorem h_laws_szShop (k : Nat) (x : Tup d_laws_szShop.ps) : d_laws_szShop.f (k + 1) x = fnK d_laws_szShop x_laws_szShop c_laws_szShop k x := by kernel_rfl
theorem z_laws_szShop (x : Tup d_laws_szShop.ps) : d_laws_szShop.f 0 x = none := by kernel_rfl
theorem l_laws_szShop (k : Nat) : LOK Try.prog x_laws_szShop k c_laws_szShop := LOK.by [] (by kernel_rfl) AllOK.nil
theorem s_laws_szShop (k : Nat) : SoundAt Try.prog k 31 d_laws_szShop.E := @fn_all Try.prog d_laws_szShop x_laws_szShop 31 Try.f31 c_laws_szShop (by kernel_rfl) (by kernel_rfl) (by kernel_rfl) Try.func31 (by kernel_rfl) (by kernel_rfl) (by kernel_rfl) T_ok g_laws_szShop l_laws_szShop z_laws_szShop h_laws_szShop k
/-! function 63 -/
noncomputable def r_spec_l1All : List PK := [{ t := Ty.bool }]
noncomputable def q_spec_l1All : List PK := [{ t := Ty.slice 3 (Ty.int IntKind.i64) }, { t := Ty.int IntKind.i64 }, { t := Ty.int IntKind.i64 }]
noncomputable def to_spec_l1All (r : Bool) : Tup r_spec_l1All × OutD := ((r, ()), none)
noncomputable def of_spec_l1All : Tup r_spec_l1All × OutD → Option (Bool)
  | (a, none) => some (a.1)
  | _ => none
theorem to_of_spec_l1All : ∀ b r, of_spec_l1All b = some r → to_spec_l1All r = b := by
  rintro ⟨a, o⟩ r h
  cases o with
  | none => injection h with h; subst h; rfl
  | some _ => cases h
noncomputable def f_spec_l1All_0 : Nat → Int → Int → List Int → Int → Int → Option (LR Unit Bool)
  | 0, _, _, _, _, _ => none
  | k + 1, v1, v2, v9, v10, v11 =>
    if decide (v11 < v10) = true then if 0 ≤ v11 then if v11 < (↑(List.length v9) : Int) then Option.bind (f_spec_l1In k (List.getD v9 (Int.toNat v11) 0) v1 v2) fun z0 => if (!z0) = true then some (LR.ret false) else f_spec_l1All_0 k v1 v2 v9 v10 (wrap64 (v11 + 1)) else none else none else some (LR.go ())
noncomputable def f_spec_l1All_0i : Spec := { objs := [OSh.ro], tmps := [(1, TSh.at (Sh.int IntKind.i64)), (2, TSh.at (Sh.int IntKind.i64)), (9, TSh.at (Sh.snap 0 (Ty.int IntKind.i64))), (10, TSh.at (Sh.int IntKind.i64)), (11, TSh.at (Sh.int IntKind.i64))] }
noncomputable def f_spec_l1All_0o : Spec := { objs := [OSh.ro], tmps := [] }
noncomputable def f_spec_l1All_0D : LoopDef (Tup r_spec_l1All × OutD) := .rets f_spec_l1All_0i f_spec_l1All_0o (Unit) (Bool) (fun k x => f_spec_l1All_0 k x.2.1 x.2.2.1 x.2.2.2.1 x.2.2.2.2.1 x.2.2.2.2.2.1) (fun z => (((), ()), (()))) (fun y => ()) (fun _ => rfl) to_spec_l1All of_spec_l1All to_of_spec_l1All
noncomputable def f_spec_l1All : Nat → List Int → Int → Int → Option Bool
  | 0, _, _, _ => none
  | k + 1, p0, p1, p2 =>
    Option.bind (f_spec_l1All_0 k p1 p2 p0 (↑(List.length p0) : Int) 0) fun z1 => LR.on z1 (fun y1 => some true) fun r1 => some r1
noncomputable def d_spec_l1All : FnDef := .of q_spec_l1All r_spec_l1All (Bool) (fun k x => f_spec_l1All k x.1 x.2.1 x.2.2.1) to_spec_l1All of_spec_l1All to_of_spec_l1All
noncomputable def c_spec_l1All : Code := Try.f63.body.getD .skip
noncomputable def x_spec_l1All : Ctx (Tup r_spec_l1All × OutD) := { T := T, G := [(55, d_spec_l1In.E)], mvs := [], no := 0, n := 21, res := resOf T q_spec_l1All r_spec_l1All Try.f63.results.toList, loops := [(0, f_spec_l1All_0D.E)], regs := [] }
theorem g_spec_l1All (k : Nat) : EnvOK Try.prog k x_spec_l1All.G := (EnvOK.cons (s_spec_l1In k) (EnvOK.nil mixed))
noncomputable def f_spec_l1All_0B : Code := (findLoop 0 c_spec_l1All).getD .skip
theorem f_spec_l1All_0h (k : Nat) (x : f_spec_l1All_0i.D) : f_spec_l1All_0D.lp (k + 1) x = loopK x_spec_l1All f_spec_l1All_0D 0 f_spec_l1All_0B k x := by kernel_rfl
theorem f_spec_l1All_0l (k : Nat) : LOK Try.prog x_spec_l1All k f_spec_l1All_0B := LOK.by [] (by kernel_rfl) AllOK.nil
theorem f_spec_l1All_0z (x : f_spec_l1All_0i.D) : f_spec_l1All_0D.lp 0 x = none := by kernel_rfl
theorem f_spec_l1All_0ok (k : Nat) : EOK Try.prog x_spec_l1All k f_spec_l1All_0D.E (.block 0 (.loop f_spec_l1All_0B)) := loop_ok T_ok g_spec_l1All f_spec_l1All_0z f_spec_l1All_0h f_spec_l1All_0l k
theorem h_spec_l1All (k : Nat) (x : Tup d_spec_l1All.ps) : d_spec_l1All.f (k + 1) x = fnK d_spec_l1All x_spec_l1All c_spec_l1All k x := by kernel_rfl
theorem z_spec_l1All (x : Tup d_spec_l1All.ps) : d_spec_l1All.f 0 x = none := by kernel_rfl
theorem l_spec_l1All (k : Nat) : LOK Try.prog x_spec_l1All k c_spec_l1All := LOK.by [(f_spec_l1All_0D.E, .block 0 (.loop f_spec_l1All_0B))] (by kernel_rfl) (AllOK.cons (f_spec_l1All_0ok k) AllOK.nil)
theorem s_spec_l1All (k : Nat) : SoundAt Try.prog k 63 d_spec_l1All.E := @fn_all Try.prog d_spec_l1All x_spec_l1All 63 Try.f63 c_spec_l1All (by kernel_rfl) (by kernel_rfl) (by kernel_rfl) Try.func63 (by kernel_rfl) (by kernel_rfl) (by kernel_rfl) T_ok g_spec_l1All l_spec_l1All z_spec_l1All h_spec_l1All k
/-! function 69 -/
noncomputable def r_laws_toLoanS : List PK := [{ t := Ty.slice 81 (Ty.pair (Ty.int IntKind.i64) (Ty.pair (Ty.int IntKind.i64) (Ty.pair (Ty.int IntKind.i64) (Ty.int IntKind.i64)))) }]
noncomputable def q_laws_toLoanS : List PK := [{ t := Ty.slice 95 (Ty.pair (Ty.int IntKind.i64) (Ty.pair (Ty.int IntKind.i64) (Ty.pair (Ty.int IntKind.i64) (Ty.int IntKind.i64)))) }]
noncomputable def to_laws_toLoanS (r : List (Int × Int × Int × Int)) : Tup r_laws_toLoanS × OutD := ((r, ()), none)
noncomputable def of_laws_toLoanS : Tup r_laws_toLoanS × OutD → Option (List (Int × Int × Int × Int))
  | (a, none) => some (a.1)
  | _ => none
theorem to_of_laws_toLoanS : ∀ b r, of_laws_toLoanS b = some r → to_laws_toLoanS r = b := by
  rintro ⟨a, o⟩ r h
  cases o with
  | none => injection h with h; subst h; rfl
  | some _ => cases h
noncomputable def f_laws_toLoanS_0 : Nat → List (Int × Int × Int × Int) → List (Int × Int × Int × Int) → Int → Option (List (Int × Int × Int × Int))
  | 0, _, _, _ => none
  | k + 1, o1, v0, v4 =>
    if decide (v4 < (↑(List.length v0) : Int)) = true then if 0 ≤ v4 then if v4 < (↑(List.length v0) : Int) then Option.bind (f_laws_toLoan k (Prod.fst (List.getD v0 (Int.toNat v4) (0, 0, 0, 0)), Prod.fst (Prod.snd (List.getD v0 (Int.toNat v4) (0, 0, 0, 0))), Prod.fst (Prod.snd (Prod.snd (List.getD v0 (Int.toNat v4) (0, 0, 0, 0)))), Prod.snd (Prod.snd (Prod.snd (List.getD v0 (Int.toNat v4) (0, 0, 0, 0)))))) fun z0 => if 0 ≤ v4 then if v4 < (↑(List.length o1) : Int) then f_laws_toLoanS_0 k (List.set o1 (Int.toNat v4) (Prod.fst z0, Prod.fst (Prod.snd z0), Prod.fst (Prod.snd (Prod.snd z0)), Prod.snd (Prod.snd (Prod.snd z0)))) v0 (wrap64 (v4 + 1)) else none else none else none else none else some o1
noncomputable def f_laws_toLoanS_0i : Spec := { objs := [OSh.ro, OSh.row true 81 (Ty.pair (Ty.int IntKind.i64) (Ty.pair (Ty.int IntKind.i64) (Ty.pair (Ty.int IntKind.i64) (Ty.int IntKind.i64))))], tmps := [(0, TSh.at (Sh.snap 0 (Ty.pair (Ty.int IntKind.i64) (Ty.pair (Ty.int IntKind.i64) (Ty.pair (Ty.int IntKind.i64) (Ty.int IntKind.i64)))))), (3, TSh.at (Sh.sl 1)), (4, TSh.at (Sh.int IntKind.i64))] }
noncomputable def f_laws_toLoanS_0o : Spec := { objs := [OSh.ro, OSh.row true 81 (Ty.pair (Ty.int IntKind.i64) (Ty.pair (Ty.int IntKind.i64) (Ty.pair (Ty.int IntKind.i64) (Ty.int IntKind.i64))))], tmps := [(3, TSh.at (Sh.sl 1))] }
noncomputable def f_laws_toLoanS_0D : LoopDef (Tup r_laws_toLoanS × OutD) := .plain f_laws_toLoanS_0i f_laws_toLoanS_0o (List (Int × Int × Int × Int)) (fun k x => f_laws_toLoanS_0 k x.1.2.1 x.2.1 x.2.2.2.1) (fun z => (((), z, ()), ((), ()))) (fun y => (y.1.2.1)) (fun _ => rfl)
noncomputable def f_laws_toLoanS : Nat → List (Int × Int × Int × Int) → Option (List (Int × Int × Int × Int))
  | 0, _ => none
  | k + 1, p0 =>
    if Int.toNat (↑(List.length p0) : Int) * 32 ≤ 281474976710656 then Option.bind (f_laws_toLoanS_0 k (List.replicate (Int.toNat (↑(List.length p0) : Int)) (0, 0, 0, 0)) p0 0) fun z1 => some z1 else none
noncomputable def d_laws_toLoanS : FnDef := .of q_laws_toLoanS r_laws_toLoanS (List (Int × Int × Int × Int)) (fun k x => f_laws_toLoanS k x.1) to_laws_toLoanS of_laws_toLoanS to_of_laws_toLoanS
noncomputable def c_laws_toLoanS : Code := Try.f69.body.getD .skip
noncomputable def x_laws_toLoanS : Ctx (Tup r_laws_toLoanS × OutD) := { T := T, G := [(94, d_laws_toLoan.E)], mvs := [], no := 0, n := 23, res := resOf T q_laws_toLoanS r_laws_toLoanS Try.f69.results.toList, loops := [(0, f_laws_toLoanS_0D.E)], regs := [] }
theorem g_laws_toLoanS (k : Nat) : EnvOK Try.prog k x_laws_toLoanS.G := (EnvOK.cons (s_laws_toLoan k) (EnvOK.nil mixed))
noncomputable def f_laws_toLoanS_0B : Code := (findLoop 0 c_laws_toLoanS).getD .skip
theorem f_laws_toLoanS_0h (k : Nat) (x : f_laws_toLoanS_0i.D) : f_laws_toLoanS_0D.lp (k + 1) x = loopK x_laws_toLoanS f_laws_toLoanS_0D 0 f_laws_toLoanS_0B k x := by kernel_rfl
theorem f_laws_toLoanS_0l (k : Nat) : LOK Try.prog x_laws_toLoanS k f_laws_toLoanS_0B := LOK.by [] (by kernel_rfl) AllOK.nil
theorem f_laws_toLoanS_0z (x : f_laws_toLoanS_0i.D) : f_laws_toLoanS_0D.lp 0 x = none := by kernel_rfl
theorem f_laws_toLoanS_0ok (k : Nat) : EOK Try.prog x_laws_toLoanS k f_laws_toLoanS_0D.E (.block 0 (.loop f_laws_toLoanS_0B)) := loop_ok T_ok g_laws_toLoanS f_laws_toLoanS_0z f_laws_toLoanS_0h f_laws_toLoanS_0l k
theorem h_laws_toLoanS (k : Nat) (x : Tup d_laws_toLoanS.ps) : d_laws_toLoanS.f (k + 1) x = fnK d_laws_toLoanS x_laws_toLoanS c_laws_toLoanS k x := by kernel_rfl
theorem z_laws_toLoanS (x : Tup d_laws_toLoanS.ps) : d_laws_toLoanS.f 0 x = none := by kernel_rfl
theorem l_laws_toLoanS (k : Nat) : LOK Try.prog x_laws_toLoanS k c_laws_toLoanS := LOK.by [(f_laws_toLoanS_0D.E, .block 0 (.loop f_laws_toLoanS_0B))] (by kernel_rfl) (AllOK.cons (f_laws_toLoanS_0ok k) AllOK.nil)
theorem s_laws_toLoanS (k : Nat) : SoundAt Try.prog k 69 d_laws_toLoanS.E := @fn_all Try.prog d_laws_toLoanS x_laws_toLoanS 69 Try.f69 c_laws_toLoanS (by kernel_rfl) (by kernel_rfl) (by kernel_rfl) Try.func69 (by kernel_rfl) (by kernel_rfl) (by kernel_rfl) T_ok g_laws_toLoanS l_laws_toLoanS z_laws_toLoanS h_laws_toLoanS k
/-! function 70 -/
noncomputable def r_impl_isLoan : List PK := [{ t := Ty.bool }]
noncomputable def q_impl_isLoan : List PK := [{ t := Ty.pair (Ty.int IntKind.i64) (Ty.pair (Ty.int IntKind.i64) (Ty.pair (Ty.int IntKind.i64) (Ty.int IntKind.i64))), agg := true }]
noncomputable def to_impl_isLoan (r : Bool) : Tup r_impl_isLoan × OutD := ((r, ()), none)
noncomputable def of_impl_isLoan : Tup r_impl_isLoan × OutD → Option (Bool)
  | (a, none) => some (a.1)
  | _ => none
theorem to_of_impl_isLoan : ∀ b r, of_impl_isLoan b = some r → to_impl_isLoan r = b := by
  rintro ⟨a, o⟩ r h
  cases o with
  | none => injection h with h; subst h; rfl
  | some _ => cases h
noncomputable def f_impl_isLoan : Nat → Int × Int × Int × Int → Option Bool
  | 0, _ => none
  | k + 1, p0 =>
    if decide (Prod.fst p0 ≥ 1) = true then if decide (Prod.fst p0 ≤ 99) = true then if decide (Prod.fst (Prod.snd p0) ≥ 1) = true then if decide (Prod.fst (Prod.snd p0) ≤ 7) = true then if decide (Prod.fst (Prod.snd (Prod.snd p0)) ≥ 1) = true then if decide (Prod.fst (Prod.snd (Prod.snd p0)) ≤ 99) = true then Option.bind (f_impl_isDay k (Prod.snd (Prod.snd (Prod.snd p0)))) fun z0 => some z0 else some false else some false else some false else some false else some false else some false
noncomputable def d_impl_isLoan : FnDef := .of q_impl_isLoan r_impl_isLoan (Bool) (fun k x => f_impl_isLoan k x.1) to_impl_isLoan of_impl_isLoan to_of_impl_isLoan
noncomputable def c_impl_isLoan : Code := Try.f70.body.getD .skip
noncomputable def x_impl_isLoan : Ctx (Tup r_impl_isLoan × OutD) := { T := T, G := [(95, d_impl_isDay.E)], mvs := [], no := 0, n := 36, res := resOf T q_impl_isLoan r_impl_isLoan Try.f70.results.toList, loops := [], regs := [] }
theorem g_impl_isLoan (k : Nat) : EnvOK Try.prog k x_impl_isLoan.G := (EnvOK.cons (s_impl_isDay k) (EnvOK.nil mixed))
theorem h_impl_isLoan (k : Nat) (x : Tup d_impl_isLoan.ps) : d_impl_isLoan.f (k + 1) x = fnK d_impl_isLoan x_impl_isLoan c_impl_isLoan k x := by kernel_rfl
theorem z_impl_isLoan (x : Tup d_impl_isLoan.ps) : d_impl_isLoan.f 0 x = none := by kernel_rfl
theorem l_impl_isLoan (k : Nat) : LOK Try.prog x_impl_isLoan k c_impl_isLoan := LOK.by [] (by kernel_rfl) AllOK.nil
theorem s_impl_isLoan (k : Nat) : SoundAt Try.prog k 70 d_impl_isLoan.E := @fn_all Try.prog d_impl_isLoan x_impl_isLoan 70 Try.f70 c_impl_isLoan (by kernel_rfl) (by kernel_rfl) (by kernel_rfl) Try.func70 (by kernel_rfl) (by kernel_rfl) (by kernel_rfl) T_ok g_impl_isLoan l_impl_isLoan z_impl_isLoan h_impl_isLoan k
/-! function 72 -/
noncomputable def r_laws_eqLoanS : List PK := [{ t := Ty.bool }]
noncomputable def q_laws_eqLoanS : List PK := [{ t := Ty.slice 81 (Ty.pair (Ty.int IntKind.i64) (Ty.pair (Ty.int IntKind.i64) (Ty.pair (Ty.int IntKind.i64) (Ty.int IntKind.i64)))) }, { t := Ty.slice 81 (Ty.pair (Ty.int IntKind.i64) (Ty.pair (Ty.int IntKind.i64) (Ty.pair (Ty.int IntKind.i64) (Ty.int IntKind.i64)))) }]
noncomputable def to_laws_eqLoanS (r : Bool) : Tup r_laws_eqLoanS × OutD := ((r, ()), none)
noncomputable def of_laws_eqLoanS : Tup r_laws_eqLoanS × OutD → Option (Bool)
  | (a, none) => some (a.1)
  | _ => none
theorem to_of_laws_eqLoanS : ∀ b r, of_laws_eqLoanS b = some r → to_laws_eqLoanS r = b := by
  rintro ⟨a, o⟩ r h
  cases o with
  | none => injection h with h; subst h; rfl
  | some _ => cases h
noncomputable def f_laws_eqLoanS_0 : Nat → List (Int × Int × Int × Int) → List (Int × Int × Int × Int) → Int → Option (LR Unit Bool)
  | 0, _, _, _ => none
  | k + 1, v0, v1, v5 =>
    if decide (v5 < (↑(List.length v0) : Int)) = true then if 0 ≤ v5 then if v5 < (↑(List.length v0) : Int) then if 0 ≤ v5 then if v5 < (↑(List.length v1) : Int) then Option.bind (f_laws_eqLoan k (Prod.fst (List.getD v0 (Int.toNat v5) (0, 0, 0, 0)), Prod.fst (Prod.snd (List.getD v0 (Int.toNat v5) (0, 0, 0, 0))), Prod.fst (Prod.snd (Prod.snd (List.getD v0 (Int.toNat v5) (0, 0, 0, 0)))), Prod.snd (Prod.snd (Prod.snd (List.getD v0 (Int.toNat v5) (0, 0, 0, 0))))) (Prod.fst (List.getD v1 (Int.toNat v5) (0, 0, 0, 0)), Prod.fst (Prod.snd (List.getD v1 (Int.toNat v5) (0, 0, 0, 0))), Prod.fst (Prod.snd (Prod.snd (List.getD v1 (Int.toNat v5) (0, 0, 0, 0)))), Prod.snd (Prod.snd (Prod.snd (List.getD v1 (Int.toNat v5) (0, 0, 0, 0)))))) fun z0 => if (!z0) = true then some (LR.ret false) else f_laws_eqLoanS_0 k v0 v1 (wrap64 (v5 + 1)) else none else none else none else none else some (LR.go ())
noncomputable def f_laws_eqLoanS_0i : Spec := { objs := [OSh.ro], tmps := [(0, TSh.at (Sh.snap 0 (Ty.pair (Ty.int IntKind.i64) (Ty.pair (Ty.int IntKind.i64) (Ty.pair (Ty.int IntKind.i64) (Ty.int IntKind.i64)))))), (1, TSh.at (Sh.snap 0 (Ty.pair (Ty.int IntKind.i64) (Ty.pair (Ty.int IntKind.i64) (Ty.pair (Ty.int IntKind.i64) (Ty.int IntKind.i64)))))), (5, TSh.at (Sh.int IntKind.i64))] }
noncomputable def f_laws_eqLoanS_0o : Spec := { objs := [OSh.ro], tmps := [] }
noncomputable def f_laws_eqLoanS_0D : LoopDef (Tup r_laws_eqLoanS × OutD) := .rets f_laws_eqLoanS_0i f_laws_eqLoanS_0o (Unit) (Bool) (fun k x => f_laws_eqLoanS_0 k x.2.1 x.2.2.1 x.2.2.2.1) (fun z => (((), ()), (()))) (fun y => ()) (fun _ => rfl) to_laws_eqLoanS of_laws_eqLoanS to_of_laws_eqLoanS
noncomputable def f_laws_eqLoanS : Nat → List (Int × Int × Int × Int) → List (Int × Int × Int × Int) → Option Bool
  | 0, _, _ => none
  | k + 1, p0, p1 =>
    if decide ((↑(List.length p0) : Int) ≠ (↑(List.length p1) : Int)) = true then some false else Option.bind (f_laws_eqLoanS_0 k p0 p1 0) fun z1 => LR.on z1 (fun y1 => some true) fun r1 => some r1
noncomputable def d_laws_eqLoanS : FnDef := .of q_laws_eqLoanS r_laws_eqLoanS (Bool) (fun k x => f_laws_eqLoanS k x.1 x.2.1) to_laws_eqLoanS of_laws_eqLoanS to_of_laws_eqLoanS
noncomputable def c_laws_eqLoanS : Code := Try.f72.body.getD .skip
noncomputable def x_laws_eqLoanS : Ctx (Tup r_laws_eqLoanS × OutD) := { T := T, G := [(96, d_laws_eqLoan.E)], mvs := [], no := 0, n := 27, res := resOf T q_laws_eqLoanS r_laws_eqLoanS Try.f72.results.toList, loops := [(0, f_laws_eqLoanS_0D.E)], regs := [] }
theorem g_laws_eqLoanS (k : Nat) : EnvOK Try.prog k x_laws_eqLoanS.G := (EnvOK.cons (s_laws_eqLoan k) (EnvOK.nil mixed))
noncomputable def f_laws_eqLoanS_0B : Code := (findLoop 0 c_laws_eqLoanS).getD .skip
theorem f_laws_eqLoanS_0h (k : Nat) (x : f_laws_eqLoanS_0i.D) : f_laws_eqLoanS_0D.lp (k + 1) x = loopK x_laws_eqLoanS f_laws_eqLoanS_0D 0 f_laws_eqLoanS_0B k x := by kernel_rfl
theorem f_laws_eqLoanS_0l (k : Nat) : LOK Try.prog x_laws_eqLoanS k f_laws_eqLoanS_0B := LOK.by [] (by kernel_rfl) AllOK.nil
theorem f_laws_eqLoanS_0z (x : f_laws_eqLoanS_0i.D) : f_laws_eqLoanS_0D.lp 0 x = none := by kernel_rfl
theorem f_laws_eqLoanS_0ok (k : Nat) : EOK Try.prog x_laws_eqLoanS k f_laws_eqLoanS_0D.E (.block 0 (.loop f_laws_eqLoanS_0B)) := loop_ok T_ok g_laws_eqLoanS f_laws_eqLoanS_0z f_laws_eqLoanS_0h f_laws_eqLoanS_0l k
theorem h_laws_eqLoanS (k : Nat) (x : Tup d_laws_eqLoanS.ps) : d_laws_eqLoanS.f (k + 1) x = fnK d_laws_eqLoanS x_laws_eqLoanS c_laws_eqLoanS k x := by kernel_rfl
theorem z_laws_eqLoanS (x : Tup d_laws_eqLoanS.ps) : d_laws_eqLoanS.f 0 x = none := by kernel_rfl
theorem l_laws_eqLoanS (k : Nat) : LOK Try.prog x_laws_eqLoanS k c_laws_eqLoanS := LOK.by [(f_laws_eqLoanS_0D.E, .block 0 (.loop f_laws_eqLoanS_0B))] (by kernel_rfl) (AllOK.cons (f_laws_eqLoanS_0ok k) AllOK.nil)
theorem s_laws_eqLoanS (k : Nat) : SoundAt Try.prog k 72 d_laws_eqLoanS.E := @fn_all Try.prog d_laws_eqLoanS x_laws_eqLoanS 72 Try.f72 c_laws_eqLoanS (by kernel_rfl) (by kernel_rfl) (by kernel_rfl) Try.func72 (by kernel_rfl) (by kernel_rfl) (by kernel_rfl) T_ok g_laws_eqLoanS l_laws_eqLoanS z_laws_eqLoanS h_laws_eqLoanS k
/-! function 92 -/
noncomputable def r_spec_psLoan : List PK := [{ t := Ty.bool }]
noncomputable def q_spec_psLoan : List PK := [{ t := Ty.pair (Ty.int IntKind.i64) (Ty.pair (Ty.int IntKind.i64) (Ty.pair (Ty.int IntKind.i64) (Ty.int IntKind.i64))), agg := true }]
noncomputable def to_spec_psLoan (r : Bool) : Tup r_spec_psLoan × OutD := ((r, ()), none)
noncomputable def of_spec_psLoan : Tup r_spec_psLoan × OutD → Option (Bool)
  | (a, none) => some (a.1)
  | _ => none
theorem to_of_spec_psLoan : ∀ b r, of_spec_psLoan b = some r → to_spec_psLoan r = b := by
  rintro ⟨a, o⟩ r h
  cases o with
  | none => injection h with h; subst h; rfl
  | some _ => cases h
noncomputable def f_spec_psLoan : Nat → Int × Int × Int × Int → Option Bool
  | 0, _ => none
  | k + 1, p0 =>
    Option.bind (f_spec_l1In k (Prod.fst p0) 1 99) fun z0 => if z0 = true then Option.bind (f_spec_l1In k (Prod.fst (Prod.snd p0)) 1 7) fun z1 => if z1 = true then Option.bind (f_spec_l1In k (Prod.fst (Prod.snd (Prod.snd p0))) 1 99) fun z2 => if z2 = true then Option.bind (f_spec_l1In k (Prod.snd (Prod.snd (Prod.snd p0))) 0 999) fun z3 => some z3 else some false else some false else some false
noncomputable def d_spec_psLoan : FnDef := .of q_spec_psLoan r_spec_psLoan (Bool) (fun k x => f_spec_psLoan k x.1) to_spec_psLoan of_spec_psLoan to_of_spec_psLoan
noncomputable def c_spec_psLoan : Code := Try.f92.body.getD .skip
noncomputable def x_spec_psLoan : Ctx (Tup r_spec_psLoan × OutD) := { T := T, G := [(55, d_spec_l1In.E)], mvs := [], no := 0, n := 21, res := resOf T q_spec_psLoan r_spec_psLoan Try.f92.results.toList, loops := [], regs := [] }
theorem g_spec_psLoan (k : Nat) : EnvOK Try.prog k x_spec_psLoan.G := (EnvOK.cons (s_spec_l1In k) (EnvOK.nil mixed))
theorem h_spec_psLoan (k : Nat) (x : Tup d_spec_psLoan.ps) : d_spec_psLoan.f (k + 1) x = fnK d_spec_psLoan x_spec_psLoan c_spec_psLoan k x := by kernel_rfl
theorem z_spec_psLoan (x : Tup d_spec_psLoan.ps) : d_spec_psLoan.f 0 x = none := by kernel_rfl
theorem l_spec_psLoan (k : Nat) : LOK Try.prog x_spec_psLoan k c_spec_psLoan := LOK.by [] (by kernel_rfl) AllOK.nil
theorem s_spec_psLoan (k : Nat) : SoundAt Try.prog k 92 d_spec_psLoan.E := @fn_all Try.prog d_spec_psLoan x_spec_psLoan 92 Try.f92 c_spec_psLoan (by kernel_rfl) (by kernel_rfl) (by kernel_rfl) Try.func92 (by kernel_rfl) (by kernel_rfl) (by kernel_rfl) T_ok g_spec_psLoan l_spec_psLoan z_spec_psLoan h_spec_psLoan k
end
end Go.Proofs.Ytcmndffpmjinlaa.Vs
