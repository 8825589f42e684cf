/- Functions of the program by plain functions, each with its contract. -/
import Derived.Test.YtkefbmaagdaodaaVsT
import Derived.Test.YtkefbmaagdaodaaVf0
import Derived.Test.YtkefbmaagdaodaaVf1
import Derived.Test.YtkefbmaagdaodaaVf2
import Derived.Test.YtkefbmaagdaodaaVf3
set_option maxRecDepth 100000
set_option linter.unusedVariables false
namespace Go.Proofs.Ytkefbmaagdaodaa.Vs
open Go.RowKit
noncomputable section
/-! function 24 -/
noncomputable def r_impl_PossibleFaults : List PK := [{ t := Ty.slice 87 (Ty.pair (Ty.int IntKind.i64) (Ty.pair (Ty.int IntKind.i64) (Ty.int IntKind.i64))) }, { t := Ty.bool }]
noncomputable def q_impl_PossibleFaults : List PK := [{ t := Ty.pair (Ty.int IntKind.i64) (Ty.pair (Ty.int IntKind.i64) (Ty.slice 123 (Ty.pair (Ty.int IntKind.i64) (Ty.int IntKind.i64)))), agg := true }]
noncomputable def to_impl_PossibleFaults (r : List (Int × Int × Int) × Bool) : Tup r_impl_PossibleFaults × OutD := ((r.1, r.2, ()), none)
noncomputable def of_impl_PossibleFaults : Tup r_impl_PossibleFaults × OutD → Option (List (Int × Int × Int) × Bool)
  | (a, none) => some (a.1, a.2.1)
  | _ => none
theorem to_of_impl_PossibleFaults : ∀ b r, of_impl_PossibleFaults b = some r → to_impl_PossibleFaults r = b := by
  rintro ⟨a, o⟩ r h
  cases o with
  | none => injection h with h; subst h; rfl
  | some _ => cases h
noncomputable def f_impl_PossibleFaults : Nat → Int × Int × List (Int × Int) → Option (List (Int × Int × Int) × Bool)
  | 0, _ => none
  | k + 1, p0 =>
    Option.bind (f_impl_IsBoard k (Prod.fst p0, Prod.fst (Prod.snd p0), Prod.snd (Prod.snd p0))) fun z0 => if (!z0) = true then some ([], false) else Option.bind (f_impl_possibleFaults k (Prod.fst p0, Prod.fst (Prod.snd p0), Prod.snd (Prod.snd p0))) fun z1 => some (z1, true)
noncomputable def d_impl_PossibleFaults : FnDef := .of q_impl_PossibleFaults r_impl_PossibleFaults (List (Int × Int × Int) × Bool) (fun k x => f_impl_PossibleFaults k x.1) to_impl_PossibleFaults of_impl_PossibleFaults to_of_impl_PossibleFaults
noncomputable def c_impl_PossibleFaults : Code := Try.f24.body.getD .skip
noncomputable def x_impl_PossibleFaults : Ctx (Tup r_impl_PossibleFaults × OutD) := { T := T, G := [(67, d_impl_IsBoard.E), (72, d_impl_possibleFaults.E)], mvs := [], no := 0, n := 9, res := resOf T q_impl_PossibleFaults r_impl_PossibleFaults Try.f24.results.toList, loops := [] }
theorem g_impl_PossibleFaults (k : Nat) : EnvOK Try.prog k x_impl_PossibleFaults.G := (EnvOK.cons (s_impl_IsBoard k) (EnvOK.cons (s_impl_possibleFaults k) (EnvOK.nil mixed)))
theorem h_impl_PossibleFaults (k : Nat) (x : Tup d_impl_PossibleFaults.ps) : d_impl_PossibleFaults.f (k + 1) x = fnK d_impl_PossibleFaults x_impl_PossibleFaults c_impl_PossibleFaults k x := by kernel_rfl
theorem z_impl_PossibleFaults (x : Tup d_impl_PossibleFaults.ps) : d_impl_PossibleFaults.f 0 x = none := by kernel_rfl
theorem l_impl_PossibleFaults (k : Nat) : LOK Try.prog x_impl_PossibleFaults k c_impl_PossibleFaults := LOK.by [] (by kernel_rfl) AllOK.nil
theorem s_impl_PossibleFaults (k : Nat) : SoundAt Try.prog k 24 d_impl_PossibleFaults.E := @fn_all Try.prog d_impl_PossibleFaults x_impl_PossibleFaults 24 Try.f24 c_impl_PossibleFaults (by kernel_rfl) (by kernel_rfl) (by kernel_rfl) Try.func24 (by kernel_rfl) (by kernel_rfl) (by kernel_rfl) T_ok g_impl_PossibleFaults l_impl_PossibleFaults z_impl_PossibleFaults h_impl_PossibleFaults k
/-! function 68 -/
noncomputable def r_impl_areFaults : List PK := [{ t := Ty.bool }]
noncomputable def q_impl_areFaults : List PK := [{ t := Ty.pair (Ty.int IntKind.i64) (Ty.pair (Ty.int IntKind.i64) (Ty.slice 123 (Ty.pair (Ty.int IntKind.i64) (Ty.int IntKind.i64)))), agg := true }, { t := Ty.slice 87 (Ty.pair (Ty.int IntKind.i64) (Ty.pair (Ty.int IntKind.i64) (Ty.int IntKind.i64))) }]
noncomputable def to_impl_areFaults (r : Bool) : Tup r_impl_areFaults × OutD := ((r, ()), none)
noncomputable def of_impl_areFaults : Tup r_impl_areFaults × OutD → Option (Bool)
  | (a, none) => some (a.1)
  | _ => none
theorem to_of_impl_areFaults : ∀ b r, of_impl_areFaults b = some r → to_impl_areFaults r = b := by
  rintro ⟨a, o⟩ r h
  cases o with
  | none => injection h with h; subst h; rfl
  | some _ => cases h
noncomputable def f_impl_areFaults_0 : Nat → Int → Int → List (Int × Int) → Int → List (Int × Int × Int) → Int → Int → Option (LR Unit Bool)
  | 0, _, _, _, _, _, _, _ => none
  | k + 1, b1_0, b1_1, b1_2, v5, v12, v13, v14 =>
    if decide (v14 < v13) = true then if 0 ≤ v14 then if v14 < (↑(List.length v12) : Int) then Option.bind (f_impl_onBoard k (b1_0, b1_1, b1_2) (Prod.fst (Prod.snd (List.getD v12 (Int.toNat v14) (0, 0, 0)))) (Prod.snd (Prod.snd (List.getD v12 (Int.toNat v14) (0, 0, 0))))) fun z0 => if (!z0) = true then some (LR.ret false) else if decide (wrap64 (wrap64 (Prod.fst (Prod.snd (List.getD v12 (Int.toNat v14) (0, 0, 0))) * b1_1) + Prod.snd (Prod.snd (List.getD v12 (Int.toNat v14) (0, 0, 0)))) ≤ v5) = true then some (LR.ret false) else if 0 ≤ wrap64 (wrap64 (Prod.fst (Prod.snd (List.getD v12 (Int.toNat v14) (0, 0, 0))) * b1_1) + Prod.snd (Prod.snd (List.getD v12 (Int.toNat v14) (0, 0, 0)))) then if wrap64 (wrap64 (Prod.fst (Prod.snd (List.getD v12 (Int.toNat v14) (0, 0, 0))) * b1_1) + Prod.snd (Prod.snd (List.getD v12 (Int.toNat v14) (0, 0, 0)))) < (↑(List.length b1_2) : Int) then Option.bind (f_impl_canHave k (Prod.fst (List.getD b1_2 (Int.toNat (wrap64 (wrap64 (Prod.fst (Prod.snd (List.getD v12 (Int.toNat v14) (0, 0, 0))) * b1_1) + Prod.snd (Prod.snd (List.getD v12 (Int.toNat v14) (0, 0, 0)))))) (0, 0)), Prod.snd (List.getD b1_2 (Int.toNat (wrap64 (wrap64 (Prod.fst (Prod.snd (List.getD v12 (Int.toNat v14) (0, 0, 0))) * b1_1) + Prod.snd (Prod.snd (List.getD v12 (Int.toNat v14) (0, 0, 0)))))) (0, 0))) (Prod.fst (List.getD v12 (Int.toNat v14) (0, 0, 0)))) fun z1 => if (!z1) = true then some (LR.ret false) else f_impl_areFaults_0 k b1_0 b1_1 b1_2 (wrap64 (wrap64 (Prod.fst (Prod.snd (List.getD v12 (Int.toNat v14) (0, 0, 0))) * b1_1) + Prod.snd (Prod.snd (List.getD v12 (Int.toNat v14) (0, 0, 0))))) v12 v13 (wrap64 (v14 + 1)) else none else none else none else none else some (LR.go ())
noncomputable def f_impl_areFaults_0i : Spec := { objs := [OSh.ro, OSh.box 32 [Sh.int IntKind.i64, Sh.int IntKind.i64, Sh.snap 0 (Ty.pair (Ty.int IntKind.i64) (Ty.int IntKind.i64))]], tmps := [(2, TSh.at (Sh.ptr 1 0)), (5, TSh.at (Sh.int IntKind.i64)), (12, TSh.at (Sh.snap 0 (Ty.pair (Ty.int IntKind.i64) (Ty.pair (Ty.int IntKind.i64) (Ty.int IntKind.i64))))), (13, TSh.at (Sh.int IntKind.i64)), (14, TSh.at (Sh.int IntKind.i64))] }
noncomputable def f_impl_areFaults_0o : Spec := { objs := [OSh.ro], tmps := [] }
noncomputable def f_impl_areFaults_0D : LoopDef (Tup r_impl_areFaults × OutD) := .rets f_impl_areFaults_0i f_impl_areFaults_0o (Unit) (Bool) (fun k x => f_impl_areFaults_0 k x.1.2.1.1 x.1.2.1.2.1 x.1.2.1.2.2.1 x.2.2.1 x.2.2.2.1 x.2.2.2.2.1 x.2.2.2.2.2.1) (fun z => (((), ()), (()))) (fun y => ()) (fun _ => rfl) to_impl_areFaults of_impl_areFaults to_of_impl_areFaults
noncomputable def f_impl_areFaults : Nat → Int × Int × List (Int × Int) → List (Int × Int × Int) → Option Bool
  | 0, _, _ => none
  | k + 1, p0, p1 =>
    if decide ((↑(List.length p1) : Int) > 4) = true then some false else Option.bind (f_impl_areFaults_0 k (Prod.fst p0) (Prod.fst (Prod.snd p0)) (Prod.snd (Prod.snd p0)) (-1) p1 (↑(List.length p1) : Int) 0) fun z2 => LR.on z2 (fun y2 => some true) fun r2 => some r2
noncomputable def d_impl_areFaults : FnDef := .of q_impl_areFaults r_impl_areFaults (Bool) (fun k x => f_impl_areFaults k x.1 x.2.1) to_impl_areFaults of_impl_areFaults to_of_impl_areFaults
noncomputable def c_impl_areFaults : Code := Try.f68.body.getD .skip
noncomputable def x_impl_areFaults : Ctx (Tup r_impl_areFaults × OutD) := { T := T, G := [(116, d_impl_onBoard.E), (117, d_impl_canHave.E)], mvs := [], no := 0, n := 49, res := resOf T q_impl_areFaults r_impl_areFaults Try.f68.results.toList, loops := [(0, f_impl_areFaults_0D.E)] }
theorem g_impl_areFaults (k : Nat) : EnvOK Try.prog k x_impl_areFaults.G := (EnvOK.cons (s_impl_onBoard k) (EnvOK.cons (s_impl_canHave k) (EnvOK.nil mixed)))
noncomputable def f_impl_areFaults_0B : Code := (findLoop 0 c_impl_areFaults).getD .skip
theorem f_impl_areFaults_0h (k : Nat) (x : f_impl_areFaults_0i.D) : f_impl_areFaults_0D.lp (k + 1) x = loopK x_impl_areFaults f_impl_areFaults_0D 0 f_impl_areFaults_0B k x := by kernel_rfl
theorem f_impl_areFaults_0l (k : Nat) : LOK Try.prog x_impl_areFaults k f_impl_areFaults_0B := LOK.by [] (by kernel_rfl) AllOK.nil
theorem f_impl_areFaults_0z (x : f_impl_areFaults_0i.D) : f_impl_areFaults_0D.lp 0 x = none := by kernel_rfl
theorem f_impl_areFaults_0ok (k : Nat) : EOK Try.prog x_impl_areFaults k f_impl_areFaults_0D.E (.block 0 (.loop f_impl_areFaults_0B)) := loop_ok T_ok g_impl_areFaults f_impl_areFaults_0z f_impl_areFaults_0h f_impl_areFaults_0l k
theorem h_impl_areFaults (k : Nat) (x : Tup d_impl_areFaults.ps) : d_impl_areFaults.f (k + 1) x = fnK d_impl_areFaults x_impl_areFaults c_impl_areFaults k x := by kernel_rfl
theorem z_impl_areFaults (x : Tup d_impl_areFaults.ps) : d_impl_areFaults.f 0 x = none := by kernel_rfl
theorem l_impl_areFaults (k : Nat) : LOK Try.prog x_impl_areFaults k c_impl_areFaults := LOK.by [(f_impl_areFaults_0D.E, .block 0 (.loop f_impl_areFaults_0B))] (by kernel_rfl) (AllOK.cons (f_impl_areFaults_0ok k) AllOK.nil)
theorem s_impl_areFaults (k : Nat) : SoundAt Try.prog k 68 d_impl_areFaults.E := @fn_all Try.prog d_impl_areFaults x_impl_areFaults 68 Try.f68 c_impl_areFaults (by kernel_rfl) (by kernel_rfl) (by kernel_rfl) Try.func68 (by kernel_rfl) (by kernel_rfl) (by kernel_rfl) T_ok g_impl_areFaults l_impl_areFaults z_impl_areFaults h_impl_areFaults k
end
end Go.Proofs.Ytkefbmaagdaodaa.Vs
