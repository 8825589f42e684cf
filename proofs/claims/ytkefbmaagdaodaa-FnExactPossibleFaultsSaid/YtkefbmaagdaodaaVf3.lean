/- Functions of the program by plain functions, each with its contract. -/
import Derived.Test.YtkefbmaagdaodaaVsT
import Derived.Test.YtkefbmaagdaodaaVf0
import Derived.Test.YtkefbmaagdaodaaVf1
import Derived.Test.YtkefbmaagdaodaaVf2
set_option maxRecDepth 100000
set_option linter.unusedVariables false
namespace Go.Proofs.Ytkefbmaagdaodaa.Vs
open Go.RowKit
noncomputable section
/-! function 17 -/
noncomputable def r_spec_AreFaults : List PK := [{ t := Ty.bool }, { t := Ty.bool }]
noncomputable def q_spec_AreFaults : List PK := [{ t := Ty.pair (Ty.int IntKind.i64) (Ty.pair (Ty.int IntKind.i64) (Ty.slice 123 (Ty.pair (Ty.int IntKind.i64) (Ty.int IntKind.i64)))), agg := true }, { t := Ty.slice 87 (Ty.pair (Ty.int IntKind.i64) (Ty.pair (Ty.int IntKind.i64) (Ty.int IntKind.i64))) }]
noncomputable def to_spec_AreFaults (r : Bool × Bool) : Tup r_spec_AreFaults × OutD := ((r.1, r.2, ()), none)
noncomputable def of_spec_AreFaults : Tup r_spec_AreFaults × OutD → Option (Bool × Bool)
  | (a, none) => some (a.1, a.2.1)
  | _ => none
theorem to_of_spec_AreFaults : ∀ b r, of_spec_AreFaults b = some r → to_spec_AreFaults r = b := by
  rintro ⟨a, o⟩ r h
  cases o with
  | none => injection h with h; subst h; rfl
  | some _ => cases h
noncomputable def f_spec_AreFaults : Nat → Int × Int × List (Int × Int) → List (Int × Int × Int) → Option (Bool × Bool)
  | 0, _, _ => none
  | k + 1, p0, p1 =>
    Option.bind (f_spec_boGood k (Prod.fst p0, Prod.fst (Prod.snd p0), Prod.snd (Prod.snd p0))) fun z0 => if (!z0) = true then some (false, false) else Option.bind (f_spec_faGood k (Prod.fst p0, Prod.fst (Prod.snd p0), Prod.snd (Prod.snd p0)) p1) fun z1 => some (z1, true)
noncomputable def d_spec_AreFaults : FnDef := .of q_spec_AreFaults r_spec_AreFaults (Bool × Bool) (fun k x => f_spec_AreFaults k x.1 x.2.1) to_spec_AreFaults of_spec_AreFaults to_of_spec_AreFaults
noncomputable def c_spec_AreFaults : Code := Try.f17.body.getD .skip
noncomputable def x_spec_AreFaults : Ctx (Tup r_spec_AreFaults × OutD) := { T := T, G := [(63, d_spec_boGood.E), (64, d_spec_faGood.E)], mvs := [], no := 0, n := 12, res := resOf T q_spec_AreFaults r_spec_AreFaults Try.f17.results.toList, loops := [] }
theorem g_spec_AreFaults (k : Nat) : EnvOK Try.prog k x_spec_AreFaults.G := (EnvOK.cons (s_spec_boGood k) (EnvOK.cons (s_spec_faGood k) (EnvOK.nil mixed)))
theorem h_spec_AreFaults (k : Nat) (x : Tup d_spec_AreFaults.ps) : d_spec_AreFaults.f (k + 1) x = fnK d_spec_AreFaults x_spec_AreFaults c_spec_AreFaults k x := by kernel_rfl
theorem z_spec_AreFaults (x : Tup d_spec_AreFaults.ps) : d_spec_AreFaults.f 0 x = none := by kernel_rfl
theorem l_spec_AreFaults (k : Nat) : LOK Try.prog x_spec_AreFaults k c_spec_AreFaults := LOK.by [] (by kernel_rfl) AllOK.nil
theorem s_spec_AreFaults (k : Nat) : SoundAt Try.prog k 17 d_spec_AreFaults.E := @fn_all Try.prog d_spec_AreFaults x_spec_AreFaults 17 Try.f17 c_spec_AreFaults (by kernel_rfl) (by kernel_rfl) (by kernel_rfl) Try.func17 (by kernel_rfl) (by kernel_rfl) (by kernel_rfl) T_ok g_spec_AreFaults l_spec_AreFaults z_spec_AreFaults h_spec_AreFaults k
/-! function 23 -/
noncomputable def r_spec_PossibleFaults : List PK := [{ t := Ty.slice 87 (Ty.pair (Ty.int IntKind.i64) (Ty.pair (Ty.int IntKind.i64) (Ty.int IntKind.i64))) }, { t := Ty.bool }]
noncomputable def q_spec_PossibleFaults : List PK := [{ t := Ty.pair (Ty.int IntKind.i64) (Ty.pair (Ty.int IntKind.i64) (Ty.slice 123 (Ty.pair (Ty.int IntKind.i64) (Ty.int IntKind.i64)))), agg := true }]
noncomputable def to_spec_PossibleFaults (r : List (Int × Int × Int) × Bool) : Tup r_spec_PossibleFaults × OutD := ((r.1, r.2, ()), none)
noncomputable def of_spec_PossibleFaults : Tup r_spec_PossibleFaults × OutD → Option (List (Int × Int × Int) × Bool)
  | (a, none) => some (a.1, a.2.1)
  | _ => none
theorem to_of_spec_PossibleFaults : ∀ b r, of_spec_PossibleFaults b = some r → to_spec_PossibleFaults r = b := by
  rintro ⟨a, o⟩ r h
  cases o with
  | none => injection h with h; subst h; rfl
  | some _ => cases h
noncomputable def f_spec_PossibleFaults : Nat → Int × Int × List (Int × Int) → Option (List (Int × Int × Int) × Bool)
  | 0, _ => none
  | k + 1, p0 =>
    Option.bind (f_spec_boGood k (Prod.fst p0, Prod.fst (Prod.snd p0), Prod.snd (Prod.snd p0))) fun z0 => if (!z0) = true then some ([], false) else Option.bind (f_spec_faPossible k (Prod.fst p0, Prod.fst (Prod.snd p0), Prod.snd (Prod.snd p0))) fun z1 => some (z1, true)
noncomputable def d_spec_PossibleFaults : FnDef := .of q_spec_PossibleFaults r_spec_PossibleFaults (List (Int × Int × Int) × Bool) (fun k x => f_spec_PossibleFaults k x.1) to_spec_PossibleFaults of_spec_PossibleFaults to_of_spec_PossibleFaults
noncomputable def c_spec_PossibleFaults : Code := Try.f23.body.getD .skip
noncomputable def x_spec_PossibleFaults : Ctx (Tup r_spec_PossibleFaults × OutD) := { T := T, G := [(63, d_spec_boGood.E), (71, d_spec_faPossible.E)], mvs := [], no := 0, n := 9, res := resOf T q_spec_PossibleFaults r_spec_PossibleFaults Try.f23.results.toList, loops := [] }
theorem g_spec_PossibleFaults (k : Nat) : EnvOK Try.prog k x_spec_PossibleFaults.G := (EnvOK.cons (s_spec_boGood k) (EnvOK.cons (s_spec_faPossible k) (EnvOK.nil mixed)))
theorem h_spec_PossibleFaults (k : Nat) (x : Tup d_spec_PossibleFaults.ps) : d_spec_PossibleFaults.f (k + 1) x = fnK d_spec_PossibleFaults x_spec_PossibleFaults c_spec_PossibleFaults k x := by kernel_rfl
theorem z_spec_PossibleFaults (x : Tup d_spec_PossibleFaults.ps) : d_spec_PossibleFaults.f 0 x = none := by kernel_rfl
theorem l_spec_PossibleFaults (k : Nat) : LOK Try.prog x_spec_PossibleFaults k c_spec_PossibleFaults := LOK.by [] (by kernel_rfl) AllOK.nil
theorem s_spec_PossibleFaults (k : Nat) : SoundAt Try.prog k 23 d_spec_PossibleFaults.E := @fn_all Try.prog d_spec_PossibleFaults x_spec_PossibleFaults 23 Try.f23 c_spec_PossibleFaults (by kernel_rfl) (by kernel_rfl) (by kernel_rfl) Try.func23 (by kernel_rfl) (by kernel_rfl) (by kernel_rfl) T_ok g_spec_PossibleFaults l_spec_PossibleFaults z_spec_PossibleFaults h_spec_PossibleFaults k
/-! function 72 -/
noncomputable def r_impl_possibleFaults : List PK := [{ t := Ty.slice 87 (Ty.pair (Ty.int IntKind.i64) (Ty.pair (Ty.int IntKind.i64) (Ty.int IntKind.i64))) }]
noncomputable def q_impl_possibleFaults : List PK := [{ t := Ty.pair (Ty.int IntKind.i64) (Ty.pair (Ty.int IntKind.i64) (Ty.slice 123 (Ty.pair (Ty.int IntKind.i64) (Ty.int IntKind.i64)))), agg := true }]
noncomputable def to_impl_possibleFaults (r : List (Int × Int × Int)) : Tup r_impl_possibleFaults × OutD := ((r, ()), none)
noncomputable def of_impl_possibleFaults : Tup r_impl_possibleFaults × OutD → Option (List (Int × Int × Int))
  | (a, none) => some (a.1)
  | _ => none
theorem to_of_impl_possibleFaults : ∀ b r, of_impl_possibleFaults b = some r → to_impl_possibleFaults r = b := by
  rintro ⟨a, o⟩ r h
  cases o with
  | none => injection h with h; subst h; rfl
  | some _ => cases h
noncomputable def f_impl_possibleFaults_2 : Nat → Int → Int → List (Int × Int) → List (Int × Int × Int) → Int → Int → Int → Int → List (Int × Int) → Int → Int → Option (Int × Int × List (Int × Int) × List (Int × Int × Int) × List (Int × Int) × Int × Int)
  | 0, _, _, _, _, _, _, _, _, _, _, _ => none
  | k + 1, b1_0, b1_1, b1_2, o2, b3_0, b3_1, v4, v6, v9, v10, v11 =>
    if decide (v6 ≤ 3) = true then Option.bind (f_impl_canHave k (b3_0, b3_1) v6) fun z0 => if z0 = true then if b1_1 = 0 then none else if b1_1 = 0 then none else if List.length o2 + List.length [(v6, wrap64 (Int.tdiv v4 b1_1), Int.tmod v4 b1_1)] ≤ 140737488355328 / 24 then f_impl_possibleFaults_2 k b1_0 b1_1 b1_2 (o2 ++ [(v6, wrap64 (Int.tdiv v4 b1_1), Int.tmod v4 b1_1)]) b3_0 b3_1 v4 (wrap64 (v6 + 1)) v9 v10 v11 else none else f_impl_possibleFaults_2 k b1_0 b1_1 b1_2 o2 b3_0 b3_1 v4 (wrap64 (v6 + 1)) v9 v10 v11 else some (b1_0, b1_1, b1_2, o2, v9, v10, v11)
noncomputable def f_impl_possibleFaults_2i : Spec := { objs := [OSh.ro, OSh.box 32 [Sh.int IntKind.i64, Sh.int IntKind.i64, Sh.snap 0 (Ty.pair (Ty.int IntKind.i64) (Ty.int IntKind.i64))], OSh.row true 87 (Ty.pair (Ty.int IntKind.i64) (Ty.pair (Ty.int IntKind.i64) (Ty.int IntKind.i64))), OSh.box 123 [Sh.int IntKind.i64, Sh.int IntKind.i64]], tmps := [(1, TSh.at (Sh.ptr 1 0)), (3, TSh.at (Sh.sl 2)), (4, TSh.at (Sh.int IntKind.i64)), (5, TSh.at (Sh.ptr 3 0)), (6, TSh.at (Sh.int IntKind.i64)), (9, TSh.at (Sh.snap 0 (Ty.pair (Ty.int IntKind.i64) (Ty.int IntKind.i64)))), (10, TSh.at (Sh.int IntKind.i64)), (11, TSh.at (Sh.int IntKind.i64))] }
noncomputable def f_impl_possibleFaults_2o : Spec := { objs := [OSh.ro, OSh.box 32 [Sh.int IntKind.i64, Sh.int IntKind.i64, Sh.snap 0 (Ty.pair (Ty.int IntKind.i64) (Ty.int IntKind.i64))], OSh.row true 87 (Ty.pair (Ty.int IntKind.i64) (Ty.pair (Ty.int IntKind.i64) (Ty.int IntKind.i64)))], tmps := [(1, TSh.at (Sh.ptr 1 0)), (3, TSh.at (Sh.sl 2)), (9, TSh.at (Sh.snap 0 (Ty.pair (Ty.int IntKind.i64) (Ty.int IntKind.i64)))), (10, TSh.at (Sh.int IntKind.i64)), (11, TSh.at (Sh.int IntKind.i64))] }
noncomputable def f_impl_possibleFaults_2D : LoopDef (Tup r_impl_possibleFaults × OutD) := .plain f_impl_possibleFaults_2i f_impl_possibleFaults_2o (Int × Int × List (Int × Int) × List (Int × Int × Int) × List (Int × Int) × Int × Int) (fun k x => f_impl_possibleFaults_2 k x.1.2.1.1 x.1.2.1.2.1 x.1.2.1.2.2.1 x.1.2.2.1 x.1.2.2.2.1.1 x.1.2.2.2.1.2.1 x.2.2.2.1 x.2.2.2.2.2.1 x.2.2.2.2.2.2.1 x.2.2.2.2.2.2.2.1 x.2.2.2.2.2.2.2.2.1) (fun z => (((), (z.1, z.2.1, z.2.2.1, ()), z.2.2.2.1, ()), ((), (), z.2.2.2.2.1, z.2.2.2.2.2.1, z.2.2.2.2.2.2, ()))) (fun y => (y.1.2.1.1, y.1.2.1.2.1, y.1.2.1.2.2.1, y.1.2.2.1, y.2.2.2.1, y.2.2.2.2.1, y.2.2.2.2.2.1)) (fun _ => rfl)
noncomputable def f_impl_possibleFaults_0 : Nat → Int → Int → List (Int × Int) → List (Int × Int × Int) → List (Int × Int) → Int → Int → Option (List (Int × Int × Int))
  | 0, _, _, _, _, _, _, _ => none
  | k + 1, b1_0, b1_1, b1_2, o2, v9, v10, v11 =>
    if decide (v11 < v10) = true then if 0 ≤ v11 then if v11 < (↑(List.length v9) : Int) then Option.bind (f_impl_possibleFaults_2 k b1_0 b1_1 b1_2 o2 (Prod.fst (List.getD v9 (Int.toNat v11) (0, 0))) (Prod.snd (List.getD v9 (Int.toNat v11) (0, 0))) v11 1 v9 v10 v11) fun z1 => f_impl_possibleFaults_0 k (Prod.fst z1) (Prod.fst (Prod.snd z1)) (Prod.fst (Prod.snd (Prod.snd z1))) (Prod.fst (Prod.snd (Prod.snd (Prod.snd z1)))) (Prod.fst (Prod.snd (Prod.snd (Prod.snd (Prod.snd z1))))) (Prod.fst (Prod.snd (Prod.snd (Prod.snd (Prod.snd (Prod.snd z1)))))) (wrap64 (Prod.snd (Prod.snd (Prod.snd (Prod.snd (Prod.snd (Prod.snd z1))))) + 1)) else none else none else some o2
noncomputable def f_impl_possibleFaults_0i : Spec := { objs := [OSh.ro, OSh.box 32 [Sh.int IntKind.i64, Sh.int IntKind.i64, Sh.snap 0 (Ty.pair (Ty.int IntKind.i64) (Ty.int IntKind.i64))], OSh.row true 87 (Ty.pair (Ty.int IntKind.i64) (Ty.pair (Ty.int IntKind.i64) (Ty.int IntKind.i64)))], tmps := [(1, TSh.at (Sh.ptr 1 0)), (3, TSh.at (Sh.sl 2)), (9, TSh.at (Sh.snap 0 (Ty.pair (Ty.int IntKind.i64) (Ty.int IntKind.i64)))), (10, TSh.at (Sh.int IntKind.i64)), (11, TSh.at (Sh.int IntKind.i64))] }
noncomputable def f_impl_possibleFaults_0o : Spec := { objs := [OSh.ro, OSh.row true 87 (Ty.pair (Ty.int IntKind.i64) (Ty.pair (Ty.int IntKind.i64) (Ty.int IntKind.i64)))], tmps := [(3, TSh.at (Sh.sl 1))] }
noncomputable def f_impl_possibleFaults_0D : LoopDef (Tup r_impl_possibleFaults × OutD) := .plain f_impl_possibleFaults_0i f_impl_possibleFaults_0o (List (Int × Int × Int)) (fun k x => f_impl_possibleFaults_0 k x.1.2.1.1 x.1.2.1.2.1 x.1.2.1.2.2.1 x.1.2.2.1 x.2.2.2.1 x.2.2.2.2.1 x.2.2.2.2.2.1) (fun z => (((), z, ()), ((), ()))) (fun y => (y.1.2.1)) (fun _ => rfl)
noncomputable def f_impl_possibleFaults : Nat → Int × Int × List (Int × Int) → Option (List (Int × Int × Int))
  | 0, _ => none
  | k + 1, p0 =>
    Option.bind (f_impl_possibleFaults_0 k (Prod.fst p0) (Prod.fst (Prod.snd p0)) (Prod.snd (Prod.snd p0)) [] (Prod.snd (Prod.snd p0)) (↑(List.length (Prod.snd (Prod.snd p0))) : Int) 0) fun z2 => some z2
noncomputable def d_impl_possibleFaults : FnDef := .of q_impl_possibleFaults r_impl_possibleFaults (List (Int × Int × Int)) (fun k x => f_impl_possibleFaults k x.1) to_impl_possibleFaults of_impl_possibleFaults to_of_impl_possibleFaults
noncomputable def c_impl_possibleFaults : Code := Try.f72.body.getD .skip
noncomputable def x_impl_possibleFaults : Ctx (Tup r_impl_possibleFaults × OutD) := { T := T, G := [(117, d_impl_canHave.E)], mvs := [], no := 0, n := 38, res := resOf T q_impl_possibleFaults r_impl_possibleFaults Try.f72.results.toList, loops := [(2, f_impl_possibleFaults_2D.E), (0, f_impl_possibleFaults_0D.E)] }
theorem g_impl_possibleFaults (k : Nat) : EnvOK Try.prog k x_impl_possibleFaults.G := (EnvOK.cons (s_impl_canHave k) (EnvOK.nil mixed))
noncomputable def f_impl_possibleFaults_2B : Code := (findLoop 2 c_impl_possibleFaults).getD .skip
theorem f_impl_possibleFaults_2h (k : Nat) (x : f_impl_possibleFaults_2i.D) : f_impl_possibleFaults_2D.lp (k + 1) x = loopK x_impl_possibleFaults f_impl_possibleFaults_2D 2 f_impl_possibleFaults_2B k x := by kernel_rfl
theorem f_impl_possibleFaults_2l (k : Nat) : LOK Try.prog x_impl_possibleFaults k f_impl_possibleFaults_2B := LOK.by [] (by kernel_rfl) AllOK.nil
theorem f_impl_possibleFaults_2z (x : f_impl_possibleFaults_2i.D) : f_impl_possibleFaults_2D.lp 0 x = none := by kernel_rfl
theorem f_impl_possibleFaults_2ok (k : Nat) : EOK Try.prog x_impl_possibleFaults k f_impl_possibleFaults_2D.E (.block 2 (.loop f_impl_possibleFaults_2B)) := loop_ok T_ok g_impl_possibleFaults f_impl_possibleFaults_2z f_impl_possibleFaults_2h f_impl_possibleFaults_2l k
noncomputable def f_impl_possibleFaults_0B : Code := (findLoop 0 c_impl_possibleFaults).getD .skip
theorem f_impl_possibleFaults_0h (k : Nat) (x : f_impl_possibleFaults_0i.D) : f_impl_possibleFaults_0D.lp (k + 1) x = loopK x_impl_possibleFaults f_impl_possibleFaults_0D 0 f_impl_possibleFaults_0B k x := by kernel_rfl
theorem f_impl_possibleFaults_0l (k : Nat) : LOK Try.prog x_impl_possibleFaults k f_impl_possibleFaults_0B := LOK.by [(f_impl_possibleFaults_2D.E, .block 2 (.loop f_impl_possibleFaults_2B))] (by kernel_rfl) (AllOK.cons (f_impl_possibleFaults_2ok k) AllOK.nil)
theorem f_impl_possibleFaults_0z (x : f_impl_possibleFaults_0i.D) : f_impl_possibleFaults_0D.lp 0 x = none := by kernel_rfl
theorem f_impl_possibleFaults_0ok (k : Nat) : EOK Try.prog x_impl_possibleFaults k f_impl_possibleFaults_0D.E (.block 0 (.loop f_impl_possibleFaults_0B)) := loop_ok T_ok g_impl_possibleFaults f_impl_possibleFaults_0z f_impl_possibleFaults_0h f_impl_possibleFaults_0l k
theorem h_impl_possibleFaults (k : Nat) (x : Tup d_impl_possibleFaults.ps) : d_impl_possibleFaults.f (k + 1) x = fnK d_impl_possibleFaults x_impl_possibleFaults c_impl_possibleFaults k x := by kernel_rfl
theorem z_impl_possibleFaults (x : Tup d_impl_possibleFaults.ps) : d_impl_possibleFaults.f 0 x = none := by kernel_rfl
theorem l_impl_possibleFaults (k : Nat) : LOK Try.prog x_impl_possibleFaults k c_impl_possibleFaults := LOK.by [(f_impl_possibleFaults_0D.E, .block 0 (.loop f_impl_possibleFaults_0B))] (by kernel_rfl) (AllOK.cons (f_impl_possibleFaults_0ok k) AllOK.nil)
theorem s_impl_possibleFaults (k : Nat) : SoundAt Try.prog k 72 d_impl_possibleFaults.E := @fn_all Try.prog d_impl_possibleFaults x_impl_possibleFaults 72 Try.f72 c_impl_possibleFaults (by kernel_rfl) (by kernel_rfl) (by kernel_rfl) Try.func72 (by kernel_rfl) (by kernel_rfl) (by kernel_rfl) T_ok g_impl_possibleFaults l_impl_possibleFaults z_impl_possibleFaults h_impl_possibleFaults k
/-! function 116 -/
noncomputable def r_impl_onBoard : List PK := [{ t := Ty.bool }]
noncomputable def q_impl_onBoard : List PK := [{ t := Ty.pair (Ty.int IntKind.i64) (Ty.pair (Ty.int IntKind.i64) (Ty.slice 123 (Ty.pair (Ty.int IntKind.i64) (Ty.int IntKind.i64)))), agg := true }, { t := Ty.int IntKind.i64 }, { t := Ty.int IntKind.i64 }]
noncomputable def to_impl_onBoard (r : Bool) : Tup r_impl_onBoard × OutD := ((r, ()), none)
noncomputable def of_impl_onBoard : Tup r_impl_onBoard × OutD → Option (Bool)
  | (a, none) => some (a.1)
  | _ => none
theorem to_of_impl_onBoard : ∀ b r, of_impl_onBoard b = some r → to_impl_onBoard r = b := by
  rintro ⟨a, o⟩ r h
  cases o with
  | none => injection h with h; subst h; rfl
  | some _ => cases h
noncomputable def f_impl_onBoard : Nat → Int × Int × List (Int × Int) → Int → Int → Option Bool
  | 0, _, _, _ => none
  | k + 1, p0, p1, p2 =>
    Option.bind (f_impl_IsBoard k (Prod.fst p0, Prod.fst (Prod.snd p0), Prod.snd (Prod.snd p0))) fun z0 => if z0 = true then if decide (p1 ≥ 0) = true then if decide (p1 < Prod.fst p0) = true then if decide (p2 ≥ 0) = true then some (decide (p2 < Prod.fst (Prod.snd p0))) else some false else some false else some false else some false
noncomputable def d_impl_onBoard : FnDef := .of q_impl_onBoard r_impl_onBoard (Bool) (fun k x => f_impl_onBoard k x.1 x.2.1 x.2.2.1) to_impl_onBoard of_impl_onBoard to_of_impl_onBoard
noncomputable def c_impl_onBoard : Code := Try.f116.body.getD .skip
noncomputable def x_impl_onBoard : Ctx (Tup r_impl_onBoard × OutD) := { T := T, G := [(67, d_impl_IsBoard.E)], mvs := [], no := 0, n := 29, res := resOf T q_impl_onBoard r_impl_onBoard Try.f116.results.toList, loops := [] }
theorem g_impl_onBoard (k : Nat) : EnvOK Try.prog k x_impl_onBoard.G := (EnvOK.cons (s_impl_IsBoard k) (EnvOK.nil mixed))
theorem h_impl_onBoard (k : Nat) (x : Tup d_impl_onBoard.ps) : d_impl_onBoard.f (k + 1) x = fnK d_impl_onBoard x_impl_onBoard c_impl_onBoard k x := by kernel_rfl
theorem z_impl_onBoard (x : Tup d_impl_onBoard.ps) : d_impl_onBoard.f 0 x = none := by kernel_rfl
theorem l_impl_onBoard (k : Nat) : LOK Try.prog x_impl_onBoard k c_impl_onBoard := LOK.by [] (by kernel_rfl) AllOK.nil
theorem s_impl_onBoard (k : Nat) : SoundAt Try.prog k 116 d_impl_onBoard.E := @fn_all Try.prog d_impl_onBoard x_impl_onBoard 116 Try.f116 c_impl_onBoard (by kernel_rfl) (by kernel_rfl) (by kernel_rfl) Try.func116 (by kernel_rfl) (by kernel_rfl) (by kernel_rfl) T_ok g_impl_onBoard l_impl_onBoard z_impl_onBoard h_impl_onBoard k
end
end Go.Proofs.Ytkefbmaagdaodaa.Vs
