/- Functions of the program by plain functions, each with its contract. -/
import Derived.Test.YtkefbmaagdaodaaVsT
import Derived.Test.YtkefbmaagdaodaaVg0
import Derived.Test.YtkefbmaagdaodaaVg1
import Derived.Test.YtkefbmaagdaodaaVg2
set_option maxRecDepth 100000
set_option linter.unusedVariables false
set_option linter.unusedSimpArgs false
namespace Go.Proofs.Ytkefbmaagdaodaa.Vs
open Go.RowKit
noncomputable section
/-! function 17 -/
noncomputable def r_spec_AreFaults : List PK := [{ t := Ty.bool }, { t := Ty.bool }]
noncomputable def q_spec_AreFaults : List PK := [{ t := Ty.pair (Ty.int IntKind.i64) (Ty.pair (Ty.int IntKind.i64) (Ty.slice (123 : Nat) (Ty.pair (Ty.int IntKind.i64) (Ty.int IntKind.i64)))), agg := true }, { t := Ty.slice (87 : Nat) (Ty.pair (Ty.int IntKind.i64) (Ty.pair (Ty.int IntKind.i64) (Ty.int IntKind.i64))) }]
noncomputable def to_spec_AreFaults (r : Bool × Bool) : Tup r_spec_AreFaults × OutD := ((r.1, r.2, ()), none)
noncomputable def of_spec_AreFaults : Tup r_spec_AreFaults × OutD → Option (Bool × Bool)
  | (a, none) => some (a.1, a.2.1)
  | _ => none
theorem to_of_spec_AreFaults : ∀ b r, of_spec_AreFaults b = some r → to_spec_AreFaults r = b := by
  rintro ⟨a, o⟩ r h
  cases o with
  | none => injection h with h; subst h; rfl
  | some _ => cases h
noncomputable def f_spec_AreFaults : Nat → Int × Int × List (Int × Int) → List (Int × Int × Int) → Option (Bool × Bool)
  | 0, _, _ => none
  | k + 1, p0, p1 =>
    Option.bind (f_spec_boGood k (Prod.fst p0, Prod.fst (Prod.snd p0), Prod.snd (Prod.snd p0))) fun z0 => if (!z0) = true then some (false, false) else Option.bind (f_spec_faGood k (Prod.fst p0, Prod.fst (Prod.snd p0), Prod.snd (Prod.snd p0)) p1) fun z1 => some (z1, true)
noncomputable def d_spec_AreFaults : FnDef := .of q_spec_AreFaults r_spec_AreFaults (Bool × Bool) (fun k x => f_spec_AreFaults k x.1 x.2.1) to_spec_AreFaults of_spec_AreFaults to_of_spec_AreFaults
noncomputable def c_spec_AreFaults : Code := Try.f17.body.getD .skip
noncomputable def x_spec_AreFaults : Ctx (Tup r_spec_AreFaults × OutD) := { T := T, G := [(63, d_spec_boGood.E), (64, d_spec_faGood.E)], mvs := [], no := 0, n := 12, res := resOf T q_spec_AreFaults r_spec_AreFaults Try.f17.results.toList, loops := [], regs := [], conds := [] }
theorem g_spec_AreFaults (k : Nat) : EnvOK Try.prog k x_spec_AreFaults.G := (EnvOK.cons (s_spec_boGood k) (EnvOK.cons (s_spec_faGood k) (EnvOK.nil mixed)))
theorem h_spec_AreFaults (k : Nat) (x : Tup d_spec_AreFaults.ps) : d_spec_AreFaults.f (k + 1) x = fnK d_spec_AreFaults x_spec_AreFaults c_spec_AreFaults k x := by kernel_rfl
theorem z_spec_AreFaults (x : Tup d_spec_AreFaults.ps) : d_spec_AreFaults.f 0 x = none := by kernel_rfl
theorem l_spec_AreFaults (k : Nat) : LOK Try.prog x_spec_AreFaults k c_spec_AreFaults := LOK.by [] (by kernel_rfl) AllOK.nil
theorem s_spec_AreFaults (k : Nat) : SoundAt Try.prog k 17 d_spec_AreFaults.E := @fn_all Try.prog d_spec_AreFaults x_spec_AreFaults 17 Try.f17 c_spec_AreFaults (by kernel_rfl) (by kernel_rfl) (by kernel_rfl) Try.func17 (by kernel_rfl) (by kernel_rfl) (by kernel_rfl) T_ok g_spec_AreFaults l_spec_AreFaults z_spec_AreFaults h_spec_AreFaults k
/-! function 23 -/
noncomputable def r_spec_PossibleFaults : List PK := [{ t := Ty.slice (87 : Nat) (Ty.pair (Ty.int IntKind.i64) (Ty.pair (Ty.int IntKind.i64) (Ty.int IntKind.i64))) }, { t := Ty.bool }]
noncomputable def q_spec_PossibleFaults : List PK := [{ t := Ty.pair (Ty.int IntKind.i64) (Ty.pair (Ty.int IntKind.i64) (Ty.slice (123 : Nat) (Ty.pair (Ty.int IntKind.i64) (Ty.int IntKind.i64)))), agg := true }]
noncomputable def to_spec_PossibleFaults (r : List (Int × Int × Int) × Bool) : Tup r_spec_PossibleFaults × OutD := ((r.1, r.2, ()), none)
noncomputable def of_spec_PossibleFaults : Tup r_spec_PossibleFaults × OutD → Option (List (Int × Int × Int) × Bool)
  | (a, none) => some (a.1, a.2.1)
  | _ => none
theorem to_of_spec_PossibleFaults : ∀ b r, of_spec_PossibleFaults b = some r → to_spec_PossibleFaults r = b := by
  rintro ⟨a, o⟩ r h
  cases o with
  | none => injection h with h; subst h; rfl
  | some _ => cases h
noncomputable def f_spec_PossibleFaults : Nat → Int × Int × List (Int × Int) → Option (List (Int × Int × Int) × Bool)
  | 0, _ => none
  | k + 1, p0 =>
    Option.bind (f_spec_boGood k (Prod.fst p0, Prod.fst (Prod.snd p0), Prod.snd (Prod.snd p0))) fun z0 => if (!z0) = true then some ([], false) else Option.bind (f_spec_faPossible k (Prod.fst p0, Prod.fst (Prod.snd p0), Prod.snd (Prod.snd p0))) fun z1 => some (z1, true)
noncomputable def d_spec_PossibleFaults : FnDef := .of q_spec_PossibleFaults r_spec_PossibleFaults (List (Int × Int × Int) × Bool) (fun k x => f_spec_PossibleFaults k x.1) to_spec_PossibleFaults of_spec_PossibleFaults to_of_spec_PossibleFaults
noncomputable def c_spec_PossibleFaults : Code := Try.f23.body.getD .skip
noncomputable def x_spec_PossibleFaults : Ctx (Tup r_spec_PossibleFaults × OutD) := { T := T, G := [(63, d_spec_boGood.E), (71, d_spec_faPossible.E)], mvs := [], no := 0, n := 9, res := resOf T q_spec_PossibleFaults r_spec_PossibleFaults Try.f23.results.toList, loops := [], regs := [], conds := [] }
theorem g_spec_PossibleFaults (k : Nat) : EnvOK Try.prog k x_spec_PossibleFaults.G := (EnvOK.cons (s_spec_boGood k) (EnvOK.cons (s_spec_faPossible k) (EnvOK.nil mixed)))
theorem h_spec_PossibleFaults (k : Nat) (x : Tup d_spec_PossibleFaults.ps) : d_spec_PossibleFaults.f (k + 1) x = fnK d_spec_PossibleFaults x_spec_PossibleFaults c_spec_PossibleFaults k x := by kernel_rfl
theorem z_spec_PossibleFaults (x : Tup d_spec_PossibleFaults.ps) : d_spec_PossibleFaults.f 0 x = none := by kernel_rfl
theorem l_spec_PossibleFaults (k : Nat) : LOK Try.prog x_spec_PossibleFaults k c_spec_PossibleFaults := LOK.by [] (by kernel_rfl) AllOK.nil
theorem s_spec_PossibleFaults (k : Nat) : SoundAt Try.prog k 23 d_spec_PossibleFaults.E := @fn_all Try.prog d_spec_PossibleFaults x_spec_PossibleFaults 23 Try.f23 c_spec_PossibleFaults (by kernel_rfl) (by kernel_rfl) (by kernel_rfl) Try.func23 (by kernel_rfl) (by kernel_rfl) (by kernel_rfl) T_ok g_spec_PossibleFaults l_spec_PossibleFaults z_spec_PossibleFaults h_spec_PossibleFaults k
/-! function 72 -/
noncomputable def r_impl_possibleFaults : List PK := [{ t := Ty.slice (87 : Nat) (Ty.pair (Ty.int IntKind.i64) (Ty.pair (Ty.int IntKind.i64) (Ty.int IntKind.i64))) }]
noncomputable def q_impl_possibleFaults : List PK := [{ t := Ty.pair (Ty.int IntKind.i64) (Ty.pair (Ty.int IntKind.i64) (Ty.slice (123 : Nat) (Ty.pair (Ty.int IntKind.i64) (Ty.int IntKind.i64)))), agg := true }]
noncomputable def to_impl_possibleFaults (r : List (Int × Int × Int)) : Tup r_impl_possibleFaults × OutD := ((r, ()), none)
noncomputable def of_impl_possibleFaults : Tup r_impl_possibleFaults × OutD → Option (List (Int × Int × Int))
  | (a, none) => some (a.1)
  | _ => none
theorem to_of_impl_possibleFaults : ∀ b r, of_impl_possibleFaults b = some r → to_impl_possibleFaults r = b := by
  rintro ⟨a, o⟩ r h
  cases o with
  | none => injection h with h; subst h; rfl
  | some _ => cases h
noncomputable def f_impl_possibleFaults_2 : Nat → Int → Int → List (Int × Int) → List (Int × Int × Int) → Int → Int → Int → Int → List (Int × Int) → Int → Int → Option (Int × Int × List (Int × Int) × List (Int × Int × Int) × List (Int × Int) × Int × Int)
  | 0, _, _, _, _, _, _, _, _, _, _, _ => none
  | k + 1, b1_0, b1_1, b1_2, o2, b3_0, b3_1, v4, v6, v9, v10, v11 =>
    if decide (v6 ≤ (3 : Int)) = true then Option.bind (f_impl_canHave k (b3_0, b3_1) v6) fun z0 => if z0 = true then if b1_1 = (0 : Int) then none else if b1_1 = (0 : Int) then none else if List.length o2 + List.length [(v6, wrap64 (Int.tdiv v4 b1_1), Int.tmod v4 b1_1)] ≤ (140737488355328 / 24 : Nat) then f_impl_possibleFaults_2 k b1_0 b1_1 b1_2 (o2 ++ [(v6, wrap64 (Int.tdiv v4 b1_1), Int.tmod v4 b1_1)]) b3_0 b3_1 v4 (wrap64 (v6 + (1 : Int))) v9 v10 v11 else none else f_impl_possibleFaults_2 k b1_0 b1_1 b1_2 o2 b3_0 b3_1 v4 (wrap64 (v6 + (1 : Int))) v9 v10 v11 else some (b1_0, b1_1, b1_2, o2, v9, v10, v11)
noncomputable def f_impl_possibleFaults_2i : Spec := { objs := [OSh.ro, OSh.box (32 : Nat) [Sh.int IntKind.i64, Sh.int IntKind.i64, Sh.snap (0 : Nat) (Ty.pair (Ty.int IntKind.i64) (Ty.int IntKind.i64))], OSh.row true (87 : Nat) (Ty.pair (Ty.int IntKind.i64) (Ty.pair (Ty.int IntKind.i64) (Ty.int IntKind.i64))), OSh.box (123 : Nat) [Sh.int IntKind.i64, Sh.int IntKind.i64]], tmps := [((1 : Nat), TSh.at (Sh.ptr (1 : Nat) (0 : Nat))), ((3 : Nat), TSh.at (Sh.sl (2 : Nat))), ((4 : Nat), TSh.at (Sh.int IntKind.i64)), ((5 : Nat), TSh.at (Sh.ptr (3 : Nat) (0 : Nat))), ((6 : Nat), TSh.at (Sh.int IntKind.i64)), ((9 : Nat), TSh.at (Sh.snap (0 : Nat) (Ty.pair (Ty.int IntKind.i64) (Ty.int IntKind.i64)))), ((10 : Nat), TSh.at (Sh.int IntKind.i64)), ((11 : Nat), TSh.at (Sh.int IntKind.i64))] }
noncomputable def f_impl_possibleFaults_2o : Spec := { objs := [OSh.ro, OSh.box (32 : Nat) [Sh.int IntKind.i64, Sh.int IntKind.i64, Sh.snap (0 : Nat) (Ty.pair (Ty.int IntKind.i64) (Ty.int IntKind.i64))], OSh.row true (87 : Nat) (Ty.pair (Ty.int IntKind.i64) (Ty.pair (Ty.int IntKind.i64) (Ty.int IntKind.i64)))], tmps := [((1 : Nat), TSh.at (Sh.ptr (1 : Nat) (0 : Nat))), ((3 : Nat), TSh.at (Sh.sl (2 : Nat))), ((9 : Nat), TSh.at (Sh.snap (0 : Nat) (Ty.pair (Ty.int IntKind.i64) (Ty.int IntKind.i64)))), ((10 : Nat), TSh.at (Sh.int IntKind.i64)), ((11 : Nat), TSh.at (Sh.int IntKind.i64))] }
noncomputable def f_impl_possibleFaults_2D : LoopDef (Tup r_impl_possibleFaults × OutD) := .plain f_impl_possibleFaults_2i f_impl_possibleFaults_2o (Int × Int × List (Int × Int) × List (Int × Int × Int) × List (Int × Int) × Int × Int) (fun k x => f_impl_possibleFaults_2 k x.1.2.1.1 x.1.2.1.2.1 x.1.2.1.2.2.1 x.1.2.2.1 x.1.2.2.2.1.1 x.1.2.2.2.1.2.1 x.2.2.2.1 x.2.2.2.2.2.1 x.2.2.2.2.2.2.1 x.2.2.2.2.2.2.2.1 x.2.2.2.2.2.2.2.2.1) (fun z => (((), (z.1, z.2.1, z.2.2.1, ()), z.2.2.2.1, ()), ((), (), z.2.2.2.2.1, z.2.2.2.2.2.1, z.2.2.2.2.2.2, ()))) (fun y => (y.1.2.1.1, y.1.2.1.2.1, y.1.2.1.2.2.1, y.1.2.2.1, y.2.2.2.1, y.2.2.2.2.1, y.2.2.2.2.2.1)) (fun _ => rfl)
noncomputable def f_impl_possibleFaults_0 : Nat → Int → Int → List (Int × Int) → List (Int × Int × Int) → List (Int × Int) → Int → Int → Option (List (Int × Int × Int))
  | 0, _, _, _, _, _, _, _ => none
  | k + 1, b1_0, b1_1, b1_2, o2, v9, v10, v11 =>
    if decide (v11 < v10) = true then if (0 : Int) ≤ v11 then if v11 < (↑(List.length v9) : Int) then Option.bind (f_impl_possibleFaults_2 k b1_0 b1_1 b1_2 o2 (Prod.fst (List.getD v9 (Int.toNat v11) ((0 : Int), (0 : Int)))) (Prod.snd (List.getD v9 (Int.toNat v11) ((0 : Int), (0 : Int)))) v11 (1 : Int) v9 v10 v11) fun z1 => f_impl_possibleFaults_0 k (Prod.fst z1) (Prod.fst (Prod.snd z1)) (Prod.fst (Prod.snd (Prod.snd z1))) (Prod.fst (Prod.snd (Prod.snd (Prod.snd z1)))) (Prod.fst (Prod.snd (Prod.snd (Prod.snd (Prod.snd z1))))) (Prod.fst (Prod.snd (Prod.snd (Prod.snd (Prod.snd (Prod.snd z1)))))) (wrap64 (Prod.snd (Prod.snd (Prod.snd (Prod.snd (Prod.snd (Prod.snd z1))))) + (1 : Int))) else none else none else some o2
noncomputable def f_impl_possibleFaults_0i : Spec := { objs := [OSh.ro, OSh.box (32 : Nat) [Sh.int IntKind.i64, Sh.int IntKind.i64, Sh.snap (0 : Nat) (Ty.pair (Ty.int IntKind.i64) (Ty.int IntKind.i64))], OSh.row true (87 : Nat) (Ty.pair (Ty.int IntKind.i64) (Ty.pair (Ty.int IntKind.i64) (Ty.int IntKind.i64)))], tmps := [((1 : Nat), TSh.at (Sh.ptr (1 : Nat) (0 : Nat))), ((3 : Nat), TSh.at (Sh.sl (2 : Nat))), ((9 : Nat), TSh.at (Sh.snap (0 : Nat) (Ty.pair (Ty.int IntKind.i64) (Ty.int IntKind.i64)))), ((10 : Nat), TSh.at (Sh.int IntKind.i64)), ((11 : Nat), TSh.at (Sh.int IntKind.i64))] }
noncomputable def f_impl_possibleFaults_0o : Spec := { objs := [OSh.ro, OSh.row true (87 : Nat) (Ty.pair (Ty.int IntKind.i64) (Ty.pair (Ty.int IntKind.i64) (Ty.int IntKind.i64)))], tmps := [((3 : Nat), TSh.at (Sh.sl (1 : Nat)))] }
noncomputable def f_impl_possibleFaults_0D : LoopDef (Tup r_impl_possibleFaults × OutD) := .plain f_impl_possibleFaults_0i f_impl_possibleFaults_0o (List (Int × Int × Int)) (fun k x => f_impl_possibleFaults_0 k x.1.2.1.1 x.1.2.1.2.1 x.1.2.1.2.2.1 x.1.2.2.1 x.2.2.2.1 x.2.2.2.2.1 x.2.2.2.2.2.1) (fun z => (((), z, ()), ((), ()))) (fun y => (y.1.2.1)) (fun _ => rfl)
noncomputable def f_impl_possibleFaults : Nat → Int × Int × List (Int × Int) → Option (List (Int × Int × Int))
  | 0, _ => none
  | k + 1, p0 =>
    Option.bind (f_impl_possibleFaults_0 k (Prod.fst p0) (Prod.fst (Prod.snd p0)) (Prod.snd (Prod.snd p0)) [] (Prod.snd (Prod.snd p0)) (↑(List.length (Prod.snd (Prod.snd p0))) : Int) (0 : Int)) fun z2 => some z2
noncomputable def d_impl_possibleFaults : FnDef := .of q_impl_possibleFaults r_impl_possibleFaults (List (Int × Int × Int)) (fun k x => f_impl_possibleFaults k x.1) to_impl_possibleFaults of_impl_possibleFaults to_of_impl_possibleFaults
noncomputable def c_impl_possibleFaults : Code := Try.f72.body.getD .skip
noncomputable def x_impl_possibleFaults : Ctx (Tup r_impl_possibleFaults × OutD) := { T := T, G := [(117, d_impl_canHave.E)], mvs := [], no := 0, n := 38, res := resOf T q_impl_possibleFaults r_impl_possibleFaults Try.f72.results.toList, loops := [(2, f_impl_possibleFaults_2D.E), (0, f_impl_possibleFaults_0D.E)], regs := [], conds := [] }
theorem g_impl_possibleFaults (k : Nat) : EnvOK Try.prog k x_impl_possibleFaults.G := (EnvOK.cons (s_impl_canHave k) (EnvOK.nil mixed))
noncomputable def f_impl_possibleFaults_2B : Code := (findLoop 2 c_impl_possibleFaults).getD .skip
theorem f_impl_possibleFaults_2h (k : Nat) (x : f_impl_possibleFaults_2i.D) : f_impl_possibleFaults_2D.lp (k + 1) x = loopK x_impl_possibleFaults f_impl_possibleFaults_2D 2 f_impl_possibleFaults_2B k x := by kernel_rfl
theorem f_impl_possibleFaults_2l (k : Nat) : LOK Try.prog x_impl_possibleFaults k f_impl_possibleFaults_2B := LOK.by [] (by kernel_rfl) AllOK.nil
theorem f_impl_possibleFaults_2z (x : f_impl_possibleFaults_2i.D) : f_impl_possibleFaults_2D.lp 0 x = none := by kernel_rfl
theorem f_impl_possibleFaults_2ok (k : Nat) : EOK Try.prog x_impl_possibleFaults k f_impl_possibleFaults_2D.E (.block 2 (.loop f_impl_possibleFaults_2B)) := loop_ok T_ok g_impl_possibleFaults f_impl_possibleFaults_2z f_impl_possibleFaults_2h f_impl_possibleFaults_2l k
noncomputable def f_impl_possibleFaults_0B : Code := (findLoop 0 c_impl_possibleFaults).getD .skip
theorem f_impl_possibleFaults_0h (k : Nat) (x : f_impl_possibleFaults_0i.D) : f_impl_possibleFaults_0D.lp (k + 1) x = loopK x_impl_possibleFaults f_impl_possibleFaults_0D 0 f_impl_possibleFaults_0B k x := by kernel_rfl
theorem f_impl_possibleFaults_0l (k : Nat) : LOK Try.prog x_impl_possibleFaults k f_impl_possibleFaults_0B := LOK.by [(f_impl_possibleFaults_2D.E, .block 2 (.loop f_impl_possibleFaults_2B))] (by kernel_rfl) (AllOK.cons (f_impl_possibleFaults_2ok k) AllOK.nil)
theorem f_impl_possibleFaults_0z (x : f_impl_possibleFaults_0i.D) : f_impl_possibleFaults_0D.lp 0 x = none := by kernel_rfl
theorem f_impl_possibleFaults_0ok (k : Nat) : EOK Try.prog x_impl_possibleFaults k f_impl_possibleFaults_0D.E (.block 0 (.loop f_impl_possibleFaults_0B)) := loop_ok T_ok g_impl_possibleFaults f_impl_possibleFaults_0z f_impl_possibleFaults_0h f_impl_possibleFaults_0l k
theorem h_impl_possibleFaults (k : Nat) (x : Tup d_impl_possibleFaults.ps) : d_impl_possibleFaults.f (k + 1) x = fnK d_impl_possibleFaults x_impl_possibleFaults c_impl_possibleFaults k x := by kernel_rfl
theorem z_impl_possibleFaults (x : Tup d_impl_possibleFaults.ps) : d_impl_possibleFaults.f 0 x = none := by kernel_rfl
theorem l_impl_possibleFaults (k : Nat) : LOK Try.prog x_impl_possibleFaults k c_impl_possibleFaults := LOK.by [(f_impl_possibleFaults_0D.E, .block 0 (.loop f_impl_possibleFaults_0B))] (by kernel_rfl) (AllOK.cons (f_impl_possibleFaults_0ok k) AllOK.nil)
theorem s_impl_possibleFaults (k : Nat) : SoundAt Try.prog k 72 d_impl_possibleFaults.E := @fn_all Try.prog d_impl_possibleFaults x_impl_possibleFaults 72 Try.f72 c_impl_possibleFaults (by kernel_rfl) (by kernel_rfl) (by kernel_rfl) Try.func72 (by kernel_rfl) (by kernel_rfl) (by kernel_rfl) T_ok g_impl_possibleFaults l_impl_possibleFaults z_impl_possibleFaults h_impl_possibleFaults k
/-! function 75 -/
noncomputable def r_spec_faRun : List PK := [{ t := Ty.pair (Ty.int IntKind.i64) (Ty.pair (Ty.int IntKind.i64) (Ty.int IntKind.i64)), agg := true }, { t := Ty.pair (Ty.int IntKind.i64) (Ty.pair (Ty.int IntKind.i64) (Ty.slice (123 : Nat) (Ty.pair (Ty.int IntKind.i64) (Ty.int IntKind.i64)))), agg := true }]
noncomputable def q_spec_faRun : List PK := [{ t := Ty.pair (Ty.int IntKind.i64) (Ty.pair (Ty.int IntKind.i64) (Ty.slice (123 : Nat) (Ty.pair (Ty.int IntKind.i64) (Ty.int IntKind.i64)))), agg := true }, { t := Ty.slice (87 : Nat) (Ty.pair (Ty.int IntKind.i64) (Ty.pair (Ty.int IntKind.i64) (Ty.int IntKind.i64))) }, { t := Ty.int IntKind.i64 }]
noncomputable def to_spec_faRun (r : (Int × Int × Int) × Int × Int × List (Int × Int)) : Tup r_spec_faRun × OutD := ((r.1, r.2, ()), none)
noncomputable def of_spec_faRun : Tup r_spec_faRun × OutD → Option ((Int × Int × Int) × Int × Int × List (Int × Int))
  | (a, none) => some (a.1, a.2.1)
  | _ => none
theorem to_of_spec_faRun : ∀ b r, of_spec_faRun b = some r → to_spec_faRun r = b := by
  rintro ⟨a, o⟩ r h
  cases o with
  | none => injection h with h; subst h; rfl
  | some _ => cases h
noncomputable def f_spec_faRun : Nat → Int × Int × List (Int × Int) → List (Int × Int × Int) → Int → Option ((Int × Int × Int) × Int × Int × List (Int × Int))
  | 0, _, _, _ => none
  | k + 1, p0, p1, p2 =>
    Option.bind (f_spec_ggGroups k (Prod.fst p0, Prod.fst (Prod.snd p0), Prod.snd (Prod.snd p0))) fun z0 => Option.bind (f_spec_faGo k (Prod.fst p0, Prod.fst (Prod.snd p0), Prod.snd (Prod.snd p0)) z0 p1 p2) fun z1 => some ((Prod.fst (Prod.fst z1), Prod.fst (Prod.snd (Prod.fst z1)), Prod.snd (Prod.snd (Prod.fst z1))), Prod.fst (Prod.snd z1), Prod.fst (Prod.snd (Prod.snd z1)), Prod.snd (Prod.snd (Prod.snd z1)))
noncomputable def d_spec_faRun : FnDef := .of q_spec_faRun r_spec_faRun ((Int × Int × Int) × Int × Int × List (Int × Int)) (fun k x => f_spec_faRun k x.1 x.2.1 x.2.2.1) to_spec_faRun of_spec_faRun to_of_spec_faRun
noncomputable def c_spec_faRun : Code := Try.f75.body.getD .skip
noncomputable def x_spec_faRun : Ctx (Tup r_spec_faRun × OutD) := { T := T, G := [(121, d_spec_ggGroups.E), (120, d_spec_faGo.E)], mvs := [], no := 0, n := 16, res := resOf T q_spec_faRun r_spec_faRun Try.f75.results.toList, loops := [], regs := [], conds := [] }
theorem g_spec_faRun (k : Nat) : EnvOK Try.prog k x_spec_faRun.G := (EnvOK.cons (s_spec_ggGroups k) (EnvOK.cons (s_spec_faGo k) (EnvOK.nil mixed)))
theorem h_spec_faRun (k : Nat) (x : Tup d_spec_faRun.ps) : d_spec_faRun.f (k + 1) x = fnK d_spec_faRun x_spec_faRun c_spec_faRun k x := by kernel_rfl
theorem z_spec_faRun (x : Tup d_spec_faRun.ps) : d_spec_faRun.f 0 x = none := by kernel_rfl
theorem l_spec_faRun (k : Nat) : LOK Try.prog x_spec_faRun k c_spec_faRun := LOK.by [] (by kernel_rfl) AllOK.nil
theorem s_spec_faRun (k : Nat) : SoundAt Try.prog k 75 d_spec_faRun.E := @fn_all Try.prog d_spec_faRun x_spec_faRun 75 Try.f75 c_spec_faRun (by kernel_rfl) (by kernel_rfl) (by kernel_rfl) Try.func75 (by kernel_rfl) (by kernel_rfl) (by kernel_rfl) T_ok g_spec_faRun l_spec_faRun z_spec_faRun h_spec_faRun k
/-! function 76 -/
noncomputable def r_impl_validEntry : List PK := [{ t := Ty.bool }]
noncomputable def q_impl_validEntry : List PK := [{ t := Ty.pair (Ty.int IntKind.i64) (Ty.pair (Ty.int IntKind.i64) (Ty.slice (123 : Nat) (Ty.pair (Ty.int IntKind.i64) (Ty.int IntKind.i64)))), agg := true }, { t := Ty.int IntKind.i64 }]
noncomputable def to_impl_validEntry (r : Bool) : Tup r_impl_validEntry × OutD := ((r, ()), none)
noncomputable def of_impl_validEntry : Tup r_impl_validEntry × OutD → Option (Bool)
  | (a, none) => some (a.1)
  | _ => none
theorem to_of_impl_validEntry : ∀ b r, of_impl_validEntry b = some r → to_impl_validEntry r = b := by
  rintro ⟨a, o⟩ r h
  cases o with
  | none => injection h with h; subst h; rfl
  | some _ => cases h
noncomputable def f_impl_validEntry : Nat → Int × Int × List (Int × Int) → Int → Option Bool
  | 0, _, _ => none
  | k + 1, p0, p1 =>
    Option.bind (f_impl_IsBoard k (Prod.fst p0, Prod.fst (Prod.snd p0), Prod.snd (Prod.snd p0))) fun z0 => if z0 = true then if decide (p1 ≥ (0 : Int)) = true then some (decide (p1 < Prod.fst (Prod.snd p0))) else some false else some false
noncomputable def d_impl_validEntry : FnDef := .of q_impl_validEntry r_impl_validEntry (Bool) (fun k x => f_impl_validEntry k x.1 x.2.1) to_impl_validEntry of_impl_validEntry to_of_impl_validEntry
noncomputable def c_impl_validEntry : Code := Try.f76.body.getD .skip
noncomputable def x_impl_validEntry : Ctx (Tup r_impl_validEntry × OutD) := { T := T, G := [(67, d_impl_IsBoard.E)], mvs := [], no := 0, n := 17, res := resOf T q_impl_validEntry r_impl_validEntry Try.f76.results.toList, loops := [], regs := [], conds := [] }
theorem g_impl_validEntry (k : Nat) : EnvOK Try.prog k x_impl_validEntry.G := (EnvOK.cons (s_impl_IsBoard k) (EnvOK.nil mixed))
theorem h_impl_validEntry (k : Nat) (x : Tup d_impl_validEntry.ps) : d_impl_validEntry.f (k + 1) x = fnK d_impl_validEntry x_impl_validEntry c_impl_validEntry k x := by kernel_rfl
theorem z_impl_validEntry (x : Tup d_impl_validEntry.ps) : d_impl_validEntry.f 0 x = none := by kernel_rfl
theorem l_impl_validEntry (k : Nat) : LOK Try.prog x_impl_validEntry k c_impl_validEntry := LOK.by [] (by kernel_rfl) AllOK.nil
theorem s_impl_validEntry (k : Nat) : SoundAt Try.prog k 76 d_impl_validEntry.E := @fn_all Try.prog d_impl_validEntry x_impl_validEntry 76 Try.f76 c_impl_validEntry (by kernel_rfl) (by kernel_rfl) (by kernel_rfl) Try.func76 (by kernel_rfl) (by kernel_rfl) (by kernel_rfl) T_ok g_impl_validEntry l_impl_validEntry z_impl_validEntry h_impl_validEntry k
/-! function 82 -/
noncomputable def r_spec_flAll : List PK := [{ t := Ty.slice (45 : Nat) (Ty.pair (Ty.int IntKind.i64) (Ty.pair (Ty.int IntKind.i64) (Ty.int IntKind.i64))) }, { t := Ty.pair (Ty.int IntKind.i64) (Ty.pair (Ty.int IntKind.i64) (Ty.slice (123 : Nat) (Ty.pair (Ty.int IntKind.i64) (Ty.int IntKind.i64)))), agg := true }]
noncomputable def q_spec_flAll : List PK := [{ t := Ty.pair (Ty.int IntKind.i64) (Ty.pair (Ty.int IntKind.i64) (Ty.slice (123 : Nat) (Ty.pair (Ty.int IntKind.i64) (Ty.int IntKind.i64)))), agg := true }, { t := Ty.slice (3 : Nat) (Ty.int IntKind.i64) }]
noncomputable def to_spec_flAll (r : List (Int × Int × Int) × Int × Int × List (Int × Int)) : Tup r_spec_flAll × OutD := ((r.1, r.2, ()), none)
noncomputable def of_spec_flAll : Tup r_spec_flAll × OutD → Option (List (Int × Int × Int) × Int × Int × List (Int × Int))
  | (a, none) => some (a.1, a.2.1)
  | _ => none
theorem to_of_spec_flAll : ∀ b r, of_spec_flAll b = some r → to_spec_flAll r = b := by
  rintro ⟨a, o⟩ r h
  cases o with
  | none => injection h with h; subst h; rfl
  | some _ => cases h
noncomputable def f_spec_flAll_g1 : Nat → Int → Int → List (Int × Int) → Int → Int → List (Int × Int) → List Int → Option (Int × Int × List (Int × Int) × Int × Int × List (Int × Int) × List Int × List Int) := fun k b1_0 b1_1 b1_2 b2_0 b2_1 o3 v1 =>
    Option.bind (f_spec_boOwn k (b1_0, b1_1, b1_2)) fun z0 => Option.bind (f_spec_ggGroups k (b1_0, b1_1, b1_2)) fun z1 => some (b2_0, b2_1, o3, Prod.fst z0, Prod.fst (Prod.snd z0), Prod.snd (Prod.snd z0), z1, v1)
noncomputable def f_spec_flAll_g1A : Nat → Int → Int → List (Int × Int) → Int → Int → List (Int × Int) → List Int → Option (List (Int × Int × List (Int × Int) × Int × Int × List (Int × Int) × List Int × List Int)) := fun k b1_0 b1_1 b1_2 b2_0 b2_1 o3 v1 =>
    joinL (Option.bind (f_spec_boOwn k (b1_0, b1_1, b1_2)) fun z2 => joinL (Option.bind (f_spec_ggGroups k (b1_0, b1_1, b1_2)) fun z3 => some [(b2_0, b2_1, o3, Prod.fst z2, Prod.fst (Prod.snd z2), Prod.snd (Prod.snd z2), z3, v1)]) (Option.bind (f_spec_ggGroups k (b1_0, b1_1, b1_2)) fun z4 => some [(b2_0, b2_1, o3, Prod.fst z2, Prod.fst (Prod.snd z2), Prod.snd (Prod.snd z2), z4, v1)])) (Option.bind (f_spec_boOwn k (b1_0, b1_1, b1_2)) fun z5 => Option.bind (f_spec_ggGroups k (b1_0, b1_1, b1_2)) fun z6 => some [(b2_0, b2_1, o3, Prod.fst z5, Prod.fst (Prod.snd z5), Prod.snd (Prod.snd z5), z6, v1)])
noncomputable def f_spec_flAll_g1i : Spec := { objs := [OSh.ro, OSh.box (32 : Nat) [Sh.int IntKind.i64, Sh.int IntKind.i64, Sh.snap (0 : Nat) (Ty.pair (Ty.int IntKind.i64) (Ty.int IntKind.i64))], OSh.box (32 : Nat) [Sh.int IntKind.i64, Sh.int IntKind.i64, Sh.sl (3 : Nat)], OSh.row true (123 : Nat) (Ty.pair (Ty.int IntKind.i64) (Ty.int IntKind.i64))], tmps := [((1 : Nat), TSh.at (Sh.snap (0 : Nat) (Ty.int IntKind.i64))), ((2 : Nat), TSh.at (Sh.ptr (1 : Nat) (0 : Nat))), ((5 : Nat), TSh.at (Sh.ptr (2 : Nat) (0 : Nat)))] }
noncomputable def f_spec_flAll_g1o : Spec := { objs := [OSh.ro, OSh.box (32 : Nat) [Sh.int IntKind.i64, Sh.int IntKind.i64, Sh.sl (2 : Nat)], OSh.row true (123 : Nat) (Ty.pair (Ty.int IntKind.i64) (Ty.int IntKind.i64)), OSh.box (32 : Nat) [Sh.int IntKind.i64, Sh.int IntKind.i64, Sh.sl (4 : Nat)], OSh.row true (123 : Nat) (Ty.pair (Ty.int IntKind.i64) (Ty.int IntKind.i64)), OSh.row true (3 : Nat) (Ty.int IntKind.i64)], tmps := [((1 : Nat), TSh.at (Sh.snap (0 : Nat) (Ty.int IntKind.i64))), ((5 : Nat), TSh.at (Sh.ptr (1 : Nat) (0 : Nat))), ((6 : Nat), TSh.at (Sh.ptr (3 : Nat) (0 : Nat))), ((7 : Nat), TSh.at (Sh.sl (5 : Nat)))] }
noncomputable def f_spec_flAll_g1D : LoopDef (Tup r_spec_flAll × OutD) := .plain f_spec_flAll_g1i f_spec_flAll_g1o (Int × Int × List (Int × Int) × Int × Int × List (Int × Int) × List Int × List Int) (fun k x => f_spec_flAll_g1 k x.1.2.1.1 x.1.2.1.2.1 x.1.2.1.2.2.1 x.1.2.2.1.1 x.1.2.2.1.2.1 x.1.2.2.2.1 x.2.1) (fun z => (((), (z.1, z.2.1, (), ()), z.2.2.1, (z.2.2.2.1, z.2.2.2.2.1, (), ()), z.2.2.2.2.2.1, z.2.2.2.2.2.2.1, ()), (z.2.2.2.2.2.2.2, (), (), (), ()))) (fun y => (y.1.2.1.1, y.1.2.1.2.1, y.1.2.2.1, y.1.2.2.2.1.1, y.1.2.2.2.1.2.1, y.1.2.2.2.2.1, y.1.2.2.2.2.2.1, y.2.1)) (fun _ => rfl)
theorem f_spec_flAll_g1j (k : Nat) (b1_0 : Int) (b1_1 : Int) (b1_2 : List (Int × Int)) (b2_0 : Int) (b2_1 : Int) (o3 : List (Int × Int)) (v1 : List Int) : f_spec_flAll_g1A k b1_0 b1_1 b1_2 b2_0 b2_1 o3 v1 = repl 3 (f_spec_flAll_g1 k b1_0 b1_1 b1_2 b2_0 b2_1 o3 v1) := by
  simp only [f_spec_flAll_g1A, f_spec_flAll_g1, repl_some, repl_ite, repl_ite0, repl_ite1, repl_bind, joinL_repl]
noncomputable def f_spec_flAll_0 : Nat → Int → Int → List (Int × Int) → Int → Int → List (Int × Int) → List Int → List (Int × Int × Int) → List Int → Int → Int → Option (Int × Int × List (Int × Int) × Int × Int × List (Int × Int) × List (Int × Int × Int))
  | 0, _, _, _, _, _, _, _, _, _, _, _ => none
  | k + 1, b1_0, b1_1, o2, b3_0, b3_1, o4, o5, o6, v18, v19, v20 =>
    if decide (v20 < v19) = true then if (0 : Int) ≤ v20 then if v20 < (↑(List.length v18) : Int) then Option.bind (f_spec_flGo k (b3_0, b3_1, o4) o5 (List.getD v18 (Int.toNat v20) (0 : Int))) fun z8 => if List.length o6 + List.length [(Prod.fst (Prod.fst z8), Prod.fst (Prod.snd (Prod.fst z8)), Prod.snd (Prod.snd (Prod.fst z8)))] ≤ (140737488355328 / 24 : Nat) then f_spec_flAll_0 k b1_0 b1_1 o2 (Prod.fst (Prod.fst (Prod.snd z8))) (Prod.fst (Prod.snd (Prod.fst (Prod.snd z8)))) (Prod.snd (Prod.snd (Prod.fst (Prod.snd z8)))) o5 (o6 ++ [(Prod.fst (Prod.fst z8), Prod.fst (Prod.snd (Prod.fst z8)), Prod.snd (Prod.snd (Prod.fst z8)))]) v18 v19 (wrap64 (v20 + (1 : Int))) else none else none else none else some (b1_0, b1_1, o2, b3_0, b3_1, o4, o6)
noncomputable def f_spec_flAll_0i : Spec := { objs := [OSh.ro, OSh.box (32 : Nat) [Sh.int IntKind.i64, Sh.int IntKind.i64, Sh.sl (2 : Nat)], OSh.row true (123 : Nat) (Ty.pair (Ty.int IntKind.i64) (Ty.int IntKind.i64)), OSh.box (32 : Nat) [Sh.int IntKind.i64, Sh.int IntKind.i64, Sh.sl (4 : Nat)], OSh.row true (123 : Nat) (Ty.pair (Ty.int IntKind.i64) (Ty.int IntKind.i64)), OSh.row true (3 : Nat) (Ty.int IntKind.i64), OSh.row true (45 : Nat) (Ty.pair (Ty.int IntKind.i64) (Ty.pair (Ty.int IntKind.i64) (Ty.int IntKind.i64)))], tmps := [((5 : Nat), TSh.at (Sh.ptr (1 : Nat) (0 : Nat))), ((6 : Nat), TSh.at (Sh.ptr (3 : Nat) (0 : Nat))), ((7 : Nat), TSh.at (Sh.sl (5 : Nat))), ((8 : Nat), TSh.at (Sh.sl (6 : Nat))), ((18 : Nat), TSh.at (Sh.snap (0 : Nat) (Ty.int IntKind.i64))), ((19 : Nat), TSh.at (Sh.int IntKind.i64)), ((20 : Nat), TSh.at (Sh.int IntKind.i64))] }
noncomputable def f_spec_flAll_0o : Spec := { objs := [OSh.ro, OSh.box (32 : Nat) [Sh.int IntKind.i64, Sh.int IntKind.i64, Sh.sl (2 : Nat)], OSh.row true (123 : Nat) (Ty.pair (Ty.int IntKind.i64) (Ty.int IntKind.i64)), OSh.box (32 : Nat) [Sh.int IntKind.i64, Sh.int IntKind.i64, Sh.sl (4 : Nat)], OSh.row true (123 : Nat) (Ty.pair (Ty.int IntKind.i64) (Ty.int IntKind.i64)), OSh.row true (45 : Nat) (Ty.pair (Ty.int IntKind.i64) (Ty.pair (Ty.int IntKind.i64) (Ty.int IntKind.i64)))], tmps := [((5 : Nat), TSh.at (Sh.ptr (1 : Nat) (0 : Nat))), ((6 : Nat), TSh.at (Sh.ptr (3 : Nat) (0 : Nat))), ((8 : Nat), TSh.at (Sh.sl (5 : Nat)))] }
noncomputable def f_spec_flAll_0D : LoopDef (Tup r_spec_flAll × OutD) := .plain f_spec_flAll_0i f_spec_flAll_0o (Int × Int × List (Int × Int) × Int × Int × List (Int × Int) × List (Int × Int × Int)) (fun k x => f_spec_flAll_0 k x.1.2.1.1 x.1.2.1.2.1 x.1.2.2.1 x.1.2.2.2.1.1 x.1.2.2.2.1.2.1 x.1.2.2.2.2.1 x.1.2.2.2.2.2.1 x.1.2.2.2.2.2.2.1 x.2.2.2.2.2.1 x.2.2.2.2.2.2.1 x.2.2.2.2.2.2.2.1) (fun z => (((), (z.1, z.2.1, (), ()), z.2.2.1, (z.2.2.2.1, z.2.2.2.2.1, (), ()), z.2.2.2.2.2.1, z.2.2.2.2.2.2, ()), ((), (), (), ()))) (fun y => (y.1.2.1.1, y.1.2.1.2.1, y.1.2.2.1, y.1.2.2.2.1.1, y.1.2.2.2.1.2.1, y.1.2.2.2.2.1, y.1.2.2.2.2.2.1)) (fun _ => rfl)
noncomputable def f_spec_flAll : Nat → Int × Int × List (Int × Int) → List Int → Option (List (Int × Int × Int) × Int × Int × List (Int × Int))
  | 0, _, _ => none
  | k + 1, p0, p1 =>
    Option.bind (f_spec_flAll_g1 k (Prod.fst p0) (Prod.fst (Prod.snd p0)) (Prod.snd (Prod.snd p0)) (0 : Int) (0 : Int) [] p1) fun z7 => Option.bind (f_spec_flAll_0 k (Prod.fst z7) (Prod.fst (Prod.snd z7)) (Prod.fst (Prod.snd (Prod.snd z7))) (Prod.fst (Prod.snd (Prod.snd (Prod.snd z7)))) (Prod.fst (Prod.snd (Prod.snd (Prod.snd (Prod.snd z7))))) (Prod.fst (Prod.snd (Prod.snd (Prod.snd (Prod.snd (Prod.snd z7)))))) (Prod.fst (Prod.snd (Prod.snd (Prod.snd (Prod.snd (Prod.snd (Prod.snd z7))))))) [] (Prod.snd (Prod.snd (Prod.snd (Prod.snd (Prod.snd (Prod.snd (Prod.snd z7))))))) (↑(List.length (Prod.snd (Prod.snd (Prod.snd (Prod.snd (Prod.snd (Prod.snd (Prod.snd z7)))))))) : Int) (0 : Int)) fun z9 => some (Prod.snd (Prod.snd (Prod.snd (Prod.snd (Prod.snd (Prod.snd z9))))), Prod.fst (Prod.snd (Prod.snd (Prod.snd z9))), Prod.fst (Prod.snd (Prod.snd (Prod.snd (Prod.snd z9)))), Prod.fst (Prod.snd (Prod.snd (Prod.snd (Prod.snd (Prod.snd z9))))))
noncomputable def d_spec_flAll : FnDef := .of q_spec_flAll r_spec_flAll (List (Int × Int × Int) × Int × Int × List (Int × Int)) (fun k x => f_spec_flAll k x.1 x.2.1) to_spec_flAll of_spec_flAll to_of_spec_flAll
noncomputable def c_spec_flAll : Code := Try.f82.body.getD .skip
noncomputable def x_spec_flAll : Ctx (Tup r_spec_flAll × OutD) := { T := T, G := [(129, d_spec_boOwn.E), (121, d_spec_ggGroups.E), (130, d_spec_flGo.E)], mvs := [], no := 0, n := 40, res := resOf T q_spec_flAll r_spec_flAll Try.f82.results.toList, loops := [(0, f_spec_flAll_0D.E)], regs := [(1, f_spec_flAll_g1D.E)], conds := [] }
theorem g_spec_flAll (k : Nat) : EnvOK Try.prog k x_spec_flAll.G := (EnvOK.cons (s_spec_boOwn k) (EnvOK.cons (s_spec_ggGroups k) (EnvOK.cons (s_spec_flGo k) (EnvOK.nil mixed))))
noncomputable def f_spec_flAll_g1O : Array Oper := (findReg 1 c_spec_flAll).getD #[]
theorem f_spec_flAll_g1e (k : Nat) (x : f_spec_flAll_g1i.D) : execD x_spec_flAll.T x_spec_flAll.G x_spec_flAll.mvs k f_spec_flAll_g1O (f_spec_flAll_g1D.inp.st x_spec_flAll.n x) (outK x_spec_flAll f_spec_flAll_g1D) = f_spec_flAll_g1A k x.1.2.1.1 x.1.2.1.2.1 x.1.2.1.2.2.1 x.1.2.2.1.1 x.1.2.2.1.2.1 x.1.2.2.2.1 x.2.1 := by kernel_rfl
theorem f_spec_flAll_g1ok (k : Nat) : EOK Try.prog x_spec_flAll k f_spec_flAll_g1D.E (.region 1 f_spec_flAll_g1O true) := reg_ok (D := f_spec_flAll_g1D) (m := 3) T_ok (g_spec_flAll k) (fun x => (f_spec_flAll_g1e k x).trans (f_spec_flAll_g1j k x.1.2.1.1 x.1.2.1.2.1 x.1.2.1.2.2.1 x.1.2.2.1.1 x.1.2.2.1.2.1 x.1.2.2.2.1 x.2.1))
noncomputable def f_spec_flAll_0B : Code := (findLoop 0 c_spec_flAll).getD .skip
theorem f_spec_flAll_0h (k : Nat) (x : f_spec_flAll_0i.D) : f_spec_flAll_0D.lp (k + 1) x = loopK x_spec_flAll f_spec_flAll_0D 0 f_spec_flAll_0B k x := by kernel_rfl
theorem f_spec_flAll_0l (k : Nat) : LOK Try.prog x_spec_flAll k f_spec_flAll_0B := LOK.by [] (by kernel_rfl) AllOK.nil
theorem f_spec_flAll_0z (x : f_spec_flAll_0i.D) : f_spec_flAll_0D.lp 0 x = none := by kernel_rfl
theorem f_spec_flAll_0ok (k : Nat) : EOK Try.prog x_spec_flAll k f_spec_flAll_0D.E (.block 0 (.loop f_spec_flAll_0B)) := loop_ok T_ok g_spec_flAll f_spec_flAll_0z f_spec_flAll_0h f_spec_flAll_0l k
theorem h_spec_flAll (k : Nat) (x : Tup d_spec_flAll.ps) : d_spec_flAll.f (k + 1) x = fnK d_spec_flAll x_spec_flAll c_spec_flAll k x := by kernel_rfl
theorem z_spec_flAll (x : Tup d_spec_flAll.ps) : d_spec_flAll.f 0 x = none := by kernel_rfl
theorem l_spec_flAll (k : Nat) : LOK Try.prog x_spec_flAll k c_spec_flAll := LOK.by [(f_spec_flAll_g1D.E, .region 1 f_spec_flAll_g1O true), (f_spec_flAll_0D.E, .block 0 (.loop f_spec_flAll_0B))] (by kernel_rfl) (AllOK.cons (f_spec_flAll_g1ok k) (AllOK.cons (f_spec_flAll_0ok k) AllOK.nil))
theorem s_spec_flAll (k : Nat) : SoundAt Try.prog k 82 d_spec_flAll.E := @fn_all Try.prog d_spec_flAll x_spec_flAll 82 Try.f82 c_spec_flAll (by kernel_rfl) (by kernel_rfl) (by kernel_rfl) Try.func82 (by kernel_rfl) (by kernel_rfl) (by kernel_rfl) T_ok g_spec_flAll l_spec_flAll z_spec_flAll h_spec_flAll k
/-! function 85 -/
noncomputable def r_impl_dropAll : List PK := [{ t := Ty.slice (45 : Nat) (Ty.pair (Ty.int IntKind.i64) (Ty.pair (Ty.int IntKind.i64) (Ty.int IntKind.i64))) }, { t := Ty.pair (Ty.int IntKind.i64) (Ty.pair (Ty.int IntKind.i64) (Ty.slice (123 : Nat) (Ty.pair (Ty.int IntKind.i64) (Ty.int IntKind.i64)))), agg := true }]
noncomputable def q_impl_dropAll : List PK := [{ t := Ty.pair (Ty.int IntKind.i64) (Ty.pair (Ty.int IntKind.i64) (Ty.slice (123 : Nat) (Ty.pair (Ty.int IntKind.i64) (Ty.int IntKind.i64)))), agg := true }, { t := Ty.slice (3 : Nat) (Ty.int IntKind.i64) }]
noncomputable def to_impl_dropAll (r : List (Int × Int × Int) × Int × Int × List (Int × Int)) : Tup r_impl_dropAll × OutD := ((r.1, r.2, ()), none)
noncomputable def of_impl_dropAll : Tup r_impl_dropAll × OutD → Option (List (Int × Int × Int) × Int × Int × List (Int × Int))
  | (a, none) => some (a.1, a.2.1)
  | _ => none
theorem to_of_impl_dropAll : ∀ b r, of_impl_dropAll b = some r → to_impl_dropAll r = b := by
  rintro ⟨a, o⟩ r h
  cases o with
  | none => injection h with h; subst h; rfl
  | some _ => cases h
noncomputable def f_impl_dropAll_0 : Nat → Int → Int → List (Int × Int) → Int → Int → List (Int × Int) → List Int → List (Int × Int × Int) → List Int → Int → Int → Option (Int × Int × List (Int × Int) × Int × Int × List (Int × Int) × List (Int × Int × Int))
  | 0, _, _, _, _, _, _, _, _, _, _, _ => none
  | k + 1, b1_0, b1_1, o2, b3_0, b3_1, o4, o5, o6, v18, v19, v20 =>
    if decide (v20 < v19) = true then if (0 : Int) ≤ v20 then if v20 < (↑(List.length v18) : Int) then Option.bind (f_impl_drop k (b3_0, b3_1, o4) o5 (List.getD v18 (Int.toNat v20) (0 : Int))) fun z2 => if List.length o6 + List.length [(Prod.fst (Prod.fst z2), Prod.fst (Prod.snd (Prod.fst z2)), Prod.snd (Prod.snd (Prod.fst z2)))] ≤ (140737488355328 / 24 : Nat) then f_impl_dropAll_0 k b1_0 b1_1 o2 b3_0 b3_1 (Prod.snd (Prod.snd z2)) o5 (o6 ++ [(Prod.fst (Prod.fst z2), Prod.fst (Prod.snd (Prod.fst z2)), Prod.snd (Prod.snd (Prod.fst z2)))]) v18 v19 (wrap64 (v20 + (1 : Int))) else none else none else none else some (b1_0, b1_1, o2, b3_0, b3_1, o4, o6)
noncomputable def f_impl_dropAll_0i : Spec := { objs := [OSh.ro, OSh.box (32 : Nat) [Sh.int IntKind.i64, Sh.int IntKind.i64, Sh.sl (2 : Nat)], OSh.row true (123 : Nat) (Ty.pair (Ty.int IntKind.i64) (Ty.int IntKind.i64)), OSh.box (32 : Nat) [Sh.int IntKind.i64, Sh.int IntKind.i64, Sh.sl (4 : Nat)], OSh.row true (123 : Nat) (Ty.pair (Ty.int IntKind.i64) (Ty.int IntKind.i64)), OSh.row true (3 : Nat) (Ty.int IntKind.i64), OSh.row true (45 : Nat) (Ty.pair (Ty.int IntKind.i64) (Ty.pair (Ty.int IntKind.i64) (Ty.int IntKind.i64)))], tmps := [((5 : Nat), TSh.at (Sh.ptr (1 : Nat) (0 : Nat))), ((6 : Nat), TSh.at (Sh.ptr (3 : Nat) (0 : Nat))), ((7 : Nat), TSh.at (Sh.sl (5 : Nat))), ((8 : Nat), TSh.at (Sh.sl (6 : Nat))), ((18 : Nat), TSh.at (Sh.snap (0 : Nat) (Ty.int IntKind.i64))), ((19 : Nat), TSh.at (Sh.int IntKind.i64)), ((20 : Nat), TSh.at (Sh.int IntKind.i64))] }
noncomputable def f_impl_dropAll_0o : Spec := { objs := [OSh.ro, OSh.box (32 : Nat) [Sh.int IntKind.i64, Sh.int IntKind.i64, Sh.sl (2 : Nat)], OSh.row true (123 : Nat) (Ty.pair (Ty.int IntKind.i64) (Ty.int IntKind.i64)), OSh.box (32 : Nat) [Sh.int IntKind.i64, Sh.int IntKind.i64, Sh.sl (4 : Nat)], OSh.row true (123 : Nat) (Ty.pair (Ty.int IntKind.i64) (Ty.int IntKind.i64)), OSh.row true (45 : Nat) (Ty.pair (Ty.int IntKind.i64) (Ty.pair (Ty.int IntKind.i64) (Ty.int IntKind.i64)))], tmps := [((5 : Nat), TSh.at (Sh.ptr (1 : Nat) (0 : Nat))), ((6 : Nat), TSh.at (Sh.ptr (3 : Nat) (0 : Nat))), ((8 : Nat), TSh.at (Sh.sl (5 : Nat)))] }
noncomputable def f_impl_dropAll_0D : LoopDef (Tup r_impl_dropAll × OutD) := .plain f_impl_dropAll_0i f_impl_dropAll_0o (Int × Int × List (Int × Int) × Int × Int × List (Int × Int) × List (Int × Int × Int)) (fun k x => f_impl_dropAll_0 k x.1.2.1.1 x.1.2.1.2.1 x.1.2.2.1 x.1.2.2.2.1.1 x.1.2.2.2.1.2.1 x.1.2.2.2.2.1 x.1.2.2.2.2.2.1 x.1.2.2.2.2.2.2.1 x.2.2.2.2.2.1 x.2.2.2.2.2.2.1 x.2.2.2.2.2.2.2.1) (fun z => (((), (z.1, z.2.1, (), ()), z.2.2.1, (z.2.2.2.1, z.2.2.2.2.1, (), ()), z.2.2.2.2.2.1, z.2.2.2.2.2.2, ()), ((), (), (), ()))) (fun y => (y.1.2.1.1, y.1.2.1.2.1, y.1.2.2.1, y.1.2.2.2.1.1, y.1.2.2.2.1.2.1, y.1.2.2.2.2.1, y.1.2.2.2.2.2.1)) (fun _ => rfl)
noncomputable def f_impl_dropAll : Nat → Int × Int × List (Int × Int) → List Int → Option (List (Int × Int × Int) × Int × Int × List (Int × Int))
  | 0, _, _ => none
  | k + 1, p0, p1 =>
    Option.bind (f_impl_copyBoard k (Prod.fst p0, Prod.fst (Prod.snd p0), Prod.snd (Prod.snd p0))) fun z0 => Option.bind (f_impl_groupNumbers k (Prod.fst p0, Prod.fst (Prod.snd p0), Prod.snd (Prod.snd p0))) fun z1 => Option.bind (f_impl_dropAll_0 k (0 : Int) (0 : Int) [] (Prod.fst z0) (Prod.fst (Prod.snd z0)) (Prod.snd (Prod.snd z0)) z1 [] p1 (↑(List.length p1) : Int) (0 : Int)) fun z3 => some (Prod.snd (Prod.snd (Prod.snd (Prod.snd (Prod.snd (Prod.snd z3))))), Prod.fst (Prod.snd (Prod.snd (Prod.snd z3))), Prod.fst (Prod.snd (Prod.snd (Prod.snd (Prod.snd z3)))), Prod.fst (Prod.snd (Prod.snd (Prod.snd (Prod.snd (Prod.snd z3))))))
noncomputable def d_impl_dropAll : FnDef := .of q_impl_dropAll r_impl_dropAll (List (Int × Int × Int) × Int × Int × List (Int × Int)) (fun k x => f_impl_dropAll k x.1 x.2.1) to_impl_dropAll of_impl_dropAll to_of_impl_dropAll
noncomputable def c_impl_dropAll : Code := Try.f85.body.getD .skip
noncomputable def x_impl_dropAll : Ctx (Tup r_impl_dropAll × OutD) := { T := T, G := [(78, d_impl_copyBoard.E), (79, d_impl_groupNumbers.E), (131, d_impl_drop.E)], mvs := [], no := 0, n := 38, res := resOf T q_impl_dropAll r_impl_dropAll Try.f85.results.toList, loops := [(0, f_impl_dropAll_0D.E)], regs := [], conds := [] }
theorem g_impl_dropAll (k : Nat) : EnvOK Try.prog k x_impl_dropAll.G := (EnvOK.cons (s_impl_copyBoard k) (EnvOK.cons (s_impl_groupNumbers k) (EnvOK.cons (s_impl_drop k) (EnvOK.nil mixed))))
noncomputable def f_impl_dropAll_0B : Code := (findLoop 0 c_impl_dropAll).getD .skip
theorem f_impl_dropAll_0h (k : Nat) (x : f_impl_dropAll_0i.D) : f_impl_dropAll_0D.lp (k + 1) x = loopK x_impl_dropAll f_impl_dropAll_0D 0 f_impl_dropAll_0B k x := by kernel_rfl
theorem f_impl_dropAll_0l (k : Nat) : LOK Try.prog x_impl_dropAll k f_impl_dropAll_0B := LOK.by [] (by kernel_rfl) AllOK.nil
theorem f_impl_dropAll_0z (x : f_impl_dropAll_0i.D) : f_impl_dropAll_0D.lp 0 x = none := by kernel_rfl
theorem f_impl_dropAll_0ok (k : Nat) : EOK Try.prog x_impl_dropAll k f_impl_dropAll_0D.E (.block 0 (.loop f_impl_dropAll_0B)) := loop_ok T_ok g_impl_dropAll f_impl_dropAll_0z f_impl_dropAll_0h f_impl_dropAll_0l k
theorem h_impl_dropAll (k : Nat) (x : Tup d_impl_dropAll.ps) : d_impl_dropAll.f (k + 1) x = fnK d_impl_dropAll x_impl_dropAll c_impl_dropAll k x := by kernel_rfl
theorem z_impl_dropAll (x : Tup d_impl_dropAll.ps) : d_impl_dropAll.f 0 x = none := by kernel_rfl
theorem l_impl_dropAll (k : Nat) : LOK Try.prog x_impl_dropAll k c_impl_dropAll := LOK.by [(f_impl_dropAll_0D.E, .block 0 (.loop f_impl_dropAll_0B))] (by kernel_rfl) (AllOK.cons (f_impl_dropAll_0ok k) AllOK.nil)
theorem s_impl_dropAll (k : Nat) : SoundAt Try.prog k 85 d_impl_dropAll.E := @fn_all Try.prog d_impl_dropAll x_impl_dropAll 85 Try.f85 c_impl_dropAll (by kernel_rfl) (by kernel_rfl) (by kernel_rfl) Try.func85 (by kernel_rfl) (by kernel_rfl) (by kernel_rfl) T_ok g_impl_dropAll l_impl_dropAll z_impl_dropAll h_impl_dropAll k
/-! function 87 -/
noncomputable def r_spec_flColumns : List PK := [{ t := Ty.bool }]
noncomputable def q_spec_flColumns : List PK := [{ t := Ty.pair (Ty.int IntKind.i64) (Ty.pair (Ty.int IntKind.i64) (Ty.slice (123 : Nat) (Ty.pair (Ty.int IntKind.i64) (Ty.int IntKind.i64)))), agg := true }, { t := Ty.slice (3 : Nat) (Ty.int IntKind.i64) }]
noncomputable def to_spec_flColumns (r : Bool) : Tup r_spec_flColumns × OutD := ((r, ()), none)
noncomputable def of_spec_flColumns : Tup r_spec_flColumns × OutD → Option (Bool)
  | (a, none) => some (a.1)
  | _ => none
theorem to_of_spec_flColumns : ∀ b r, of_spec_flColumns b = some r → to_spec_flColumns r = b := by
  rintro ⟨a, o⟩ r h
  cases o with
  | none => injection h with h; subst h; rfl
  | some _ => cases h
noncomputable def f_spec_flColumns : Nat → Int × Int × List (Int × Int) → List Int → Option Bool
  | 0, _, _ => none
  | k + 1, p0, p1 =>
    Option.bind (f_spec_boGood k (Prod.fst p0, Prod.fst (Prod.snd p0), Prod.snd (Prod.snd p0))) fun z0 => if z0 = true then if decide ((↑(List.length p1) : Int) ≤ (60 : Int)) = true then Option.bind (f_spec_l1All k p1 (0 : Int) (wrap64 (Prod.fst (Prod.snd p0) - (1 : Int)))) fun z1 => some z1 else some false else some false
noncomputable def d_spec_flColumns : FnDef := .of q_spec_flColumns r_spec_flColumns (Bool) (fun k x => f_spec_flColumns k x.1 x.2.1) to_spec_flColumns of_spec_flColumns to_of_spec_flColumns
noncomputable def c_spec_flColumns : Code := Try.f87.body.getD .skip
noncomputable def x_spec_flColumns : Ctx (Tup r_spec_flColumns × OutD) := { T := T, G := [(63, d_spec_boGood.E), (128, d_spec_l1All.E)], mvs := [], no := 0, n := 19, res := resOf T q_spec_flColumns r_spec_flColumns Try.f87.results.toList, loops := [], regs := [], conds := [] }
theorem g_spec_flColumns (k : Nat) : EnvOK Try.prog k x_spec_flColumns.G := (EnvOK.cons (s_spec_boGood k) (EnvOK.cons (s_spec_l1All k) (EnvOK.nil mixed)))
theorem h_spec_flColumns (k : Nat) (x : Tup d_spec_flColumns.ps) : d_spec_flColumns.f (k + 1) x = fnK d_spec_flColumns x_spec_flColumns c_spec_flColumns k x := by kernel_rfl
theorem z_spec_flColumns (x : Tup d_spec_flColumns.ps) : d_spec_flColumns.f 0 x = none := by kernel_rfl
theorem l_spec_flColumns (k : Nat) : LOK Try.prog x_spec_flColumns k c_spec_flColumns := LOK.by [] (by kernel_rfl) AllOK.nil
theorem s_spec_flColumns (k : Nat) : SoundAt Try.prog k 87 d_spec_flColumns.E := @fn_all Try.prog d_spec_flColumns x_spec_flColumns 87 Try.f87 c_spec_flColumns (by kernel_rfl) (by kernel_rfl) (by kernel_rfl) Try.func87 (by kernel_rfl) (by kernel_rfl) (by kernel_rfl) T_ok g_spec_flColumns l_spec_flColumns z_spec_flColumns h_spec_flColumns k
/-! function 97 -/
noncomputable def r_impl_validEntries : List PK := [{ t := Ty.bool }]
noncomputable def q_impl_validEntries : List PK := [{ t := Ty.pair (Ty.int IntKind.i64) (Ty.pair (Ty.int IntKind.i64) (Ty.slice (123 : Nat) (Ty.pair (Ty.int IntKind.i64) (Ty.int IntKind.i64)))), agg := true }, { t := Ty.slice (3 : Nat) (Ty.int IntKind.i64) }]
noncomputable def to_impl_validEntries (r : Bool) : Tup r_impl_validEntries × OutD := ((r, ()), none)
noncomputable def of_impl_validEntries : Tup r_impl_validEntries × OutD → Option (Bool)
  | (a, none) => some (a.1)
  | _ => none
theorem to_of_impl_validEntries : ∀ b r, of_impl_validEntries b = some r → to_impl_validEntries r = b := by
  rintro ⟨a, o⟩ r h
  cases o with
  | none => injection h with h; subst h; rfl
  | some _ => cases h
noncomputable def f_impl_validEntries_0 : Nat → Int → Int → List (Int × Int) → List Int → Int → Int → Option (LR Unit Bool)
  | 0, _, _, _, _, _, _ => none
  | k + 1, b1_0, b1_1, b1_2, v15, v16, v17 =>
    if decide (v17 < v16) = true then if (0 : Int) ≤ v17 then if v17 < (↑(List.length v15) : Int) then if decide (List.getD v15 (Int.toNat v17) (0 : Int) < (0 : Int)) = true then some (LR.ret false) else if decide (List.getD v15 (Int.toNat v17) (0 : Int) ≥ b1_1) = true then some (LR.ret false) else f_impl_validEntries_0 k b1_0 b1_1 b1_2 v15 v16 (wrap64 (v17 + (1 : Int))) else none else none else some (LR.go ())
noncomputable def f_impl_validEntries_0i : Spec := { objs := [OSh.ro, OSh.box (32 : Nat) [Sh.int IntKind.i64, Sh.int IntKind.i64, Sh.snap (0 : Nat) (Ty.pair (Ty.int IntKind.i64) (Ty.int IntKind.i64))]], tmps := [((2 : Nat), TSh.at (Sh.ptr (1 : Nat) (0 : Nat))), ((15 : Nat), TSh.at (Sh.snap (0 : Nat) (Ty.int IntKind.i64))), ((16 : Nat), TSh.at (Sh.int IntKind.i64)), ((17 : Nat), TSh.at (Sh.int IntKind.i64))] }
noncomputable def f_impl_validEntries_0o : Spec := { objs := [OSh.ro], tmps := [] }
noncomputable def f_impl_validEntries_0D : LoopDef (Tup r_impl_validEntries × OutD) := .rets f_impl_validEntries_0i f_impl_validEntries_0o (Unit) (Bool) (fun k x => f_impl_validEntries_0 k x.1.2.1.1 x.1.2.1.2.1 x.1.2.1.2.2.1 x.2.2.1 x.2.2.2.1 x.2.2.2.2.1) (fun z => (((), ()), (()))) (fun y => ()) (fun _ => rfl) to_impl_validEntries of_impl_validEntries to_of_impl_validEntries
noncomputable def f_impl_validEntries : Nat → Int × Int × List (Int × Int) → List Int → Option Bool
  | 0, _, _ => none
  | k + 1, p0, p1 =>
    Option.bind (f_impl_IsBoard k (Prod.fst p0, Prod.fst (Prod.snd p0), Prod.snd (Prod.snd p0))) fun z0 => if (!z0) = true then some false else if decide ((↑(List.length p1) : Int) > (60 : Int)) = true then some false else Option.bind (f_impl_validEntries_0 k (Prod.fst p0) (Prod.fst (Prod.snd p0)) (Prod.snd (Prod.snd p0)) p1 (↑(List.length p1) : Int) (0 : Int)) fun z1 => LR.on z1 (fun y1 => some true) fun r1 => some r1
noncomputable def d_impl_validEntries : FnDef := .of q_impl_validEntries r_impl_validEntries (Bool) (fun k x => f_impl_validEntries k x.1 x.2.1) to_impl_validEntries of_impl_validEntries to_of_impl_validEntries
noncomputable def c_impl_validEntries : Code := Try.f97.body.getD .skip
noncomputable def x_impl_validEntries : Ctx (Tup r_impl_validEntries × OutD) := { T := T, G := [(67, d_impl_IsBoard.E)], mvs := [], no := 0, n := 30, res := resOf T q_impl_validEntries r_impl_validEntries Try.f97.results.toList, loops := [(0, f_impl_validEntries_0D.E)], regs := [], conds := [] }
theorem g_impl_validEntries (k : Nat) : EnvOK Try.prog k x_impl_validEntries.G := (EnvOK.cons (s_impl_IsBoard k) (EnvOK.nil mixed))
noncomputable def f_impl_validEntries_0B : Code := (findLoop 0 c_impl_validEntries).getD .skip
theorem f_impl_validEntries_0h (k : Nat) (x : f_impl_validEntries_0i.D) : f_impl_validEntries_0D.lp (k + 1) x = loopK x_impl_validEntries f_impl_validEntries_0D 0 f_impl_validEntries_0B k x := by kernel_rfl
theorem f_impl_validEntries_0l (k : Nat) : LOK Try.prog x_impl_validEntries k f_impl_validEntries_0B := LOK.by [] (by kernel_rfl) AllOK.nil
theorem f_impl_validEntries_0z (x : f_impl_validEntries_0i.D) : f_impl_validEntries_0D.lp 0 x = none := by kernel_rfl
theorem f_impl_validEntries_0ok (k : Nat) : EOK Try.prog x_impl_validEntries k f_impl_validEntries_0D.E (.block 0 (.loop f_impl_validEntries_0B)) := loop_ok T_ok g_impl_validEntries f_impl_validEntries_0z f_impl_validEntries_0h f_impl_validEntries_0l k
theorem h_impl_validEntries (k : Nat) (x : Tup d_impl_validEntries.ps) : d_impl_validEntries.f (k + 1) x = fnK d_impl_validEntries x_impl_validEntries c_impl_validEntries k x := by kernel_rfl
theorem z_impl_validEntries (x : Tup d_impl_validEntries.ps) : d_impl_validEntries.f 0 x = none := by kernel_rfl
theorem l_impl_validEntries (k : Nat) : LOK Try.prog x_impl_validEntries k c_impl_validEntries := LOK.by [(f_impl_validEntries_0D.E, .block 0 (.loop f_impl_validEntries_0B))] (by kernel_rfl) (AllOK.cons (f_impl_validEntries_0ok k) AllOK.nil)
theorem s_impl_validEntries (k : Nat) : SoundAt Try.prog k 97 d_impl_validEntries.E := @fn_all Try.prog d_impl_validEntries x_impl_validEntries 97 Try.f97 c_impl_validEntries (by kernel_rfl) (by kernel_rfl) (by kernel_rfl) Try.func97 (by kernel_rfl) (by kernel_rfl) (by kernel_rfl) T_ok g_impl_validEntries l_impl_validEntries z_impl_validEntries h_impl_validEntries k
/-! function 106 -/
noncomputable def r_spec_faAll : List PK := [{ t := Ty.slice (45 : Nat) (Ty.pair (Ty.int IntKind.i64) (Ty.pair (Ty.int IntKind.i64) (Ty.int IntKind.i64))) }, { t := Ty.pair (Ty.int IntKind.i64) (Ty.pair (Ty.int IntKind.i64) (Ty.slice (123 : Nat) (Ty.pair (Ty.int IntKind.i64) (Ty.int IntKind.i64)))), agg := true }]
noncomputable def q_spec_faAll : List PK := [{ t := Ty.pair (Ty.int IntKind.i64) (Ty.pair (Ty.int IntKind.i64) (Ty.slice (123 : Nat) (Ty.pair (Ty.int IntKind.i64) (Ty.int IntKind.i64)))), agg := true }, { t := Ty.slice (87 : Nat) (Ty.pair (Ty.int IntKind.i64) (Ty.pair (Ty.int IntKind.i64) (Ty.int IntKind.i64))) }, { t := Ty.slice (3 : Nat) (Ty.int IntKind.i64) }]
noncomputable def to_spec_faAll (r : List (Int × Int × Int) × Int × Int × List (Int × Int)) : Tup r_spec_faAll × OutD := ((r.1, r.2, ()), none)
noncomputable def of_spec_faAll : Tup r_spec_faAll × OutD → Option (List (Int × Int × Int) × Int × Int × List (Int × Int))
  | (a, none) => some (a.1, a.2.1)
  | _ => none
theorem to_of_spec_faAll : ∀ b r, of_spec_faAll b = some r → to_spec_faAll r = b := by
  rintro ⟨a, o⟩ r h
  cases o with
  | none => injection h with h; subst h; rfl
  | some _ => cases h
noncomputable def f_spec_faAll_g1 : Nat → Int → Int → List (Int × Int) → Int → Int → List (Int × Int) → List (Int × Int × Int) → List Int → Option (Int × Int × List (Int × Int) × Int × Int × List (Int × Int) × List Int × List (Int × Int × Int) × List Int) := fun k b1_0 b1_1 b1_2 b2_0 b2_1 o3 v1 v2 =>
    Option.bind (f_spec_boOwn k (b1_0, b1_1, b1_2)) fun z0 => Option.bind (f_spec_ggGroups k (b1_0, b1_1, b1_2)) fun z1 => some (b2_0, b2_1, o3, Prod.fst z0, Prod.fst (Prod.snd z0), Prod.snd (Prod.snd z0), z1, v1, v2)
noncomputable def f_spec_faAll_g1A : Nat → Int → Int → List (Int × Int) → Int → Int → List (Int × Int) → List (Int × Int × Int) → List Int → Option (List (Int × Int × List (Int × Int) × Int × Int × List (Int × Int) × List Int × List (Int × Int × Int) × List Int)) := fun k b1_0 b1_1 b1_2 b2_0 b2_1 o3 v1 v2 =>
    joinL (Option.bind (f_spec_boOwn k (b1_0, b1_1, b1_2)) fun z2 => joinL (Option.bind (f_spec_ggGroups k (b1_0, b1_1, b1_2)) fun z3 => some [(b2_0, b2_1, o3, Prod.fst z2, Prod.fst (Prod.snd z2), Prod.snd (Prod.snd z2), z3, v1, v2)]) (Option.bind (f_spec_ggGroups k (b1_0, b1_1, b1_2)) fun z4 => some [(b2_0, b2_1, o3, Prod.fst z2, Prod.fst (Prod.snd z2), Prod.snd (Prod.snd z2), z4, v1, v2)])) (Option.bind (f_spec_boOwn k (b1_0, b1_1, b1_2)) fun z5 => Option.bind (f_spec_ggGroups k (b1_0, b1_1, b1_2)) fun z6 => some [(b2_0, b2_1, o3, Prod.fst z5, Prod.fst (Prod.snd z5), Prod.snd (Prod.snd z5), z6, v1, v2)])
noncomputable def f_spec_faAll_g1i : Spec := { objs := [OSh.ro, OSh.box (32 : Nat) [Sh.int IntKind.i64, Sh.int IntKind.i64, Sh.snap (0 : Nat) (Ty.pair (Ty.int IntKind.i64) (Ty.int IntKind.i64))], OSh.box (32 : Nat) [Sh.int IntKind.i64, Sh.int IntKind.i64, Sh.sl (3 : Nat)], OSh.row true (123 : Nat) (Ty.pair (Ty.int IntKind.i64) (Ty.int IntKind.i64))], tmps := [((1 : Nat), TSh.at (Sh.snap (0 : Nat) (Ty.pair (Ty.int IntKind.i64) (Ty.pair (Ty.int IntKind.i64) (Ty.int IntKind.i64))))), ((2 : Nat), TSh.at (Sh.snap (0 : Nat) (Ty.int IntKind.i64))), ((3 : Nat), TSh.at (Sh.ptr (1 : Nat) (0 : Nat))), ((7 : Nat), TSh.at (Sh.ptr (2 : Nat) (0 : Nat)))] }
noncomputable def f_spec_faAll_g1o : Spec := { objs := [OSh.ro, OSh.box (32 : Nat) [Sh.int IntKind.i64, Sh.int IntKind.i64, Sh.sl (2 : Nat)], OSh.row true (123 : Nat) (Ty.pair (Ty.int IntKind.i64) (Ty.int IntKind.i64)), OSh.box (32 : Nat) [Sh.int IntKind.i64, Sh.int IntKind.i64, Sh.sl (4 : Nat)], OSh.row true (123 : Nat) (Ty.pair (Ty.int IntKind.i64) (Ty.int IntKind.i64)), OSh.row true (3 : Nat) (Ty.int IntKind.i64)], tmps := [((1 : Nat), TSh.at (Sh.snap (0 : Nat) (Ty.pair (Ty.int IntKind.i64) (Ty.pair (Ty.int IntKind.i64) (Ty.int IntKind.i64))))), ((2 : Nat), TSh.at (Sh.snap (0 : Nat) (Ty.int IntKind.i64))), ((7 : Nat), TSh.at (Sh.ptr (1 : Nat) (0 : Nat))), ((8 : Nat), TSh.at (Sh.ptr (3 : Nat) (0 : Nat))), ((9 : Nat), TSh.at (Sh.sl (5 : Nat)))] }
noncomputable def f_spec_faAll_g1D : LoopDef (Tup r_spec_faAll × OutD) := .plain f_spec_faAll_g1i f_spec_faAll_g1o (Int × Int × List (Int × Int) × Int × Int × List (Int × Int) × List Int × List (Int × Int × Int) × List Int) (fun k x => f_spec_faAll_g1 k x.1.2.1.1 x.1.2.1.2.1 x.1.2.1.2.2.1 x.1.2.2.1.1 x.1.2.2.1.2.1 x.1.2.2.2.1 x.2.1 x.2.2.1) (fun z => (((), (z.1, z.2.1, (), ()), z.2.2.1, (z.2.2.2.1, z.2.2.2.2.1, (), ()), z.2.2.2.2.2.1, z.2.2.2.2.2.2.1, ()), (z.2.2.2.2.2.2.2.1, z.2.2.2.2.2.2.2.2, (), (), (), ()))) (fun y => (y.1.2.1.1, y.1.2.1.2.1, y.1.2.2.1, y.1.2.2.2.1.1, y.1.2.2.2.1.2.1, y.1.2.2.2.2.1, y.1.2.2.2.2.2.1, y.2.1, y.2.2.1)) (fun _ => rfl)
theorem f_spec_faAll_g1j (k : Nat) (b1_0 : Int) (b1_1 : Int) (b1_2 : List (Int × Int)) (b2_0 : Int) (b2_1 : Int) (o3 : List (Int × Int)) (v1 : List (Int × Int × Int)) (v2 : List Int) : f_spec_faAll_g1A k b1_0 b1_1 b1_2 b2_0 b2_1 o3 v1 v2 = repl 3 (f_spec_faAll_g1 k b1_0 b1_1 b1_2 b2_0 b2_1 o3 v1 v2) := by
  simp only [f_spec_faAll_g1A, f_spec_faAll_g1, repl_some, repl_ite, repl_ite0, repl_ite1, repl_bind, joinL_repl]
noncomputable def f_spec_faAll_0 : Nat → Int → Int → List (Int × Int) → Int → Int → List (Int × Int) → List Int → List (Int × Int × Int) → List (Int × Int × Int) → List Int → Int → Int → Option (Int × Int × List (Int × Int) × Int × Int × List (Int × Int) × List (Int × Int × Int))
  | 0, _, _, _, _, _, _, _, _, _, _, _, _ => none
  | k + 1, b1_0, b1_1, o2, b3_0, b3_1, o4, o5, o6, v1, v19, v20, v21 =>
    if decide (v21 < v20) = true then if (0 : Int) ≤ v21 then if v21 < (↑(List.length v19) : Int) then Option.bind (f_spec_faGo k (b3_0, b3_1, o4) o5 v1 (List.getD v19 (Int.toNat v21) (0 : Int))) fun z8 => if List.length o6 + List.length [(Prod.fst (Prod.fst z8), Prod.fst (Prod.snd (Prod.fst z8)), Prod.snd (Prod.snd (Prod.fst z8)))] ≤ (140737488355328 / 24 : Nat) then f_spec_faAll_0 k b1_0 b1_1 o2 (Prod.fst (Prod.snd z8)) (Prod.fst (Prod.snd (Prod.snd z8))) (Prod.snd (Prod.snd (Prod.snd z8))) o5 (o6 ++ [(Prod.fst (Prod.fst z8), Prod.fst (Prod.snd (Prod.fst z8)), Prod.snd (Prod.snd (Prod.fst z8)))]) v1 v19 v20 (wrap64 (v21 + (1 : Int))) else none else none else none else some (b1_0, b1_1, o2, b3_0, b3_1, o4, o6)
noncomputable def f_spec_faAll_0i : Spec := { objs := [OSh.ro, OSh.box (32 : Nat) [Sh.int IntKind.i64, Sh.int IntKind.i64, Sh.sl (2 : Nat)], OSh.row true (123 : Nat) (Ty.pair (Ty.int IntKind.i64) (Ty.int IntKind.i64)), OSh.box (32 : Nat) [Sh.int IntKind.i64, Sh.int IntKind.i64, Sh.sl (4 : Nat)], OSh.row true (123 : Nat) (Ty.pair (Ty.int IntKind.i64) (Ty.int IntKind.i64)), OSh.row true (3 : Nat) (Ty.int IntKind.i64), OSh.row true (45 : Nat) (Ty.pair (Ty.int IntKind.i64) (Ty.pair (Ty.int IntKind.i64) (Ty.int IntKind.i64)))], tmps := [((1 : Nat), TSh.at (Sh.snap (0 : Nat) (Ty.pair (Ty.int IntKind.i64) (Ty.pair (Ty.int IntKind.i64) (Ty.int IntKind.i64))))), ((7 : Nat), TSh.at (Sh.ptr (1 : Nat) (0 : Nat))), ((8 : Nat), TSh.at (Sh.ptr (3 : Nat) (0 : Nat))), ((9 : Nat), TSh.at (Sh.sl (5 : Nat))), ((10 : Nat), TSh.at (Sh.sl (6 : Nat))), ((19 : Nat), TSh.at (Sh.snap (0 : Nat) (Ty.int IntKind.i64))), ((20 : Nat), TSh.at (Sh.int IntKind.i64)), ((21 : Nat), TSh.at (Sh.int IntKind.i64))] }
noncomputable def f_spec_faAll_0o : Spec := { objs := [OSh.ro, OSh.box (32 : Nat) [Sh.int IntKind.i64, Sh.int IntKind.i64, Sh.sl (2 : Nat)], OSh.row true (123 : Nat) (Ty.pair (Ty.int IntKind.i64) (Ty.int IntKind.i64)), OSh.box (32 : Nat) [Sh.int IntKind.i64, Sh.int IntKind.i64, Sh.sl (4 : Nat)], OSh.row true (123 : Nat) (Ty.pair (Ty.int IntKind.i64) (Ty.int IntKind.i64)), OSh.row true (45 : Nat) (Ty.pair (Ty.int IntKind.i64) (Ty.pair (Ty.int IntKind.i64) (Ty.int IntKind.i64)))], tmps := [((7 : Nat), TSh.at (Sh.ptr (1 : Nat) (0 : Nat))), ((8 : Nat), TSh.at (Sh.ptr (3 : Nat) (0 : Nat))), ((10 : Nat), TSh.at (Sh.sl (5 : Nat)))] }
noncomputable def f_spec_faAll_0D : LoopDef (Tup r_spec_faAll × OutD) := .plain f_spec_faAll_0i f_spec_faAll_0o (Int × Int × List (Int × Int) × Int × Int × List (Int × Int) × List (Int × Int × Int)) (fun k x => f_spec_faAll_0 k x.1.2.1.1 x.1.2.1.2.1 x.1.2.2.1 x.1.2.2.2.1.1 x.1.2.2.2.1.2.1 x.1.2.2.2.2.1 x.1.2.2.2.2.2.1 x.1.2.2.2.2.2.2.1 x.2.1 x.2.2.2.2.2.2.1 x.2.2.2.2.2.2.2.1 x.2.2.2.2.2.2.2.2.1) (fun z => (((), (z.1, z.2.1, (), ()), z.2.2.1, (z.2.2.2.1, z.2.2.2.2.1, (), ()), z.2.2.2.2.2.1, z.2.2.2.2.2.2, ()), ((), (), (), ()))) (fun y => (y.1.2.1.1, y.1.2.1.2.1, y.1.2.2.1, y.1.2.2.2.1.1, y.1.2.2.2.1.2.1, y.1.2.2.2.2.1, y.1.2.2.2.2.2.1)) (fun _ => rfl)
noncomputable def f_spec_faAll : Nat → Int × Int × List (Int × Int) → List (Int × Int × Int) → List Int → Option (List (Int × Int × Int) × Int × Int × List (Int × Int))
  | 0, _, _, _ => none
  | k + 1, p0, p1, p2 =>
    Option.bind (f_spec_faAll_g1 k (Prod.fst p0) (Prod.fst (Prod.snd p0)) (Prod.snd (Prod.snd p0)) (0 : Int) (0 : Int) [] p1 p2) fun z7 => Option.bind (f_spec_faAll_0 k (Prod.fst z7) (Prod.fst (Prod.snd z7)) (Prod.fst (Prod.snd (Prod.snd z7))) (Prod.fst (Prod.snd (Prod.snd (Prod.snd z7)))) (Prod.fst (Prod.snd (Prod.snd (Prod.snd (Prod.snd z7))))) (Prod.fst (Prod.snd (Prod.snd (Prod.snd (Prod.snd (Prod.snd z7)))))) (Prod.fst (Prod.snd (Prod.snd (Prod.snd (Prod.snd (Prod.snd (Prod.snd z7))))))) [] (Prod.fst (Prod.snd (Prod.snd (Prod.snd (Prod.snd (Prod.snd (Prod.snd (Prod.snd z7)))))))) (Prod.snd (Prod.snd (Prod.snd (Prod.snd (Prod.snd (Prod.snd (Prod.snd (Prod.snd z7)))))))) (↑(List.length (Prod.snd (Prod.snd (Prod.snd (Prod.snd (Prod.snd (Prod.snd (Prod.snd (Prod.snd z7))))))))) : Int) (0 : Int)) fun z9 => some (Prod.snd (Prod.snd (Prod.snd (Prod.snd (Prod.snd (Prod.snd z9))))), Prod.fst (Prod.snd (Prod.snd (Prod.snd z9))), Prod.fst (Prod.snd (Prod.snd (Prod.snd (Prod.snd z9)))), Prod.fst (Prod.snd (Prod.snd (Prod.snd (Prod.snd (Prod.snd z9))))))
noncomputable def d_spec_faAll : FnDef := .of q_spec_faAll r_spec_faAll (List (Int × Int × Int) × Int × Int × List (Int × Int)) (fun k x => f_spec_faAll k x.1 x.2.1 x.2.2.1) to_spec_faAll of_spec_faAll to_of_spec_faAll
noncomputable def c_spec_faAll : Code := Try.f106.body.getD .skip
noncomputable def x_spec_faAll : Ctx (Tup r_spec_faAll × OutD) := { T := T, G := [(129, d_spec_boOwn.E), (121, d_spec_ggGroups.E), (120, d_spec_faGo.E)], mvs := [], no := 0, n := 41, res := resOf T q_spec_faAll r_spec_faAll Try.f106.results.toList, loops := [(0, f_spec_faAll_0D.E)], regs := [(1, f_spec_faAll_g1D.E)], conds := [] }
theorem g_spec_faAll (k : Nat) : EnvOK Try.prog k x_spec_faAll.G := (EnvOK.cons (s_spec_boOwn k) (EnvOK.cons (s_spec_ggGroups k) (EnvOK.cons (s_spec_faGo k) (EnvOK.nil mixed))))
noncomputable def f_spec_faAll_g1O : Array Oper := (findReg 1 c_spec_faAll).getD #[]
theorem f_spec_faAll_g1e (k : Nat) (x : f_spec_faAll_g1i.D) : execD x_spec_faAll.T x_spec_faAll.G x_spec_faAll.mvs k f_spec_faAll_g1O (f_spec_faAll_g1D.inp.st x_spec_faAll.n x) (outK x_spec_faAll f_spec_faAll_g1D) = f_spec_faAll_g1A k x.1.2.1.1 x.1.2.1.2.1 x.1.2.1.2.2.1 x.1.2.2.1.1 x.1.2.2.1.2.1 x.1.2.2.2.1 x.2.1 x.2.2.1 := by kernel_rfl
theorem f_spec_faAll_g1ok (k : Nat) : EOK Try.prog x_spec_faAll k f_spec_faAll_g1D.E (.region 1 f_spec_faAll_g1O true) := reg_ok (D := f_spec_faAll_g1D) (m := 3) T_ok (g_spec_faAll k) (fun x => (f_spec_faAll_g1e k x).trans (f_spec_faAll_g1j k x.1.2.1.1 x.1.2.1.2.1 x.1.2.1.2.2.1 x.1.2.2.1.1 x.1.2.2.1.2.1 x.1.2.2.2.1 x.2.1 x.2.2.1))
noncomputable def f_spec_faAll_0B : Code := (findLoop 0 c_spec_faAll).getD .skip
theorem f_spec_faAll_0h (k : Nat) (x : f_spec_faAll_0i.D) : f_spec_faAll_0D.lp (k + 1) x = loopK x_spec_faAll f_spec_faAll_0D 0 f_spec_faAll_0B k x := by kernel_rfl
theorem f_spec_faAll_0l (k : Nat) : LOK Try.prog x_spec_faAll k f_spec_faAll_0B := LOK.by [] (by kernel_rfl) AllOK.nil
theorem f_spec_faAll_0z (x : f_spec_faAll_0i.D) : f_spec_faAll_0D.lp 0 x = none := by kernel_rfl
theorem f_spec_faAll_0ok (k : Nat) : EOK Try.prog x_spec_faAll k f_spec_faAll_0D.E (.block 0 (.loop f_spec_faAll_0B)) := loop_ok T_ok g_spec_faAll f_spec_faAll_0z f_spec_faAll_0h f_spec_faAll_0l k
theorem h_spec_faAll (k : Nat) (x : Tup d_spec_faAll.ps) : d_spec_faAll.f (k + 1) x = fnK d_spec_faAll x_spec_faAll c_spec_faAll k x := by kernel_rfl
theorem z_spec_faAll (x : Tup d_spec_faAll.ps) : d_spec_faAll.f 0 x = none := by kernel_rfl
theorem l_spec_faAll (k : Nat) : LOK Try.prog x_spec_faAll k c_spec_faAll := LOK.by [(f_spec_faAll_g1D.E, .region 1 f_spec_faAll_g1O true), (f_spec_faAll_0D.E, .block 0 (.loop f_spec_faAll_0B))] (by kernel_rfl) (AllOK.cons (f_spec_faAll_g1ok k) (AllOK.cons (f_spec_faAll_0ok k) AllOK.nil))
theorem s_spec_faAll (k : Nat) : SoundAt Try.prog k 106 d_spec_faAll.E := @fn_all Try.prog d_spec_faAll x_spec_faAll 106 Try.f106 c_spec_faAll (by kernel_rfl) (by kernel_rfl) (by kernel_rfl) Try.func106 (by kernel_rfl) (by kernel_rfl) (by kernel_rfl) T_ok g_spec_faAll l_spec_faAll z_spec_faAll h_spec_faAll k
/-! function 107 -/
noncomputable def r_impl_faultyDrops : List PK := [{ t := Ty.slice (45 : Nat) (Ty.pair (Ty.int IntKind.i64) (Ty.pair (Ty.int IntKind.i64) (Ty.int IntKind.i64))) }, { t := Ty.pair (Ty.int IntKind.i64) (Ty.pair (Ty.int IntKind.i64) (Ty.slice (123 : Nat) (Ty.pair (Ty.int IntKind.i64) (Ty.int IntKind.i64)))), agg := true }]
noncomputable def q_impl_faultyDrops : List PK := [{ t := Ty.pair (Ty.int IntKind.i64) (Ty.pair (Ty.int IntKind.i64) (Ty.slice (123 : Nat) (Ty.pair (Ty.int IntKind.i64) (Ty.int IntKind.i64)))), agg := true }, { t := Ty.slice (87 : Nat) (Ty.pair (Ty.int IntKind.i64) (Ty.pair (Ty.int IntKind.i64) (Ty.int IntKind.i64))) }, { t := Ty.slice (3 : Nat) (Ty.int IntKind.i64) }]
noncomputable def to_impl_faultyDrops (r : List (Int × Int × Int) × Int × Int × List (Int × Int)) : Tup r_impl_faultyDrops × OutD := ((r.1, r.2, ()), none)
noncomputable def of_impl_faultyDrops : Tup r_impl_faultyDrops × OutD → Option (List (Int × Int × Int) × Int × Int × List (Int × Int))
  | (a, none) => some (a.1, a.2.1)
  | _ => none
theorem to_of_impl_faultyDrops : ∀ b r, of_impl_faultyDrops b = some r → to_impl_faultyDrops r = b := by
  rintro ⟨a, o⟩ r h
  cases o with
  | none => injection h with h; subst h; rfl
  | some _ => cases h
noncomputable def f_impl_faultyDrops_0 : Nat → Int → Int → List (Int × Int) → Int → Int → List (Int × Int) → List Int → List Int → List (Int × Int × Int) → List Int → Int → Int → Option (Int × Int × List (Int × Int) × Int × Int × List (Int × Int) × List (Int × Int × Int))
  | 0, _, _, _, _, _, _, _, _, _, _, _, _ => none
  | k + 1, b1_0, b1_1, o2, b3_0, b3_1, o4, o5, o6, o7, v22, v23, v24 =>
    if decide (v24 < v23) = true then if (0 : Int) ≤ v24 then if v24 < (↑(List.length v22) : Int) then Option.bind (f_impl_faultyDrop k (b3_0, b3_1, o4) o5 o6 (List.getD v22 (Int.toNat v24) (0 : Int))) fun z3 => if List.length o7 + List.length [(Prod.fst (Prod.fst z3), Prod.fst (Prod.snd (Prod.fst z3)), Prod.snd (Prod.snd (Prod.fst z3)))] ≤ (140737488355328 / 24 : Nat) then f_impl_faultyDrops_0 k b1_0 b1_1 o2 b3_0 b3_1 (Prod.snd z3) o5 o6 (o7 ++ [(Prod.fst (Prod.fst z3), Prod.fst (Prod.snd (Prod.fst z3)), Prod.snd (Prod.snd (Prod.fst z3)))]) v22 v23 (wrap64 (v24 + (1 : Int))) else none else none else none else some (b1_0, b1_1, o2, b3_0, b3_1, o4, o7)
noncomputable def f_impl_faultyDrops_0i : Spec := { objs := [OSh.ro, OSh.box (32 : Nat) [Sh.int IntKind.i64, Sh.int IntKind.i64, Sh.sl (2 : Nat)], OSh.row true (123 : Nat) (Ty.pair (Ty.int IntKind.i64) (Ty.int IntKind.i64)), OSh.box (32 : Nat) [Sh.int IntKind.i64, Sh.int IntKind.i64, Sh.sl (4 : Nat)], OSh.row true (123 : Nat) (Ty.pair (Ty.int IntKind.i64) (Ty.int IntKind.i64)), OSh.row true (3 : Nat) (Ty.int IntKind.i64), OSh.row true (3 : Nat) (Ty.int IntKind.i64), OSh.row true (45 : Nat) (Ty.pair (Ty.int IntKind.i64) (Ty.pair (Ty.int IntKind.i64) (Ty.int IntKind.i64)))], tmps := [((7 : Nat), TSh.at (Sh.ptr (1 : Nat) (0 : Nat))), ((8 : Nat), TSh.at (Sh.ptr (3 : Nat) (0 : Nat))), ((9 : Nat), TSh.at (Sh.sl (5 : Nat))), ((10 : Nat), TSh.at (Sh.sl (6 : Nat))), ((11 : Nat), TSh.at (Sh.sl (7 : Nat))), ((22 : Nat), TSh.at (Sh.snap (0 : Nat) (Ty.int IntKind.i64))), ((23 : Nat), TSh.at (Sh.int IntKind.i64)), ((24 : Nat), TSh.at (Sh.int IntKind.i64))] }
noncomputable def f_impl_faultyDrops_0o : Spec := { objs := [OSh.ro, OSh.box (32 : Nat) [Sh.int IntKind.i64, Sh.int IntKind.i64, Sh.sl (2 : Nat)], OSh.row true (123 : Nat) (Ty.pair (Ty.int IntKind.i64) (Ty.int IntKind.i64)), OSh.box (32 : Nat) [Sh.int IntKind.i64, Sh.int IntKind.i64, Sh.sl (4 : Nat)], OSh.row true (123 : Nat) (Ty.pair (Ty.int IntKind.i64) (Ty.int IntKind.i64)), OSh.row true (45 : Nat) (Ty.pair (Ty.int IntKind.i64) (Ty.pair (Ty.int IntKind.i64) (Ty.int IntKind.i64)))], tmps := [((7 : Nat), TSh.at (Sh.ptr (1 : Nat) (0 : Nat))), ((8 : Nat), TSh.at (Sh.ptr (3 : Nat) (0 : Nat))), ((11 : Nat), TSh.at (Sh.sl (5 : Nat)))] }
noncomputable def f_impl_faultyDrops_0D : LoopDef (Tup r_impl_faultyDrops × OutD) := .plain f_impl_faultyDrops_0i f_impl_faultyDrops_0o (Int × Int × List (Int × Int) × Int × Int × List (Int × Int) × List (Int × Int × Int)) (fun k x => f_impl_faultyDrops_0 k x.1.2.1.1 x.1.2.1.2.1 x.1.2.2.1 x.1.2.2.2.1.1 x.1.2.2.2.1.2.1 x.1.2.2.2.2.1 x.1.2.2.2.2.2.1 x.1.2.2.2.2.2.2.1 x.1.2.2.2.2.2.2.2.1 x.2.2.2.2.2.2.1 x.2.2.2.2.2.2.2.1 x.2.2.2.2.2.2.2.2.1) (fun z => (((), (z.1, z.2.1, (), ()), z.2.2.1, (z.2.2.2.1, z.2.2.2.2.1, (), ()), z.2.2.2.2.2.1, z.2.2.2.2.2.2, ()), ((), (), (), ()))) (fun y => (y.1.2.1.1, y.1.2.1.2.1, y.1.2.2.1, y.1.2.2.2.1.1, y.1.2.2.2.1.2.1, y.1.2.2.2.2.1, y.1.2.2.2.2.2.1)) (fun _ => rfl)
noncomputable def f_impl_faultyDrops : Nat → Int × Int × List (Int × Int) → List (Int × Int × Int) → List Int → Option (List (Int × Int × Int) × Int × Int × List (Int × Int))
  | 0, _, _, _ => none
  | k + 1, p0, p1, p2 =>
    Option.bind (f_impl_copyBoard k (Prod.fst p0, Prod.fst (Prod.snd p0), Prod.snd (Prod.snd p0))) fun z0 => Option.bind (f_impl_groupNumbers k (Prod.fst p0, Prod.fst (Prod.snd p0), Prod.snd (Prod.snd p0))) fun z1 => Option.bind (f_impl_faultsByCell k (Prod.fst p0, Prod.fst (Prod.snd p0), Prod.snd (Prod.snd p0)) p1) fun z2 => Option.bind (f_impl_faultyDrops_0 k (0 : Int) (0 : Int) [] (Prod.fst z0) (Prod.fst (Prod.snd z0)) (Prod.snd (Prod.snd z0)) z1 z2 [] p2 (↑(List.length p2) : Int) (0 : Int)) fun z4 => some (Prod.snd (Prod.snd (Prod.snd (Prod.snd (Prod.snd (Prod.snd z4))))), Prod.fst (Prod.snd (Prod.snd (Prod.snd z4))), Prod.fst (Prod.snd (Prod.snd (Prod.snd (Prod.snd z4)))), Prod.fst (Prod.snd (Prod.snd (Prod.snd (Prod.snd (Prod.snd z4))))))
noncomputable def d_impl_faultyDrops : FnDef := .of q_impl_faultyDrops r_impl_faultyDrops (List (Int × Int × Int) × Int × Int × List (Int × Int)) (fun k x => f_impl_faultyDrops k x.1 x.2.1 x.2.2.1) to_impl_faultyDrops of_impl_faultyDrops to_of_impl_faultyDrops
noncomputable def c_impl_faultyDrops : Code := Try.f107.body.getD .skip
noncomputable def x_impl_faultyDrops : Ctx (Tup r_impl_faultyDrops × OutD) := { T := T, G := [(78, d_impl_copyBoard.E), (79, d_impl_groupNumbers.E), (80, d_impl_faultsByCell.E), (77, d_impl_faultyDrop.E)], mvs := [], no := 0, n := 39, res := resOf T q_impl_faultyDrops r_impl_faultyDrops Try.f107.results.toList, loops := [(0, f_impl_faultyDrops_0D.E)], regs := [], conds := [] }
theorem g_impl_faultyDrops (k : Nat) : EnvOK Try.prog k x_impl_faultyDrops.G := (EnvOK.cons (s_impl_copyBoard k) (EnvOK.cons (s_impl_groupNumbers k) (EnvOK.cons (s_impl_faultsByCell k) (EnvOK.cons (s_impl_faultyDrop k) (EnvOK.nil mixed)))))
noncomputable def f_impl_faultyDrops_0B : Code := (findLoop 0 c_impl_faultyDrops).getD .skip
theorem f_impl_faultyDrops_0h (k : Nat) (x : f_impl_faultyDrops_0i.D) : f_impl_faultyDrops_0D.lp (k + 1) x = loopK x_impl_faultyDrops f_impl_faultyDrops_0D 0 f_impl_faultyDrops_0B k x := by kernel_rfl
theorem f_impl_faultyDrops_0l (k : Nat) : LOK Try.prog x_impl_faultyDrops k f_impl_faultyDrops_0B := LOK.by [] (by kernel_rfl) AllOK.nil
theorem f_impl_faultyDrops_0z (x : f_impl_faultyDrops_0i.D) : f_impl_faultyDrops_0D.lp 0 x = none := by kernel_rfl
theorem f_impl_faultyDrops_0ok (k : Nat) : EOK Try.prog x_impl_faultyDrops k f_impl_faultyDrops_0D.E (.block 0 (.loop f_impl_faultyDrops_0B)) := loop_ok T_ok g_impl_faultyDrops f_impl_faultyDrops_0z f_impl_faultyDrops_0h f_impl_faultyDrops_0l k
theorem h_impl_faultyDrops (k : Nat) (x : Tup d_impl_faultyDrops.ps) : d_impl_faultyDrops.f (k + 1) x = fnK d_impl_faultyDrops x_impl_faultyDrops c_impl_faultyDrops k x := by kernel_rfl
theorem z_impl_faultyDrops (x : Tup d_impl_faultyDrops.ps) : d_impl_faultyDrops.f 0 x = none := by kernel_rfl
theorem l_impl_faultyDrops (k : Nat) : LOK Try.prog x_impl_faultyDrops k c_impl_faultyDrops := LOK.by [(f_impl_faultyDrops_0D.E, .block 0 (.loop f_impl_faultyDrops_0B))] (by kernel_rfl) (AllOK.cons (f_impl_faultyDrops_0ok k) AllOK.nil)
theorem s_impl_faultyDrops (k : Nat) : SoundAt Try.prog k 107 d_impl_faultyDrops.E := @fn_all Try.prog d_impl_faultyDrops x_impl_faultyDrops 107 Try.f107 c_impl_faultyDrops (by kernel_rfl) (by kernel_rfl) (by kernel_rfl) Try.func107 (by kernel_rfl) (by kernel_rfl) (by kernel_rfl) T_ok g_impl_faultyDrops l_impl_faultyDrops z_impl_faultyDrops h_impl_faultyDrops k
/-! function 116 -/
noncomputable def r_impl_onBoard : List PK := [{ t := Ty.bool }]
noncomputable def q_impl_onBoard : List PK := [{ t := Ty.pair (Ty.int IntKind.i64) (Ty.pair (Ty.int IntKind.i64) (Ty.slice (123 : Nat) (Ty.pair (Ty.int IntKind.i64) (Ty.int IntKind.i64)))), agg := true }, { t := Ty.int IntKind.i64 }, { t := Ty.int IntKind.i64 }]
noncomputable def to_impl_onBoard (r : Bool) : Tup r_impl_onBoard × OutD := ((r, ()), none)
noncomputable def of_impl_onBoard : Tup r_impl_onBoard × OutD → Option (Bool)
  | (a, none) => some (a.1)
  | _ => none
theorem to_of_impl_onBoard : ∀ b r, of_impl_onBoard b = some r → to_impl_onBoard r = b := by
  rintro ⟨a, o⟩ r h
  cases o with
  | none => injection h with h; subst h; rfl
  | some _ => cases h
noncomputable def f_impl_onBoard : Nat → Int × Int × List (Int × Int) → Int → Int → Option Bool
  | 0, _, _, _ => none
  | k + 1, p0, p1, p2 =>
    Option.bind (f_impl_IsBoard k (Prod.fst p0, Prod.fst (Prod.snd p0), Prod.snd (Prod.snd p0))) fun z0 => if z0 = true then if decide (p1 ≥ (0 : Int)) = true then if decide (p1 < Prod.fst p0) = true then if decide (p2 ≥ (0 : Int)) = true then some (decide (p2 < Prod.fst (Prod.snd p0))) else some false else some false else some false else some false
noncomputable def d_impl_onBoard : FnDef := .of q_impl_onBoard r_impl_onBoard (Bool) (fun k x => f_impl_onBoard k x.1 x.2.1 x.2.2.1) to_impl_onBoard of_impl_onBoard to_of_impl_onBoard
noncomputable def c_impl_onBoard : Code := Try.f116.body.getD .skip
noncomputable def x_impl_onBoard : Ctx (Tup r_impl_onBoard × OutD) := { T := T, G := [(67, d_impl_IsBoard.E)], mvs := [], no := 0, n := 29, res := resOf T q_impl_onBoard r_impl_onBoard Try.f116.results.toList, loops := [], regs := [], conds := [] }
theorem g_impl_onBoard (k : Nat) : EnvOK Try.prog k x_impl_onBoard.G := (EnvOK.cons (s_impl_IsBoard k) (EnvOK.nil mixed))
theorem h_impl_onBoard (k : Nat) (x : Tup d_impl_onBoard.ps) : d_impl_onBoard.f (k + 1) x = fnK d_impl_onBoard x_impl_onBoard c_impl_onBoard k x := by kernel_rfl
theorem z_impl_onBoard (x : Tup d_impl_onBoard.ps) : d_impl_onBoard.f 0 x = none := by kernel_rfl
theorem l_impl_onBoard (k : Nat) : LOK Try.prog x_impl_onBoard k c_impl_onBoard := LOK.by [] (by kernel_rfl) AllOK.nil
theorem s_impl_onBoard (k : Nat) : SoundAt Try.prog k 116 d_impl_onBoard.E := @fn_all Try.prog d_impl_onBoard x_impl_onBoard 116 Try.f116 c_impl_onBoard (by kernel_rfl) (by kernel_rfl) (by kernel_rfl) Try.func116 (by kernel_rfl) (by kernel_rfl) (by kernel_rfl) T_ok g_impl_onBoard l_impl_onBoard z_impl_onBoard h_impl_onBoard k
/-! function 119 -/
noncomputable def r_spec_flHas : List PK := [{ t := Ty.bool }]
noncomputable def q_spec_flHas : List PK := [{ t := Ty.pair (Ty.int IntKind.i64) (Ty.pair (Ty.int IntKind.i64) (Ty.slice (123 : Nat) (Ty.pair (Ty.int IntKind.i64) (Ty.int IntKind.i64)))), agg := true }, { t := Ty.int IntKind.i64 }]
noncomputable def to_spec_flHas (r : Bool) : Tup r_spec_flHas × OutD := ((r, ()), none)
noncomputable def of_spec_flHas : Tup r_spec_flHas × OutD → Option (Bool)
  | (a, none) => some (a.1)
  | _ => none
theorem to_of_spec_flHas : ∀ b r, of_spec_flHas b = some r → to_spec_flHas r = b := by
  rintro ⟨a, o⟩ r h
  cases o with
  | none => injection h with h; subst h; rfl
  | some _ => cases h
noncomputable def f_spec_flHas : Nat → Int × Int × List (Int × Int) → Int → Option Bool
  | 0, _, _ => none
  | k + 1, p0, p1 =>
    Option.bind (f_spec_boGood k (Prod.fst p0, Prod.fst (Prod.snd p0), Prod.snd (Prod.snd p0))) fun z0 => if z0 = true then Option.bind (f_spec_l1In k p1 (0 : Int) (wrap64 (Prod.fst (Prod.snd p0) - (1 : Int)))) fun z1 => some z1 else some false
noncomputable def d_spec_flHas : FnDef := .of q_spec_flHas r_spec_flHas (Bool) (fun k x => f_spec_flHas k x.1 x.2.1) to_spec_flHas of_spec_flHas to_of_spec_flHas
noncomputable def c_spec_flHas : Code := Try.f119.body.getD .skip
noncomputable def x_spec_flHas : Ctx (Tup r_spec_flHas × OutD) := { T := T, G := [(63, d_spec_boGood.E), (110, d_spec_l1In.E)], mvs := [], no := 0, n := 14, res := resOf T q_spec_flHas r_spec_flHas Try.f119.results.toList, loops := [], regs := [], conds := [] }
theorem g_spec_flHas (k : Nat) : EnvOK Try.prog k x_spec_flHas.G := (EnvOK.cons (s_spec_boGood k) (EnvOK.cons (s_spec_l1In k) (EnvOK.nil mixed)))
theorem h_spec_flHas (k : Nat) (x : Tup d_spec_flHas.ps) : d_spec_flHas.f (k + 1) x = fnK d_spec_flHas x_spec_flHas c_spec_flHas k x := by kernel_rfl
theorem z_spec_flHas (x : Tup d_spec_flHas.ps) : d_spec_flHas.f 0 x = none := by kernel_rfl
theorem l_spec_flHas (k : Nat) : LOK Try.prog x_spec_flHas k c_spec_flHas := LOK.by [] (by kernel_rfl) AllOK.nil
theorem s_spec_flHas (k : Nat) : SoundAt Try.prog k 119 d_spec_flHas.E := @fn_all Try.prog d_spec_flHas x_spec_flHas 119 Try.f119 c_spec_flHas (by kernel_rfl) (by kernel_rfl) (by kernel_rfl) Try.func119 (by kernel_rfl) (by kernel_rfl) (by kernel_rfl) T_ok g_spec_flHas l_spec_flHas z_spec_flHas h_spec_flHas k
/-! function 127 -/
noncomputable def r_spec_dgBoard : List PK := [{ t := Ty.bool }]
noncomputable def q_spec_dgBoard : List PK := [{ t := Ty.pair (Ty.int IntKind.i64) (Ty.pair (Ty.int IntKind.i64) (Ty.slice (123 : Nat) (Ty.pair (Ty.int IntKind.i64) (Ty.int IntKind.i64)))), agg := true }]
noncomputable def to_spec_dgBoard (r : Bool) : Tup r_spec_dgBoard × OutD := ((r, ()), none)
noncomputable def of_spec_dgBoard : Tup r_spec_dgBoard × OutD → Option (Bool)
  | (a, none) => some (a.1)
  | _ => none
theorem to_of_spec_dgBoard : ∀ b r, of_spec_dgBoard b = some r → to_spec_dgBoard r = b := by
  rintro ⟨a, o⟩ r h
  cases o with
  | none => injection h with h; subst h; rfl
  | some _ => cases h
noncomputable def f_spec_dgBoard : Nat → Int × Int × List (Int × Int) → Option Bool
  | 0, _ => none
  | k + 1, p0 =>
    Option.bind (f_spec_boGood k (Prod.fst p0, Prod.fst (Prod.snd p0), Prod.snd (Prod.snd p0))) fun z0 => if z0 = true then some (decide ((↑(List.length (Prod.snd (Prod.snd p0))) : Int) ≤ (24 : Int))) else some false
noncomputable def d_spec_dgBoard : FnDef := .of q_spec_dgBoard r_spec_dgBoard (Bool) (fun k x => f_spec_dgBoard k x.1) to_spec_dgBoard of_spec_dgBoard to_of_spec_dgBoard
noncomputable def c_spec_dgBoard : Code := Try.f127.body.getD .skip
noncomputable def x_spec_dgBoard : Ctx (Tup r_spec_dgBoard × OutD) := { T := T, G := [(63, d_spec_boGood.E)], mvs := [], no := 0, n := 11, res := resOf T q_spec_dgBoard r_spec_dgBoard Try.f127.results.toList, loops := [], regs := [], conds := [] }
theorem g_spec_dgBoard (k : Nat) : EnvOK Try.prog k x_spec_dgBoard.G := (EnvOK.cons (s_spec_boGood k) (EnvOK.nil mixed))
theorem h_spec_dgBoard (k : Nat) (x : Tup d_spec_dgBoard.ps) : d_spec_dgBoard.f (k + 1) x = fnK d_spec_dgBoard x_spec_dgBoard c_spec_dgBoard k x := by kernel_rfl
theorem z_spec_dgBoard (x : Tup d_spec_dgBoard.ps) : d_spec_dgBoard.f 0 x = none := by kernel_rfl
theorem l_spec_dgBoard (k : Nat) : LOK Try.prog x_spec_dgBoard k c_spec_dgBoard := LOK.by [] (by kernel_rfl) AllOK.nil
theorem s_spec_dgBoard (k : Nat) : SoundAt Try.prog k 127 d_spec_dgBoard.E := @fn_all Try.prog d_spec_dgBoard x_spec_dgBoard 127 Try.f127 c_spec_dgBoard (by kernel_rfl) (by kernel_rfl) (by kernel_rfl) Try.func127 (by kernel_rfl) (by kernel_rfl) (by kernel_rfl) T_ok g_spec_dgBoard l_spec_dgBoard z_spec_dgBoard h_spec_dgBoard k
/-! function 132 -/
noncomputable def r_spec_tsGood : List PK := [{ t := Ty.bool }]
noncomputable def q_spec_tsGood : List PK := [{ t := Ty.pair (Ty.int IntKind.i64) (Ty.pair (Ty.int IntKind.i64) (Ty.slice (123 : Nat) (Ty.pair (Ty.int IntKind.i64) (Ty.int IntKind.i64)))), agg := true }]
noncomputable def to_spec_tsGood (r : Bool) : Tup r_spec_tsGood × OutD := ((r, ()), none)
noncomputable def of_spec_tsGood : Tup r_spec_tsGood × OutD → Option (Bool)
  | (a, none) => some (a.1)
  | _ => none
theorem to_of_spec_tsGood : ∀ b r, of_spec_tsGood b = some r → to_spec_tsGood r = b := by
  rintro ⟨a, o⟩ r h
  cases o with
  | none => injection h with h; subst h; rfl
  | some _ => cases h
noncomputable def f_spec_tsGood : Nat → Int × Int × List (Int × Int) → Option Bool
  | 0, _ => none
  | k + 1, p0 =>
    Option.bind (f_spec_boGood k (Prod.fst p0, Prod.fst (Prod.snd p0), Prod.snd (Prod.snd p0))) fun z0 => if z0 = true then some (decide ((↑(List.length (Prod.snd (Prod.snd p0))) : Int) ≤ (30 : Int))) else some false
noncomputable def d_spec_tsGood : FnDef := .of q_spec_tsGood r_spec_tsGood (Bool) (fun k x => f_spec_tsGood k x.1) to_spec_tsGood of_spec_tsGood to_of_spec_tsGood
noncomputable def c_spec_tsGood : Code := Try.f132.body.getD .skip
noncomputable def x_spec_tsGood : Ctx (Tup r_spec_tsGood × OutD) := { T := T, G := [(63, d_spec_boGood.E)], mvs := [], no := 0, n := 11, res := resOf T q_spec_tsGood r_spec_tsGood Try.f132.results.toList, loops := [], regs := [], conds := [] }
theorem g_spec_tsGood (k : Nat) : EnvOK Try.prog k x_spec_tsGood.G := (EnvOK.cons (s_spec_boGood k) (EnvOK.nil mixed))
theorem h_spec_tsGood (k : Nat) (x : Tup d_spec_tsGood.ps) : d_spec_tsGood.f (k + 1) x = fnK d_spec_tsGood x_spec_tsGood c_spec_tsGood k x := by kernel_rfl
theorem z_spec_tsGood (x : Tup d_spec_tsGood.ps) : d_spec_tsGood.f 0 x = none := by kernel_rfl
theorem l_spec_tsGood (k : Nat) : LOK Try.prog x_spec_tsGood k c_spec_tsGood := LOK.by [] (by kernel_rfl) AllOK.nil
theorem s_spec_tsGood (k : Nat) : SoundAt Try.prog k 132 d_spec_tsGood.E := @fn_all Try.prog d_spec_tsGood x_spec_tsGood 132 Try.f132 c_spec_tsGood (by kernel_rfl) (by kernel_rfl) (by kernel_rfl) Try.func132 (by kernel_rfl) (by kernel_rfl) (by kernel_rfl) T_ok g_spec_tsGood l_spec_tsGood z_spec_tsGood h_spec_tsGood k
end
end Go.Proofs.Ytkefbmaagdaodaa.Vs
