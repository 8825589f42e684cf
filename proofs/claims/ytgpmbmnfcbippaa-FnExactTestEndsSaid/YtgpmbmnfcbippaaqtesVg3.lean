/- Functions of the program by plain functions, each with its contract. -/
import Derived.Test.YtgpmbmnfcbippaaqtesVsT
import Derived.Test.YtgpmbmnfcbippaaqtesVg0
import Derived.Test.YtgpmbmnfcbippaaqtesVg1
import Derived.Test.YtgpmbmnfcbippaaqtesVg2
set_option maxRecDepth 100000
set_option linter.unusedVariables false
set_option linter.unusedSimpArgs false
namespace Go.Proofs.Ytgpmbmnfcbippaa.Vs
open Go.RowKit
noncomputable section
/-! function 61 -/
/-! function 64 -/
noncomputable def r_impl_validEntries : List PK := [{ t := Ty.bool }]
noncomputable def q_impl_validEntries : List PK := [{ t := Ty.pair (Ty.int IntKind.i64) (Ty.pair (Ty.int IntKind.i64) (Ty.slice (116 : Nat) (Ty.pair (Ty.int IntKind.i64) (Ty.int IntKind.i64)))), agg := true }, { t := Ty.slice (3 : Nat) (Ty.int IntKind.i64) }]
noncomputable def to_impl_validEntries (r : Bool) : Tup r_impl_validEntries × OutD := ((r, ()), none)
noncomputable def of_impl_validEntries : Tup r_impl_validEntries × OutD → Option (Bool)
  | (a, none) => some (a.1)
  | _ => none
theorem to_of_impl_validEntries : ∀ b r, of_impl_validEntries b = some r → to_impl_validEntries r = b := by
  rintro ⟨a, o⟩ r h
  cases o with
  | none => injection h with h; subst h; rfl
  | some _ => cases h
noncomputable def f_impl_validEntries_0 : Nat → Int → Int → List (Int × Int) → List Int → Int → Int → Option (LR Unit Bool)
  | 0, _, _, _, _, _, _ => none
  | k + 1, b1_0, b1_1, b1_2, v15, v16, v17 =>
    if decide (v17 < v16) = true then if (0 : Int) ≤ v17 then if v17 < (↑(List.length v15) : Int) then if decide (List.getD v15 (Int.toNat v17) (0 : Int) < (0 : Int)) = true then some (LR.ret false) else if decide (List.getD v15 (Int.toNat v17) (0 : Int) ≥ b1_1) = true then some (LR.ret false) else f_impl_validEntries_0 k b1_0 b1_1 b1_2 v15 v16 (wrap64 (v17 + (1 : Int))) else none else none else some (LR.go ())
noncomputable def f_impl_validEntries_0i : Spec := { objs := [OSh.ro, OSh.box (32 : Nat) [Sh.int IntKind.i64, Sh.int IntKind.i64, Sh.snap (0 : Nat) (Ty.pair (Ty.int IntKind.i64) (Ty.int IntKind.i64))]], tmps := [((2 : Nat), TSh.at (Sh.ptr (1 : Nat) (0 : Nat))), ((15 : Nat), TSh.at (Sh.snap (0 : Nat) (Ty.int IntKind.i64))), ((16 : Nat), TSh.at (Sh.int IntKind.i64)), ((17 : Nat), TSh.at (Sh.int IntKind.i64))] }
noncomputable def f_impl_validEntries_0o : Spec := { objs := [OSh.ro], tmps := [] }
noncomputable def f_impl_validEntries_0D : LoopDef (Tup r_impl_validEntries × OutD) := .rets f_impl_validEntries_0i f_impl_validEntries_0o (Unit) (Bool) (fun k x => f_impl_validEntries_0 k x.1.2.1.1 x.1.2.1.2.1 x.1.2.1.2.2.1 x.2.2.1 x.2.2.2.1 x.2.2.2.2.1) (fun z => (((), ()), (()))) (fun y => ()) (fun _ => rfl) to_impl_validEntries of_impl_validEntries to_of_impl_validEntries
noncomputable def f_impl_validEntries : Nat → Int × Int × List (Int × Int) → List Int → Option Bool
  | 0, _, _ => none
  | k + 1, p0, p1 =>
    Option.bind (f_impl_IsBoard k (Prod.fst p0, Prod.fst (Prod.snd p0), Prod.snd (Prod.snd p0))) fun z0 => if (!z0) = true then some false else if decide ((↑(List.length p1) : Int) > (60 : Int)) = true then some false else Option.bind (f_impl_validEntries_0 k (Prod.fst p0) (Prod.fst (Prod.snd p0)) (Prod.snd (Prod.snd p0)) p1 (↑(List.length p1) : Int) (0 : Int)) fun z1 => LR.on z1 (fun y1 => some true) fun r1 => some r1
noncomputable def d_impl_validEntries : FnDef := .of q_impl_validEntries r_impl_validEntries (Bool) (fun k x => f_impl_validEntries k x.1 x.2.1) to_impl_validEntries of_impl_validEntries to_of_impl_validEntries
noncomputable def c_impl_validEntries : Code := Try.f64.body.getD .skip
noncomputable def x_impl_validEntries : Ctx (Tup r_impl_validEntries × OutD) := { T := T, G := [(108, d_impl_IsBoard.E)], mvs := [], no := 0, n := 30, res := resOf T q_impl_validEntries r_impl_validEntries Try.f64.results.toList, loops := [(0, f_impl_validEntries_0D.E)], regs := [], conds := [] }
theorem g_impl_validEntries (k : Nat) : EnvOK Try.prog k x_impl_validEntries.G := (EnvOK.cons (s_impl_IsBoard k) (EnvOK.nil mixed))
noncomputable def f_impl_validEntries_0B : Code := (findLoop 0 c_impl_validEntries).getD .skip
theorem f_impl_validEntries_0h (k : Nat) (x : f_impl_validEntries_0i.D) : f_impl_validEntries_0D.lp (k + 1) x = loopK x_impl_validEntries f_impl_validEntries_0D 0 f_impl_validEntries_0B k x := by kernel_rfl
theorem f_impl_validEntries_0l (k : Nat) : LOK Try.prog x_impl_validEntries k f_impl_validEntries_0B := LOK.by [] (by kernel_rfl) AllOK.nil
theorem f_impl_validEntries_0z (x : f_impl_validEntries_0i.D) : f_impl_validEntries_0D.lp 0 x = none := by kernel_rfl
theorem f_impl_validEntries_0ok (k : Nat) : EOK Try.prog x_impl_validEntries k f_impl_validEntries_0D.E (.block 0 (.loop f_impl_validEntries_0B)) := loop_ok T_ok g_impl_validEntries f_impl_validEntries_0z f_impl_validEntries_0h f_impl_validEntries_0l k
theorem h_impl_validEntries (k : Nat) (x : Tup d_impl_validEntries.ps) : d_impl_validEntries.f (k + 1) x = fnK d_impl_validEntries x_impl_validEntries c_impl_validEntries k x := by kernel_rfl
theorem z_impl_validEntries (x : Tup d_impl_validEntries.ps) : d_impl_validEntries.f 0 x = none := by kernel_rfl
theorem l_impl_validEntries (k : Nat) : LOK Try.prog x_impl_validEntries k c_impl_validEntries := LOK.by [(f_impl_validEntries_0D.E, .block 0 (.loop f_impl_validEntries_0B))] (by kernel_rfl) (AllOK.cons (f_impl_validEntries_0ok k) AllOK.nil)
theorem s_impl_validEntries (k : Nat) : SoundAt Try.prog k 64 d_impl_validEntries.E := @fn_all Try.prog d_impl_validEntries x_impl_validEntries 64 Try.f64 c_impl_validEntries (by kernel_rfl) (by kernel_rfl) (by kernel_rfl) Try.func64 (by kernel_rfl) (by kernel_rfl) (by kernel_rfl) T_ok g_impl_validEntries l_impl_validEntries z_impl_validEntries h_impl_validEntries k
/-! function 65 -/
noncomputable def r_impl_possibleFaults : List PK := [{ t := Ty.slice (83 : Nat) (Ty.pair (Ty.int IntKind.i64) (Ty.pair (Ty.int IntKind.i64) (Ty.int IntKind.i64))) }]
noncomputable def q_impl_possibleFaults : List PK := [{ t := Ty.pair (Ty.int IntKind.i64) (Ty.pair (Ty.int IntKind.i64) (Ty.slice (116 : Nat) (Ty.pair (Ty.int IntKind.i64) (Ty.int IntKind.i64)))), agg := true }]
noncomputable def to_impl_possibleFaults (r : List (Int × Int × Int)) : Tup r_impl_possibleFaults × OutD := ((r, ()), none)
noncomputable def of_impl_possibleFaults : Tup r_impl_possibleFaults × OutD → Option (List (Int × Int × Int))
  | (a, none) => some (a.1)
  | _ => none
theorem to_of_impl_possibleFaults : ∀ b r, of_impl_possibleFaults b = some r → to_impl_possibleFaults r = b := by
  rintro ⟨a, o⟩ r h
  cases o with
  | none => injection h with h; subst h; rfl
  | some _ => cases h
noncomputable def f_impl_possibleFaults_2 : Nat → Int → Int → List (Int × Int) → List (Int × Int × Int) → Int → Int → Int → Int → List (Int × Int) → Int → Int → Option (Int × Int × List (Int × Int) × List (Int × Int × Int) × List (Int × Int) × Int × Int)
  | 0, _, _, _, _, _, _, _, _, _, _, _ => none
  | k + 1, b1_0, b1_1, b1_2, o2, b3_0, b3_1, v4, v6, v9, v10, v11 =>
    if decide (v6 ≤ (3 : Int)) = true then Option.bind (f_impl_canHave k (b3_0, b3_1) v6) fun z0 => if z0 = true then if b1_1 = (0 : Int) then none else if b1_1 = (0 : Int) then none else if List.length o2 + List.length [(v6, wrap64 (Int.tdiv v4 b1_1), Int.tmod v4 b1_1)] ≤ (140737488355328 / 24 : Nat) then f_impl_possibleFaults_2 k b1_0 b1_1 b1_2 (o2 ++ [(v6, wrap64 (Int.tdiv v4 b1_1), Int.tmod v4 b1_1)]) b3_0 b3_1 v4 (wrap64 (v6 + (1 : Int))) v9 v10 v11 else none else f_impl_possibleFaults_2 k b1_0 b1_1 b1_2 o2 b3_0 b3_1 v4 (wrap64 (v6 + (1 : Int))) v9 v10 v11 else some (b1_0, b1_1, b1_2, o2, v9, v10, v11)
noncomputable def f_impl_possibleFaults_2i : Spec := { objs := [OSh.ro, OSh.box (32 : Nat) [Sh.int IntKind.i64, Sh.int IntKind.i64, Sh.snap (0 : Nat) (Ty.pair (Ty.int IntKind.i64) (Ty.int IntKind.i64))], OSh.row true (83 : Nat) (Ty.pair (Ty.int IntKind.i64) (Ty.pair (Ty.int IntKind.i64) (Ty.int IntKind.i64))), OSh.box (116 : Nat) [Sh.int IntKind.i64, Sh.int IntKind.i64]], tmps := [((1 : Nat), TSh.at (Sh.ptr (1 : Nat) (0 : Nat))), ((3 : Nat), TSh.at (Sh.sl (2 : Nat))), ((4 : Nat), TSh.at (Sh.int IntKind.i64)), ((5 : Nat), TSh.at (Sh.ptr (3 : Nat) (0 : Nat))), ((6 : Nat), TSh.at (Sh.int IntKind.i64)), ((9 : Nat), TSh.at (Sh.snap (0 : Nat) (Ty.pair (Ty.int IntKind.i64) (Ty.int IntKind.i64)))), ((10 : Nat), TSh.at (Sh.int IntKind.i64)), ((11 : Nat), TSh.at (Sh.int IntKind.i64))] }
noncomputable def f_impl_possibleFaults_2o : Spec := { objs := [OSh.ro, OSh.box (32 : Nat) [Sh.int IntKind.i64, Sh.int IntKind.i64, Sh.snap (0 : Nat) (Ty.pair (Ty.int IntKind.i64) (Ty.int IntKind.i64))], OSh.row true (83 : Nat) (Ty.pair (Ty.int IntKind.i64) (Ty.pair (Ty.int IntKind.i64) (Ty.int IntKind.i64)))], tmps := [((1 : Nat), TSh.at (Sh.ptr (1 : Nat) (0 : Nat))), ((3 : Nat), TSh.at (Sh.sl (2 : Nat))), ((9 : Nat), TSh.at (Sh.snap (0 : Nat) (Ty.pair (Ty.int IntKind.i64) (Ty.int IntKind.i64)))), ((10 : Nat), TSh.at (Sh.int IntKind.i64)), ((11 : Nat), TSh.at (Sh.int IntKind.i64))] }
noncomputable def f_impl_possibleFaults_2D : LoopDef (Tup r_impl_possibleFaults × OutD) := .plain f_impl_possibleFaults_2i f_impl_possibleFaults_2o (Int × Int × List (Int × Int) × List (Int × Int × Int) × List (Int × Int) × Int × Int) (fun k x => f_impl_possibleFaults_2 k x.1.2.1.1 x.1.2.1.2.1 x.1.2.1.2.2.1 x.1.2.2.1 x.1.2.2.2.1.1 x.1.2.2.2.1.2.1 x.2.2.2.1 x.2.2.2.2.2.1 x.2.2.2.2.2.2.1 x.2.2.2.2.2.2.2.1 x.2.2.2.2.2.2.2.2.1) (fun z => (((), (z.1, z.2.1, z.2.2.1, ()), z.2.2.2.1, ()), ((), (), z.2.2.2.2.1, z.2.2.2.2.2.1, z.2.2.2.2.2.2, ()))) (fun y => (y.1.2.1.1, y.1.2.1.2.1, y.1.2.1.2.2.1, y.1.2.2.1, y.2.2.2.1, y.2.2.2.2.1, y.2.2.2.2.2.1)) (fun _ => rfl)
noncomputable def f_impl_possibleFaults_0 : Nat → Int → Int → List (Int × Int) → List (Int × Int × Int) → List (Int × Int) → Int → Int → Option (List (Int × Int × Int))
  | 0, _, _, _, _, _, _, _ => none
  | k + 1, b1_0, b1_1, b1_2, o2, v9, v10, v11 =>
    if decide (v11 < v10) = true then if (0 : Int) ≤ v11 then if v11 < (↑(List.length v9) : Int) then Option.bind (f_impl_possibleFaults_2 k b1_0 b1_1 b1_2 o2 (Prod.fst (List.getD v9 (Int.toNat v11) ((0 : Int), (0 : Int)))) (Prod.snd (List.getD v9 (Int.toNat v11) ((0 : Int), (0 : Int)))) v11 (1 : Int) v9 v10 v11) fun z1 => f_impl_possibleFaults_0 k (Prod.fst z1) (Prod.fst (Prod.snd z1)) (Prod.fst (Prod.snd (Prod.snd z1))) (Prod.fst (Prod.snd (Prod.snd (Prod.snd z1)))) (Prod.fst (Prod.snd (Prod.snd (Prod.snd (Prod.snd z1))))) (Prod.fst (Prod.snd (Prod.snd (Prod.snd (Prod.snd (Prod.snd z1)))))) (wrap64 (Prod.snd (Prod.snd (Prod.snd (Prod.snd (Prod.snd (Prod.snd z1))))) + (1 : Int))) else none else none else some o2
noncomputable def f_impl_possibleFaults_0i : Spec := { objs := [OSh.ro, OSh.box (32 : Nat) [Sh.int IntKind.i64, Sh.int IntKind.i64, Sh.snap (0 : Nat) (Ty.pair (Ty.int IntKind.i64) (Ty.int IntKind.i64))], OSh.row true (83 : Nat) (Ty.pair (Ty.int IntKind.i64) (Ty.pair (Ty.int IntKind.i64) (Ty.int IntKind.i64)))], tmps := [((1 : Nat), TSh.at (Sh.ptr (1 : Nat) (0 : Nat))), ((3 : Nat), TSh.at (Sh.sl (2 : Nat))), ((9 : Nat), TSh.at (Sh.snap (0 : Nat) (Ty.pair (Ty.int IntKind.i64) (Ty.int IntKind.i64)))), ((10 : Nat), TSh.at (Sh.int IntKind.i64)), ((11 : Nat), TSh.at (Sh.int IntKind.i64))] }
noncomputable def f_impl_possibleFaults_0o : Spec := { objs := [OSh.ro, OSh.row true (83 : Nat) (Ty.pair (Ty.int IntKind.i64) (Ty.pair (Ty.int IntKind.i64) (Ty.int IntKind.i64)))], tmps := [((3 : Nat), TSh.at (Sh.sl (1 : Nat)))] }
noncomputable def f_impl_possibleFaults_0D : LoopDef (Tup r_impl_possibleFaults × OutD) := .plain f_impl_possibleFaults_0i f_impl_possibleFaults_0o (List (Int × Int × Int)) (fun k x => f_impl_possibleFaults_0 k x.1.2.1.1 x.1.2.1.2.1 x.1.2.1.2.2.1 x.1.2.2.1 x.2.2.2.1 x.2.2.2.2.1 x.2.2.2.2.2.1) (fun z => (((), z, ()), ((), ()))) (fun y => (y.1.2.1)) (fun _ => rfl)
noncomputable def f_impl_possibleFaults : Nat → Int × Int × List (Int × Int) → Option (List (Int × Int × Int))
  | 0, _ => none
  | k + 1, p0 =>
    Option.bind (f_impl_possibleFaults_0 k (Prod.fst p0) (Prod.fst (Prod.snd p0)) (Prod.snd (Prod.snd p0)) [] (Prod.snd (Prod.snd p0)) (↑(List.length (Prod.snd (Prod.snd p0))) : Int) (0 : Int)) fun z2 => some z2
noncomputable def d_impl_possibleFaults : FnDef := .of q_impl_possibleFaults r_impl_possibleFaults (List (Int × Int × Int)) (fun k x => f_impl_possibleFaults k x.1) to_impl_possibleFaults of_impl_possibleFaults to_of_impl_possibleFaults
noncomputable def c_impl_possibleFaults : Code := Try.f65.body.getD .skip
noncomputable def x_impl_possibleFaults : Ctx (Tup r_impl_possibleFaults × OutD) := { T := T, G := [(109, d_impl_canHave.E)], mvs := [], no := 0, n := 38, res := resOf T q_impl_possibleFaults r_impl_possibleFaults Try.f65.results.toList, loops := [(2, f_impl_possibleFaults_2D.E), (0, f_impl_possibleFaults_0D.E)], regs := [], conds := [] }
theorem g_impl_possibleFaults (k : Nat) : EnvOK Try.prog k x_impl_possibleFaults.G := (EnvOK.cons (s_impl_canHave k) (EnvOK.nil mixed))
noncomputable def f_impl_possibleFaults_2B : Code := (findLoop 2 c_impl_possibleFaults).getD .skip
theorem f_impl_possibleFaults_2h (k : Nat) (x : f_impl_possibleFaults_2i.D) : f_impl_possibleFaults_2D.lp (k + 1) x = loopK x_impl_possibleFaults f_impl_possibleFaults_2D 2 f_impl_possibleFaults_2B k x := by kernel_rfl
theorem f_impl_possibleFaults_2l (k : Nat) : LOK Try.prog x_impl_possibleFaults k f_impl_possibleFaults_2B := LOK.by [] (by kernel_rfl) AllOK.nil
theorem f_impl_possibleFaults_2z (x : f_impl_possibleFaults_2i.D) : f_impl_possibleFaults_2D.lp 0 x = none := by kernel_rfl
theorem f_impl_possibleFaults_2ok (k : Nat) : EOK Try.prog x_impl_possibleFaults k f_impl_possibleFaults_2D.E (.block 2 (.loop f_impl_possibleFaults_2B)) := loop_ok T_ok g_impl_possibleFaults f_impl_possibleFaults_2z f_impl_possibleFaults_2h f_impl_possibleFaults_2l k
noncomputable def f_impl_possibleFaults_0B : Code := (findLoop 0 c_impl_possibleFaults).getD .skip
theorem f_impl_possibleFaults_0h (k : Nat) (x : f_impl_possibleFaults_0i.D) : f_impl_possibleFaults_0D.lp (k + 1) x = loopK x_impl_possibleFaults f_impl_possibleFaults_0D 0 f_impl_possibleFaults_0B k x := by kernel_rfl
theorem f_impl_possibleFaults_0l (k : Nat) : LOK Try.prog x_impl_possibleFaults k f_impl_possibleFaults_0B := LOK.by [(f_impl_possibleFaults_2D.E, .block 2 (.loop f_impl_possibleFaults_2B))] (by kernel_rfl) (AllOK.cons (f_impl_possibleFaults_2ok k) AllOK.nil)
theorem f_impl_possibleFaults_0z (x : f_impl_possibleFaults_0i.D) : f_impl_possibleFaults_0D.lp 0 x = none := by kernel_rfl
theorem f_impl_possibleFaults_0ok (k : Nat) : EOK Try.prog x_impl_possibleFaults k f_impl_possibleFaults_0D.E (.block 0 (.loop f_impl_possibleFaults_0B)) := loop_ok T_ok g_impl_possibleFaults f_impl_possibleFaults_0z f_impl_possibleFaults_0h f_impl_possibleFaults_0l k
theorem h_impl_possibleFaults (k : Nat) (x : Tup d_impl_possibleFaults.ps) : d_impl_possibleFaults.f (k + 1) x = fnK d_impl_possibleFaults x_impl_possibleFaults c_impl_possibleFaults k x := by kernel_rfl
theorem z_impl_possibleFaults (x : Tup d_impl_possibleFaults.ps) : d_impl_possibleFaults.f 0 x = none := by kernel_rfl
theorem l_impl_possibleFaults (k : Nat) : LOK Try.prog x_impl_possibleFaults k c_impl_possibleFaults := LOK.by [(f_impl_possibleFaults_0D.E, .block 0 (.loop f_impl_possibleFaults_0B))] (by kernel_rfl) (AllOK.cons (f_impl_possibleFaults_0ok k) AllOK.nil)
theorem s_impl_possibleFaults (k : Nat) : SoundAt Try.prog k 65 d_impl_possibleFaults.E := @fn_all Try.prog d_impl_possibleFaults x_impl_possibleFaults 65 Try.f65 c_impl_possibleFaults (by kernel_rfl) (by kernel_rfl) (by kernel_rfl) Try.func65 (by kernel_rfl) (by kernel_rfl) (by kernel_rfl) T_ok g_impl_possibleFaults l_impl_possibleFaults z_impl_possibleFaults h_impl_possibleFaults k
/-! function 110 -/
/-! function 111 -/
noncomputable def r_impl_faultyDrops : List PK := [{ t := Ty.slice (91 : Nat) (Ty.pair (Ty.int IntKind.i64) (Ty.pair (Ty.int IntKind.i64) (Ty.int IntKind.i64))) }, { t := Ty.pair (Ty.int IntKind.i64) (Ty.pair (Ty.int IntKind.i64) (Ty.slice (116 : Nat) (Ty.pair (Ty.int IntKind.i64) (Ty.int IntKind.i64)))), agg := true }]
noncomputable def q_impl_faultyDrops : List PK := [{ t := Ty.pair (Ty.int IntKind.i64) (Ty.pair (Ty.int IntKind.i64) (Ty.slice (116 : Nat) (Ty.pair (Ty.int IntKind.i64) (Ty.int IntKind.i64)))), agg := true }, { t := Ty.slice (83 : Nat) (Ty.pair (Ty.int IntKind.i64) (Ty.pair (Ty.int IntKind.i64) (Ty.int IntKind.i64))) }, { t := Ty.slice (3 : Nat) (Ty.int IntKind.i64) }]
noncomputable def to_impl_faultyDrops (r : List (Int × Int × Int) × Int × Int × List (Int × Int)) : Tup r_impl_faultyDrops × OutD := ((r.1, r.2, ()), none)
noncomputable def of_impl_faultyDrops : Tup r_impl_faultyDrops × OutD → Option (List (Int × Int × Int) × Int × Int × List (Int × Int))
  | (a, none) => some (a.1, a.2.1)
  | _ => none
theorem to_of_impl_faultyDrops : ∀ b r, of_impl_faultyDrops b = some r → to_impl_faultyDrops r = b := by
  rintro ⟨a, o⟩ r h
  cases o with
  | none => injection h with h; subst h; rfl
  | some _ => cases h
noncomputable def f_impl_faultyDrops_0 : Nat → Int → Int → List (Int × Int) → Int → Int → List (Int × Int) → List Int → List Int → List (Int × Int × Int) → List Int → Int → Int → Option (Int × Int × List (Int × Int) × Int × Int × List (Int × Int) × List (Int × Int × Int))
  | 0, _, _, _, _, _, _, _, _, _, _, _, _ => none
  | k + 1, b1_0, b1_1, o2, b3_0, b3_1, o4, o5, o6, o7, v22, v23, v24 =>
    if decide (v24 < v23) = true then if (0 : Int) ≤ v24 then if v24 < (↑(List.length v22) : Int) then Option.bind (f_impl_faultyDrop k (b3_0, b3_1, o4) o5 o6 (List.getD v22 (Int.toNat v24) (0 : Int))) fun z3 => if List.length o7 + List.length [(Prod.fst (Prod.fst z3), Prod.fst (Prod.snd (Prod.fst z3)), Prod.snd (Prod.snd (Prod.fst z3)))] ≤ (140737488355328 / 24 : Nat) then f_impl_faultyDrops_0 k b1_0 b1_1 o2 b3_0 b3_1 (Prod.snd z3) o5 o6 (o7 ++ [(Prod.fst (Prod.fst z3), Prod.fst (Prod.snd (Prod.fst z3)), Prod.snd (Prod.snd (Prod.fst z3)))]) v22 v23 (wrap64 (v24 + (1 : Int))) else none else none else none else some (b1_0, b1_1, o2, b3_0, b3_1, o4, o7)
noncomputable def f_impl_faultyDrops_0i : Spec := { objs := [OSh.ro, OSh.box (32 : Nat) [Sh.int IntKind.i64, Sh.int IntKind.i64, Sh.sl (2 : Nat)], OSh.row true (116 : Nat) (Ty.pair (Ty.int IntKind.i64) (Ty.int IntKind.i64)), OSh.box (32 : Nat) [Sh.int IntKind.i64, Sh.int IntKind.i64, Sh.sl (4 : Nat)], OSh.row true (116 : Nat) (Ty.pair (Ty.int IntKind.i64) (Ty.int IntKind.i64)), OSh.row true (3 : Nat) (Ty.int IntKind.i64), OSh.row true (3 : Nat) (Ty.int IntKind.i64), OSh.row true (91 : Nat) (Ty.pair (Ty.int IntKind.i64) (Ty.pair (Ty.int IntKind.i64) (Ty.int IntKind.i64)))], tmps := [((7 : Nat), TSh.at (Sh.ptr (1 : Nat) (0 : Nat))), ((8 : Nat), TSh.at (Sh.ptr (3 : Nat) (0 : Nat))), ((9 : Nat), TSh.at (Sh.sl (5 : Nat))), ((10 : Nat), TSh.at (Sh.sl (6 : Nat))), ((11 : Nat), TSh.at (Sh.sl (7 : Nat))), ((22 : Nat), TSh.at (Sh.snap (0 : Nat) (Ty.int IntKind.i64))), ((23 : Nat), TSh.at (Sh.int IntKind.i64)), ((24 : Nat), TSh.at (Sh.int IntKind.i64))] }
noncomputable def f_impl_faultyDrops_0o : Spec := { objs := [OSh.ro, OSh.box (32 : Nat) [Sh.int IntKind.i64, Sh.int IntKind.i64, Sh.sl (2 : Nat)], OSh.row true (116 : Nat) (Ty.pair (Ty.int IntKind.i64) (Ty.int IntKind.i64)), OSh.box (32 : Nat) [Sh.int IntKind.i64, Sh.int IntKind.i64, Sh.sl (4 : Nat)], OSh.row true (116 : Nat) (Ty.pair (Ty.int IntKind.i64) (Ty.int IntKind.i64)), OSh.row true (91 : Nat) (Ty.pair (Ty.int IntKind.i64) (Ty.pair (Ty.int IntKind.i64) (Ty.int IntKind.i64)))], tmps := [((7 : Nat), TSh.at (Sh.ptr (1 : Nat) (0 : Nat))), ((8 : Nat), TSh.at (Sh.ptr (3 : Nat) (0 : Nat))), ((11 : Nat), TSh.at (Sh.sl (5 : Nat)))] }
noncomputable def f_impl_faultyDrops_0D : LoopDef (Tup r_impl_faultyDrops × OutD) := .plain f_impl_faultyDrops_0i f_impl_faultyDrops_0o (Int × Int × List (Int × Int) × Int × Int × List (Int × Int) × List (Int × Int × Int)) (fun k x => f_impl_faultyDrops_0 k x.1.2.1.1 x.1.2.1.2.1 x.1.2.2.1 x.1.2.2.2.1.1 x.1.2.2.2.1.2.1 x.1.2.2.2.2.1 x.1.2.2.2.2.2.1 x.1.2.2.2.2.2.2.1 x.1.2.2.2.2.2.2.2.1 x.2.2.2.2.2.2.1 x.2.2.2.2.2.2.2.1 x.2.2.2.2.2.2.2.2.1) (fun z => (((), (z.1, z.2.1, (), ()), z.2.2.1, (z.2.2.2.1, z.2.2.2.2.1, (), ()), z.2.2.2.2.2.1, z.2.2.2.2.2.2, ()), ((), (), (), ()))) (fun y => (y.1.2.1.1, y.1.2.1.2.1, y.1.2.2.1, y.1.2.2.2.1.1, y.1.2.2.2.1.2.1, y.1.2.2.2.2.1, y.1.2.2.2.2.2.1)) (fun _ => rfl)
noncomputable def f_impl_faultyDrops : Nat → Int × Int × List (Int × Int) → List (Int × Int × Int) → List Int → Option (List (Int × Int × Int) × Int × Int × List (Int × Int))
  | 0, _, _, _ => none
  | k + 1, p0, p1, p2 =>
    Option.bind (f_impl_copyBoard k (Prod.fst p0, Prod.fst (Prod.snd p0), Prod.snd (Prod.snd p0))) fun z0 => Option.bind (f_impl_groupNumbers k (Prod.fst p0, Prod.fst (Prod.snd p0), Prod.snd (Prod.snd p0))) fun z1 => Option.bind (f_impl_faultsByCell k (Prod.fst p0, Prod.fst (Prod.snd p0), Prod.snd (Prod.snd p0)) p1) fun z2 => Option.bind (f_impl_faultyDrops_0 k (0 : Int) (0 : Int) [] (Prod.fst z0) (Prod.fst (Prod.snd z0)) (Prod.snd (Prod.snd z0)) z1 z2 [] p2 (↑(List.length p2) : Int) (0 : Int)) fun z4 => some (Prod.snd (Prod.snd (Prod.snd (Prod.snd (Prod.snd (Prod.snd z4))))), Prod.fst (Prod.snd (Prod.snd (Prod.snd z4))), Prod.fst (Prod.snd (Prod.snd (Prod.snd (Prod.snd z4)))), Prod.fst (Prod.snd (Prod.snd (Prod.snd (Prod.snd (Prod.snd z4))))))
noncomputable def d_impl_faultyDrops : FnDef := .of q_impl_faultyDrops r_impl_faultyDrops (List (Int × Int × Int) × Int × Int × List (Int × Int)) (fun k x => f_impl_faultyDrops k x.1 x.2.1 x.2.2.1) to_impl_faultyDrops of_impl_faultyDrops to_of_impl_faultyDrops
noncomputable def c_impl_faultyDrops : Code := Try.f111.body.getD .skip
noncomputable def x_impl_faultyDrops : Ctx (Tup r_impl_faultyDrops × OutD) := { T := T, G := [(130, d_impl_copyBoard.E), (131, d_impl_groupNumbers.E), (133, d_impl_faultsByCell.E), (134, d_impl_faultyDrop.E)], mvs := [], no := 0, n := 39, res := resOf T q_impl_faultyDrops r_impl_faultyDrops Try.f111.results.toList, loops := [(0, f_impl_faultyDrops_0D.E)], regs := [], conds := [] }
theorem g_impl_faultyDrops (k : Nat) : EnvOK Try.prog k x_impl_faultyDrops.G := (EnvOK.cons (s_impl_copyBoard k) (EnvOK.cons (s_impl_groupNumbers k) (EnvOK.cons (s_impl_faultsByCell k) (EnvOK.cons (s_impl_faultyDrop k) (EnvOK.nil mixed)))))
noncomputable def f_impl_faultyDrops_0B : Code := (findLoop 0 c_impl_faultyDrops).getD .skip
theorem f_impl_faultyDrops_0h (k : Nat) (x : f_impl_faultyDrops_0i.D) : f_impl_faultyDrops_0D.lp (k + 1) x = loopK x_impl_faultyDrops f_impl_faultyDrops_0D 0 f_impl_faultyDrops_0B k x := by kernel_rfl
theorem f_impl_faultyDrops_0l (k : Nat) : LOK Try.prog x_impl_faultyDrops k f_impl_faultyDrops_0B := LOK.by [] (by kernel_rfl) AllOK.nil
theorem f_impl_faultyDrops_0z (x : f_impl_faultyDrops_0i.D) : f_impl_faultyDrops_0D.lp 0 x = none := by kernel_rfl
theorem f_impl_faultyDrops_0ok (k : Nat) : EOK Try.prog x_impl_faultyDrops k f_impl_faultyDrops_0D.E (.block 0 (.loop f_impl_faultyDrops_0B)) := loop_ok T_ok g_impl_faultyDrops f_impl_faultyDrops_0z f_impl_faultyDrops_0h f_impl_faultyDrops_0l k
theorem h_impl_faultyDrops (k : Nat) (x : Tup d_impl_faultyDrops.ps) : d_impl_faultyDrops.f (k + 1) x = fnK d_impl_faultyDrops x_impl_faultyDrops c_impl_faultyDrops k x := by kernel_rfl
theorem z_impl_faultyDrops (x : Tup d_impl_faultyDrops.ps) : d_impl_faultyDrops.f 0 x = none := by kernel_rfl
theorem l_impl_faultyDrops (k : Nat) : LOK Try.prog x_impl_faultyDrops k c_impl_faultyDrops := LOK.by [(f_impl_faultyDrops_0D.E, .block 0 (.loop f_impl_faultyDrops_0B))] (by kernel_rfl) (AllOK.cons (f_impl_faultyDrops_0ok k) AllOK.nil)
theorem s_impl_faultyDrops (k : Nat) : SoundAt Try.prog k 111 d_impl_faultyDrops.E := @fn_all Try.prog d_impl_faultyDrops x_impl_faultyDrops 111 Try.f111 c_impl_faultyDrops (by kernel_rfl) (by kernel_rfl) (by kernel_rfl) Try.func111 (by kernel_rfl) (by kernel_rfl) (by kernel_rfl) T_ok g_impl_faultyDrops l_impl_faultyDrops z_impl_faultyDrops h_impl_faultyDrops k
/-! function 113 -/
/-! function 118 -/
noncomputable def r_spec_tsGood : List PK := [{ t := Ty.bool }]
noncomputable def q_spec_tsGood : List PK := [{ t := Ty.pair (Ty.int IntKind.i64) (Ty.pair (Ty.int IntKind.i64) (Ty.slice (116 : Nat) (Ty.pair (Ty.int IntKind.i64) (Ty.int IntKind.i64)))), agg := true }]
noncomputable def to_spec_tsGood (r : Bool) : Tup r_spec_tsGood × OutD := ((r, ()), none)
noncomputable def of_spec_tsGood : Tup r_spec_tsGood × OutD → Option (Bool)
  | (a, none) => some (a.1)
  | _ => none
theorem to_of_spec_tsGood : ∀ b r, of_spec_tsGood b = some r → to_spec_tsGood r = b := by
  rintro ⟨a, o⟩ r h
  cases o with
  | none => injection h with h; subst h; rfl
  | some _ => cases h
noncomputable def f_spec_tsGood : Nat → Int × Int × List (Int × Int) → Option Bool
  | 0, _ => none
  | k + 1, p0 =>
    Option.bind (f_spec_boGood k (Prod.fst p0, Prod.fst (Prod.snd p0), Prod.snd (Prod.snd p0))) fun z0 => if z0 = true then some (decide ((↑(List.length (Prod.snd (Prod.snd p0))) : Int) ≤ (30 : Int))) else some false
noncomputable def d_spec_tsGood : FnDef := .of q_spec_tsGood r_spec_tsGood (Bool) (fun k x => f_spec_tsGood k x.1) to_spec_tsGood of_spec_tsGood to_of_spec_tsGood
noncomputable def c_spec_tsGood : Code := Try.f118.body.getD .skip
noncomputable def x_spec_tsGood : Ctx (Tup r_spec_tsGood × OutD) := { T := T, G := [(103, d_spec_boGood.E)], mvs := [], no := 0, n := 11, res := resOf T q_spec_tsGood r_spec_tsGood Try.f118.results.toList, loops := [], regs := [], conds := [] }
theorem g_spec_tsGood (k : Nat) : EnvOK Try.prog k x_spec_tsGood.G := (EnvOK.cons (s_spec_boGood k) (EnvOK.nil mixed))
theorem h_spec_tsGood (k : Nat) (x : Tup d_spec_tsGood.ps) : d_spec_tsGood.f (k + 1) x = fnK d_spec_tsGood x_spec_tsGood c_spec_tsGood k x := by kernel_rfl
theorem z_spec_tsGood (x : Tup d_spec_tsGood.ps) : d_spec_tsGood.f 0 x = none := by kernel_rfl
theorem l_spec_tsGood (k : Nat) : LOK Try.prog x_spec_tsGood k c_spec_tsGood := LOK.by [] (by kernel_rfl) AllOK.nil
theorem s_spec_tsGood (k : Nat) : SoundAt Try.prog k 118 d_spec_tsGood.E := @fn_all Try.prog d_spec_tsGood x_spec_tsGood 118 Try.f118 c_spec_tsGood (by kernel_rfl) (by kernel_rfl) (by kernel_rfl) Try.func118 (by kernel_rfl) (by kernel_rfl) (by kernel_rfl) T_ok g_spec_tsGood l_spec_tsGood z_spec_tsGood h_spec_tsGood k
/-! function 122 -/
noncomputable def r_spec_faAll : List PK := [{ t := Ty.slice (91 : Nat) (Ty.pair (Ty.int IntKind.i64) (Ty.pair (Ty.int IntKind.i64) (Ty.int IntKind.i64))) }, { t := Ty.pair (Ty.int IntKind.i64) (Ty.pair (Ty.int IntKind.i64) (Ty.slice (116 : Nat) (Ty.pair (Ty.int IntKind.i64) (Ty.int IntKind.i64)))), agg := true }]
noncomputable def q_spec_faAll : List PK := [{ t := Ty.pair (Ty.int IntKind.i64) (Ty.pair (Ty.int IntKind.i64) (Ty.slice (116 : Nat) (Ty.pair (Ty.int IntKind.i64) (Ty.int IntKind.i64)))), agg := true }, { t := Ty.slice (83 : Nat) (Ty.pair (Ty.int IntKind.i64) (Ty.pair (Ty.int IntKind.i64) (Ty.int IntKind.i64))) }, { t := Ty.slice (3 : Nat) (Ty.int IntKind.i64) }]
noncomputable def to_spec_faAll (r : List (Int × Int × Int) × Int × Int × List (Int × Int)) : Tup r_spec_faAll × OutD := ((r.1, r.2, ()), none)
noncomputable def of_spec_faAll : Tup r_spec_faAll × OutD → Option (List (Int × Int × Int) × Int × Int × List (Int × Int))
  | (a, none) => some (a.1, a.2.1)
  | _ => none
theorem to_of_spec_faAll : ∀ b r, of_spec_faAll b = some r → to_spec_faAll r = b := by
  rintro ⟨a, o⟩ r h
  cases o with
  | none => injection h with h; subst h; rfl
  | some _ => cases h
noncomputable def f_spec_faAll_g1 : Nat → Int → Int → List (Int × Int) → Int → Int → List (Int × Int) → List (Int × Int × Int) → List Int → Option (Int × Int × List (Int × Int) × Int × Int × List (Int × Int) × List Int × List (Int × Int × Int) × List Int) := fun k b1_0 b1_1 b1_2 b2_0 b2_1 o3 v1 v2 =>
    Option.bind (f_spec_boOwn k (b1_0, b1_1, b1_2)) fun z0 => Option.bind (f_spec_ggGroups k (b1_0, b1_1, b1_2)) fun z1 => some (b2_0, b2_1, o3, Prod.fst z0, Prod.fst (Prod.snd z0), Prod.snd (Prod.snd z0), z1, v1, v2)
noncomputable def f_spec_faAll_g1A : Nat → Int → Int → List (Int × Int) → Int → Int → List (Int × Int) → List (Int × Int × Int) → List Int → Option (List (Int × Int × List (Int × Int) × Int × Int × List (Int × Int) × List Int × List (Int × Int × Int) × List Int)) := fun k b1_0 b1_1 b1_2 b2_0 b2_1 o3 v1 v2 =>
    joinL (Option.bind (f_spec_boOwn k (b1_0, b1_1, b1_2)) fun z2 => joinL (Option.bind (f_spec_ggGroups k (b1_0, b1_1, b1_2)) fun z3 => some [(b2_0, b2_1, o3, Prod.fst z2, Prod.fst (Prod.snd z2), Prod.snd (Prod.snd z2), z3, v1, v2)]) (Option.bind (f_spec_ggGroups k (b1_0, b1_1, b1_2)) fun z4 => some [(b2_0, b2_1, o3, Prod.fst z2, Prod.fst (Prod.snd z2), Prod.snd (Prod.snd z2), z4, v1, v2)])) (Option.bind (f_spec_boOwn k (b1_0, b1_1, b1_2)) fun z5 => Option.bind (f_spec_ggGroups k (b1_0, b1_1, b1_2)) fun z6 => some [(b2_0, b2_1, o3, Prod.fst z5, Prod.fst (Prod.snd z5), Prod.snd (Prod.snd z5), z6, v1, v2)])
noncomputable def f_spec_faAll_g1i : Spec := { objs := [OSh.ro, OSh.box (32 : Nat) [Sh.int IntKind.i64, Sh.int IntKind.i64, Sh.snap (0 : Nat) (Ty.pair (Ty.int IntKind.i64) (Ty.int IntKind.i64))], OSh.box (32 : Nat) [Sh.int IntKind.i64, Sh.int IntKind.i64, Sh.sl (3 : Nat)], OSh.row true (116 : Nat) (Ty.pair (Ty.int IntKind.i64) (Ty.int IntKind.i64))], tmps := [((1 : Nat), TSh.at (Sh.snap (0 : Nat) (Ty.pair (Ty.int IntKind.i64) (Ty.pair (Ty.int IntKind.i64) (Ty.int IntKind.i64))))), ((2 : Nat), TSh.at (Sh.snap (0 : Nat) (Ty.int IntKind.i64))), ((3 : Nat), TSh.at (Sh.ptr (1 : Nat) (0 : Nat))), ((7 : Nat), TSh.at (Sh.ptr (2 : Nat) (0 : Nat)))] }
noncomputable def f_spec_faAll_g1o : Spec := { objs := [OSh.ro, OSh.box (32 : Nat) [Sh.int IntKind.i64, Sh.int IntKind.i64, Sh.sl (2 : Nat)], OSh.row true (116 : Nat) (Ty.pair (Ty.int IntKind.i64) (Ty.int IntKind.i64)), OSh.box (32 : Nat) [Sh.int IntKind.i64, Sh.int IntKind.i64, Sh.sl (4 : Nat)], OSh.row true (116 : Nat) (Ty.pair (Ty.int IntKind.i64) (Ty.int IntKind.i64)), OSh.row true (3 : Nat) (Ty.int IntKind.i64)], tmps := [((1 : Nat), TSh.at (Sh.snap (0 : Nat) (Ty.pair (Ty.int IntKind.i64) (Ty.pair (Ty.int IntKind.i64) (Ty.int IntKind.i64))))), ((2 : Nat), TSh.at (Sh.snap (0 : Nat) (Ty.int IntKind.i64))), ((7 : Nat), TSh.at (Sh.ptr (1 : Nat) (0 : Nat))), ((8 : Nat), TSh.at (Sh.ptr (3 : Nat) (0 : Nat))), ((9 : Nat), TSh.at (Sh.sl (5 : Nat)))] }
noncomputable def f_spec_faAll_g1D : LoopDef (Tup r_spec_faAll × OutD) := .plain f_spec_faAll_g1i f_spec_faAll_g1o (Int × Int × List (Int × Int) × Int × Int × List (Int × Int) × List Int × List (Int × Int × Int) × List Int) (fun k x => f_spec_faAll_g1 k x.1.2.1.1 x.1.2.1.2.1 x.1.2.1.2.2.1 x.1.2.2.1.1 x.1.2.2.1.2.1 x.1.2.2.2.1 x.2.1 x.2.2.1) (fun z => (((), (z.1, z.2.1, (), ()), z.2.2.1, (z.2.2.2.1, z.2.2.2.2.1, (), ()), z.2.2.2.2.2.1, z.2.2.2.2.2.2.1, ()), (z.2.2.2.2.2.2.2.1, z.2.2.2.2.2.2.2.2, (), (), (), ()))) (fun y => (y.1.2.1.1, y.1.2.1.2.1, y.1.2.2.1, y.1.2.2.2.1.1, y.1.2.2.2.1.2.1, y.1.2.2.2.2.1, y.1.2.2.2.2.2.1, y.2.1, y.2.2.1)) (fun _ => rfl)
theorem f_spec_faAll_g1j (k : Nat) (b1_0 : Int) (b1_1 : Int) (b1_2 : List (Int × Int)) (b2_0 : Int) (b2_1 : Int) (o3 : List (Int × Int)) (v1 : List (Int × Int × Int)) (v2 : List Int) : f_spec_faAll_g1A k b1_0 b1_1 b1_2 b2_0 b2_1 o3 v1 v2 = repl 3 (f_spec_faAll_g1 k b1_0 b1_1 b1_2 b2_0 b2_1 o3 v1 v2) := by
  simp only [f_spec_faAll_g1A, f_spec_faAll_g1, repl_some, repl_ite, repl_ite0, repl_ite1, repl_bind, joinL_repl]
noncomputable def f_spec_faAll_0 : Nat → Int → Int → List (Int × Int) → Int → Int → List (Int × Int) → List Int → List (Int × Int × Int) → List (Int × Int × Int) → List Int → Int → Int → Option (Int × Int × List (Int × Int) × Int × Int × List (Int × Int) × List (Int × Int × Int))
  | 0, _, _, _, _, _, _, _, _, _, _, _, _ => none
  | k + 1, b1_0, b1_1, o2, b3_0, b3_1, o4, o5, o6, v1, v19, v20, v21 =>
    if decide (v21 < v20) = true then if (0 : Int) ≤ v21 then if v21 < (↑(List.length v19) : Int) then Option.bind (f_spec_faGo k (b3_0, b3_1, o4) o5 v1 (List.getD v19 (Int.toNat v21) (0 : Int))) fun z8 => if List.length o6 + List.length [(Prod.fst (Prod.fst z8), Prod.fst (Prod.snd (Prod.fst z8)), Prod.snd (Prod.snd (Prod.fst z8)))] ≤ (140737488355328 / 24 : Nat) then f_spec_faAll_0 k b1_0 b1_1 o2 (Prod.fst (Prod.snd z8)) (Prod.fst (Prod.snd (Prod.snd z8))) (Prod.snd (Prod.snd (Prod.snd z8))) o5 (o6 ++ [(Prod.fst (Prod.fst z8), Prod.fst (Prod.snd (Prod.fst z8)), Prod.snd (Prod.snd (Prod.fst z8)))]) v1 v19 v20 (wrap64 (v21 + (1 : Int))) else none else none else none else some (b1_0, b1_1, o2, b3_0, b3_1, o4, o6)
noncomputable def f_spec_faAll_0i : Spec := { objs := [OSh.ro, OSh.box (32 : Nat) [Sh.int IntKind.i64, Sh.int IntKind.i64, Sh.sl (2 : Nat)], OSh.row true (116 : Nat) (Ty.pair (Ty.int IntKind.i64) (Ty.int IntKind.i64)), OSh.box (32 : Nat) [Sh.int IntKind.i64, Sh.int IntKind.i64, Sh.sl (4 : Nat)], OSh.row true (116 : Nat) (Ty.pair (Ty.int IntKind.i64) (Ty.int IntKind.i64)), OSh.row true (3 : Nat) (Ty.int IntKind.i64), OSh.row true (91 : Nat) (Ty.pair (Ty.int IntKind.i64) (Ty.pair (Ty.int IntKind.i64) (Ty.int IntKind.i64)))], tmps := [((1 : Nat), TSh.at (Sh.snap (0 : Nat) (Ty.pair (Ty.int IntKind.i64) (Ty.pair (Ty.int IntKind.i64) (Ty.int IntKind.i64))))), ((7 : Nat), TSh.at (Sh.ptr (1 : Nat) (0 : Nat))), ((8 : Nat), TSh.at (Sh.ptr (3 : Nat) (0 : Nat))), ((9 : Nat), TSh.at (Sh.sl (5 : Nat))), ((10 : Nat), TSh.at (Sh.sl (6 : Nat))), ((19 : Nat), TSh.at (Sh.snap (0 : Nat) (Ty.int IntKind.i64))), ((20 : Nat), TSh.at (Sh.int IntKind.i64)), ((21 : Nat), TSh.at (Sh.int IntKind.i64))] }
noncomputable def f_spec_faAll_0o : Spec := { objs := [OSh.ro, OSh.box (32 : Nat) [Sh.int IntKind.i64, Sh.int IntKind.i64, Sh.sl (2 : Nat)], OSh.row true (116 : Nat) (Ty.pair (Ty.int IntKind.i64) (Ty.int IntKind.i64)), OSh.box (32 : Nat) [Sh.int IntKind.i64, Sh.int IntKind.i64, Sh.sl (4 : Nat)], OSh.row true (116 : Nat) (Ty.pair (Ty.int IntKind.i64) (Ty.int IntKind.i64)), OSh.row true (91 : Nat) (Ty.pair (Ty.int IntKind.i64) (Ty.pair (Ty.int IntKind.i64) (Ty.int IntKind.i64)))], tmps := [((7 : Nat), TSh.at (Sh.ptr (1 : Nat) (0 : Nat))), ((8 : Nat), TSh.at (Sh.ptr (3 : Nat) (0 : Nat))), ((10 : Nat), TSh.at (Sh.sl (5 : Nat)))] }
noncomputable def f_spec_faAll_0D : LoopDef (Tup r_spec_faAll × OutD) := .plain f_spec_faAll_0i f_spec_faAll_0o (Int × Int × List (Int × Int) × Int × Int × List (Int × Int) × List (Int × Int × Int)) (fun k x => f_spec_faAll_0 k x.1.2.1.1 x.1.2.1.2.1 x.1.2.2.1 x.1.2.2.2.1.1 x.1.2.2.2.1.2.1 x.1.2.2.2.2.1 x.1.2.2.2.2.2.1 x.1.2.2.2.2.2.2.1 x.2.1 x.2.2.2.2.2.2.1 x.2.2.2.2.2.2.2.1 x.2.2.2.2.2.2.2.2.1) (fun z => (((), (z.1, z.2.1, (), ()), z.2.2.1, (z.2.2.2.1, z.2.2.2.2.1, (), ()), z.2.2.2.2.2.1, z.2.2.2.2.2.2, ()), ((), (), (), ()))) (fun y => (y.1.2.1.1, y.1.2.1.2.1, y.1.2.2.1, y.1.2.2.2.1.1, y.1.2.2.2.1.2.1, y.1.2.2.2.2.1, y.1.2.2.2.2.2.1)) (fun _ => rfl)
noncomputable def f_spec_faAll : Nat → Int × Int × List (Int × Int) → List (Int × Int × Int) → List Int → Option (List (Int × Int × Int) × Int × Int × List (Int × Int))
  | 0, _, _, _ => none
  | k + 1, p0, p1, p2 =>
    Option.bind (f_spec_faAll_g1 k (Prod.fst p0) (Prod.fst (Prod.snd p0)) (Prod.snd (Prod.snd p0)) (0 : Int) (0 : Int) [] p1 p2) fun z7 => Option.bind (f_spec_faAll_0 k (Prod.fst z7) (Prod.fst (Prod.snd z7)) (Prod.fst (Prod.snd (Prod.snd z7))) (Prod.fst (Prod.snd (Prod.snd (Prod.snd z7)))) (Prod.fst (Prod.snd (Prod.snd (Prod.snd (Prod.snd z7))))) (Prod.fst (Prod.snd (Prod.snd (Prod.snd (Prod.snd (Prod.snd z7)))))) (Prod.fst (Prod.snd (Prod.snd (Prod.snd (Prod.snd (Prod.snd (Prod.snd z7))))))) [] (Prod.fst (Prod.snd (Prod.snd (Prod.snd (Prod.snd (Prod.snd (Prod.snd (Prod.snd z7)))))))) (Prod.snd (Prod.snd (Prod.snd (Prod.snd (Prod.snd (Prod.snd (Prod.snd (Prod.snd z7)))))))) (↑(List.length (Prod.snd (Prod.snd (Prod.snd (Prod.snd (Prod.snd (Prod.snd (Prod.snd (Prod.snd z7))))))))) : Int) (0 : Int)) fun z9 => some (Prod.snd (Prod.snd (Prod.snd (Prod.snd (Prod.snd (Prod.snd z9))))), Prod.fst (Prod.snd (Prod.snd (Prod.snd z9))), Prod.fst (Prod.snd (Prod.snd (Prod.snd (Prod.snd z9)))), Prod.fst (Prod.snd (Prod.snd (Prod.snd (Prod.snd (Prod.snd z9))))))
noncomputable def d_spec_faAll : FnDef := .of q_spec_faAll r_spec_faAll (List (Int × Int × Int) × Int × Int × List (Int × Int)) (fun k x => f_spec_faAll k x.1 x.2.1 x.2.2.1) to_spec_faAll of_spec_faAll to_of_spec_faAll
noncomputable def c_spec_faAll : Code := Try.f122.body.getD .skip
noncomputable def x_spec_faAll : Ctx (Tup r_spec_faAll × OutD) := { T := T, G := [(136, d_spec_boOwn.E), (137, d_spec_ggGroups.E), (138, d_spec_faGo.E)], mvs := [], no := 0, n := 41, res := resOf T q_spec_faAll r_spec_faAll Try.f122.results.toList, loops := [(0, f_spec_faAll_0D.E)], regs := [(1, f_spec_faAll_g1D.E)], conds := [] }
theorem g_spec_faAll (k : Nat) : EnvOK Try.prog k x_spec_faAll.G := (EnvOK.cons (s_spec_boOwn k) (EnvOK.cons (s_spec_ggGroups k) (EnvOK.cons (s_spec_faGo k) (EnvOK.nil mixed))))
noncomputable def f_spec_faAll_g1O : Array Oper := (findReg 1 c_spec_faAll).getD #[]
theorem f_spec_faAll_g1e (k : Nat) (x : f_spec_faAll_g1i.D) : execD x_spec_faAll.T x_spec_faAll.G x_spec_faAll.mvs k f_spec_faAll_g1O (f_spec_faAll_g1D.inp.st x_spec_faAll.n x) (outK x_spec_faAll f_spec_faAll_g1D) = f_spec_faAll_g1A k x.1.2.1.1 x.1.2.1.2.1 x.1.2.1.2.2.1 x.1.2.2.1.1 x.1.2.2.1.2.1 x.1.2.2.2.1 x.2.1 x.2.2.1 := by kernel_rfl
theorem f_spec_faAll_g1ok (k : Nat) : EOK Try.prog x_spec_faAll k f_spec_faAll_g1D.E (.region 1 f_spec_faAll_g1O true) := reg_ok (D := f_spec_faAll_g1D) (m := 3) T_ok (g_spec_faAll k) (fun x => (f_spec_faAll_g1e k x).trans (f_spec_faAll_g1j k x.1.2.1.1 x.1.2.1.2.1 x.1.2.1.2.2.1 x.1.2.2.1.1 x.1.2.2.1.2.1 x.1.2.2.2.1 x.2.1 x.2.2.1))
noncomputable def f_spec_faAll_0B : Code := (findLoop 0 c_spec_faAll).getD .skip
theorem f_spec_faAll_0h (k : Nat) (x : f_spec_faAll_0i.D) : f_spec_faAll_0D.lp (k + 1) x = loopK x_spec_faAll f_spec_faAll_0D 0 f_spec_faAll_0B k x := by kernel_rfl
theorem f_spec_faAll_0l (k : Nat) : LOK Try.prog x_spec_faAll k f_spec_faAll_0B := LOK.by [] (by kernel_rfl) AllOK.nil
theorem f_spec_faAll_0z (x : f_spec_faAll_0i.D) : f_spec_faAll_0D.lp 0 x = none := by kernel_rfl
theorem f_spec_faAll_0ok (k : Nat) : EOK Try.prog x_spec_faAll k f_spec_faAll_0D.E (.block 0 (.loop f_spec_faAll_0B)) := loop_ok T_ok g_spec_faAll f_spec_faAll_0z f_spec_faAll_0h f_spec_faAll_0l k
theorem h_spec_faAll (k : Nat) (x : Tup d_spec_faAll.ps) : d_spec_faAll.f (k + 1) x = fnK d_spec_faAll x_spec_faAll c_spec_faAll k x := by kernel_rfl
theorem z_spec_faAll (x : Tup d_spec_faAll.ps) : d_spec_faAll.f 0 x = none := by kernel_rfl
theorem l_spec_faAll (k : Nat) : LOK Try.prog x_spec_faAll k c_spec_faAll := LOK.by [(f_spec_faAll_g1D.E, .region 1 f_spec_faAll_g1O true), (f_spec_faAll_0D.E, .block 0 (.loop f_spec_faAll_0B))] (by kernel_rfl) (AllOK.cons (f_spec_faAll_g1ok k) (AllOK.cons (f_spec_faAll_0ok k) AllOK.nil))
theorem s_spec_faAll (k : Nat) : SoundAt Try.prog k 122 d_spec_faAll.E := @fn_all Try.prog d_spec_faAll x_spec_faAll 122 Try.f122 c_spec_faAll (by kernel_rfl) (by kernel_rfl) (by kernel_rfl) Try.func122 (by kernel_rfl) (by kernel_rfl) (by kernel_rfl) T_ok g_spec_faAll l_spec_faAll z_spec_faAll h_spec_faAll k
/-! function 123 -/
noncomputable def r_impl_onBoard : List PK := [{ t := Ty.bool }]
noncomputable def q_impl_onBoard : List PK := [{ t := Ty.pair (Ty.int IntKind.i64) (Ty.pair (Ty.int IntKind.i64) (Ty.slice (116 : Nat) (Ty.pair (Ty.int IntKind.i64) (Ty.int IntKind.i64)))), agg := true }, { t := Ty.int IntKind.i64 }, { t := Ty.int IntKind.i64 }]
noncomputable def to_impl_onBoard (r : Bool) : Tup r_impl_onBoard × OutD := ((r, ()), none)
noncomputable def of_impl_onBoard : Tup r_impl_onBoard × OutD → Option (Bool)
  | (a, none) => some (a.1)
  | _ => none
theorem to_of_impl_onBoard : ∀ b r, of_impl_onBoard b = some r → to_impl_onBoard r = b := by
  rintro ⟨a, o⟩ r h
  cases o with
  | none => injection h with h; subst h; rfl
  | some _ => cases h
noncomputable def f_impl_onBoard : Nat → Int × Int × List (Int × Int) → Int → Int → Option Bool
  | 0, _, _, _ => none
  | k + 1, p0, p1, p2 =>
    Option.bind (f_impl_IsBoard k (Prod.fst p0, Prod.fst (Prod.snd p0), Prod.snd (Prod.snd p0))) fun z0 => if z0 = true then if decide (p1 ≥ (0 : Int)) = true then if decide (p1 < Prod.fst p0) = true then if decide (p2 ≥ (0 : Int)) = true then some (decide (p2 < Prod.fst (Prod.snd p0))) else some false else some false else some false else some false
noncomputable def d_impl_onBoard : FnDef := .of q_impl_onBoard r_impl_onBoard (Bool) (fun k x => f_impl_onBoard k x.1 x.2.1 x.2.2.1) to_impl_onBoard of_impl_onBoard to_of_impl_onBoard
noncomputable def c_impl_onBoard : Code := Try.f123.body.getD .skip
noncomputable def x_impl_onBoard : Ctx (Tup r_impl_onBoard × OutD) := { T := T, G := [(108, d_impl_IsBoard.E)], mvs := [], no := 0, n := 29, res := resOf T q_impl_onBoard r_impl_onBoard Try.f123.results.toList, loops := [], regs := [], conds := [] }
theorem g_impl_onBoard (k : Nat) : EnvOK Try.prog k x_impl_onBoard.G := (EnvOK.cons (s_impl_IsBoard k) (EnvOK.nil mixed))
theorem h_impl_onBoard (k : Nat) (x : Tup d_impl_onBoard.ps) : d_impl_onBoard.f (k + 1) x = fnK d_impl_onBoard x_impl_onBoard c_impl_onBoard k x := by kernel_rfl
theorem z_impl_onBoard (x : Tup d_impl_onBoard.ps) : d_impl_onBoard.f 0 x = none := by kernel_rfl
theorem l_impl_onBoard (k : Nat) : LOK Try.prog x_impl_onBoard k c_impl_onBoard := LOK.by [] (by kernel_rfl) AllOK.nil
theorem s_impl_onBoard (k : Nat) : SoundAt Try.prog k 123 d_impl_onBoard.E := @fn_all Try.prog d_impl_onBoard x_impl_onBoard 123 Try.f123 c_impl_onBoard (by kernel_rfl) (by kernel_rfl) (by kernel_rfl) Try.func123 (by kernel_rfl) (by kernel_rfl) (by kernel_rfl) T_ok g_impl_onBoard l_impl_onBoard z_impl_onBoard h_impl_onBoard k
/-! function 127 -/
end
end Go.Proofs.Ytgpmbmnfcbippaa.Vs
