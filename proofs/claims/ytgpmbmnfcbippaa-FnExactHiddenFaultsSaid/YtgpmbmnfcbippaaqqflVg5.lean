/- Functions of the program by plain functions, each with its contract. -/
import Derived.Test.YtgpmbmnfcbippaaqqflVsT
import Derived.Test.YtgpmbmnfcbippaaqqflVg0
import Derived.Test.YtgpmbmnfcbippaaqqflVg1
import Derived.Test.YtgpmbmnfcbippaaqqflVg2
import Derived.Test.YtgpmbmnfcbippaaqqflVg3
import Derived.Test.YtgpmbmnfcbippaaqqflVg4
set_option maxRecDepth 100000
set_option linter.unusedVariables false
set_option linter.unusedSimpArgs false
namespace Go.Proofs.Ytgpmbmnfcbippaa.Vs
open Go.RowKit
noncomputable section
/-! function 17 -/
noncomputable def r_impl_HiddenFaults : List PK := [{ t := Ty.slice (83 : Nat) (Ty.pair (Ty.int IntKind.i64) (Ty.pair (Ty.int IntKind.i64) (Ty.int IntKind.i64))) }, { t := Ty.bool }]
noncomputable def q_impl_HiddenFaults : List PK := [{ t := Ty.pair (Ty.int IntKind.i64) (Ty.pair (Ty.int IntKind.i64) (Ty.slice (116 : Nat) (Ty.pair (Ty.int IntKind.i64) (Ty.int IntKind.i64)))), agg := true }, { t := Ty.slice (3 : Nat) (Ty.int IntKind.i64) }]
noncomputable def to_impl_HiddenFaults (r : List (Int × Int × Int) × Bool) : Tup r_impl_HiddenFaults × OutD := ((r.1, r.2, ()), none)
noncomputable def of_impl_HiddenFaults : Tup r_impl_HiddenFaults × OutD → Option (List (Int × Int × Int) × Bool)
  | (a, none) => some (a.1, a.2.1)
  | _ => none
theorem to_of_impl_HiddenFaults : ∀ b r, of_impl_HiddenFaults b = some r → to_impl_HiddenFaults r = b := by
  rintro ⟨a, o⟩ r h
  cases o with
  | none => injection h with h; subst h; rfl
  | some _ => cases h
noncomputable def f_impl_HiddenFaults_0 : Nat → Int → Int → List (Int × Int) → List (Int × Int × Int) → List (Int × Int × Int) → List Int → Int → Int → Option (List (Int × Int × Int))
  | 0, _, _, _, _, _, _, _, _ => none
  | k + 1, b1_0, b1_1, b1_2, o2, o3, v1, v16, v17 =>
    if decide (v17 < v16) = true then if (0 : Int) ≤ v17 then if v17 < (↑(List.length o3) : Int) then Option.bind (f_impl_firstSeen k (b1_0, b1_1, b1_2) [(Prod.fst (List.getD o3 (Int.toNat v17) ((0 : Int), (0 : Int), (0 : Int))), Prod.fst (Prod.snd (List.getD o3 (Int.toNat v17) ((0 : Int), (0 : Int), (0 : Int)))), Prod.snd (Prod.snd (List.getD o3 (Int.toNat v17) ((0 : Int), (0 : Int), (0 : Int)))))] v1) fun z2 => if decide (z2 < (0 : Int)) = true then if List.length o2 + List.length [(Prod.fst (List.getD o3 (Int.toNat v17) ((0 : Int), (0 : Int), (0 : Int))), Prod.fst (Prod.snd (List.getD o3 (Int.toNat v17) ((0 : Int), (0 : Int), (0 : Int)))), Prod.snd (Prod.snd (List.getD o3 (Int.toNat v17) ((0 : Int), (0 : Int), (0 : Int)))))] ≤ (140737488355328 / 24 : Nat) then f_impl_HiddenFaults_0 k b1_0 b1_1 b1_2 (o2 ++ [(Prod.fst (List.getD o3 (Int.toNat v17) ((0 : Int), (0 : Int), (0 : Int))), Prod.fst (Prod.snd (List.getD o3 (Int.toNat v17) ((0 : Int), (0 : Int), (0 : Int)))), Prod.snd (Prod.snd (List.getD o3 (Int.toNat v17) ((0 : Int), (0 : Int), (0 : Int)))))]) o3 v1 v16 (wrap64 (v17 + (1 : Int))) else none else f_impl_HiddenFaults_0 k b1_0 b1_1 b1_2 o2 o3 v1 v16 (wrap64 (v17 + (1 : Int))) else none else none else some o2
noncomputable def f_impl_HiddenFaults_0i : Spec := { objs := [OSh.ro, OSh.box (32 : Nat) [Sh.int IntKind.i64, Sh.int IntKind.i64, Sh.snap (0 : Nat) (Ty.pair (Ty.int IntKind.i64) (Ty.int IntKind.i64))], OSh.row true (83 : Nat) (Ty.pair (Ty.int IntKind.i64) (Ty.pair (Ty.int IntKind.i64) (Ty.int IntKind.i64))), OSh.row true (83 : Nat) (Ty.pair (Ty.int IntKind.i64) (Ty.pair (Ty.int IntKind.i64) (Ty.int IntKind.i64)))], tmps := [((1 : Nat), TSh.at (Sh.snap (0 : Nat) (Ty.int IntKind.i64))), ((2 : Nat), TSh.at (Sh.ptr (1 : Nat) (0 : Nat))), ((6 : Nat), TSh.at (Sh.sl (2 : Nat))), ((15 : Nat), TSh.at (Sh.sl (3 : Nat))), ((16 : Nat), TSh.at (Sh.int IntKind.i64)), ((17 : Nat), TSh.at (Sh.int IntKind.i64))] }
noncomputable def f_impl_HiddenFaults_0o : Spec := { objs := [OSh.ro, OSh.row true (83 : Nat) (Ty.pair (Ty.int IntKind.i64) (Ty.pair (Ty.int IntKind.i64) (Ty.int IntKind.i64)))], tmps := [((6 : Nat), TSh.at (Sh.sl (1 : Nat)))] }
noncomputable def f_impl_HiddenFaults_0D : LoopDef (Tup r_impl_HiddenFaults × OutD) := .plain f_impl_HiddenFaults_0i f_impl_HiddenFaults_0o (List (Int × Int × Int)) (fun k x => f_impl_HiddenFaults_0 k x.1.2.1.1 x.1.2.1.2.1 x.1.2.1.2.2.1 x.1.2.2.1 x.1.2.2.2.1 x.2.1 x.2.2.2.2.2.1 x.2.2.2.2.2.2.1) (fun z => (((), z, ()), ((), ()))) (fun y => (y.1.2.1)) (fun _ => rfl)
noncomputable def f_impl_HiddenFaults : Nat → Int × Int × List (Int × Int) → List Int → Option (List (Int × Int × Int) × Bool)
  | 0, _, _ => none
  | k + 1, p0, p1 =>
    Option.bind (f_impl_validEntries k (Prod.fst p0, Prod.fst (Prod.snd p0), Prod.snd (Prod.snd p0)) p1) fun z0 => if (!z0) = true then some ([], false) else Option.bind (f_impl_possibleFaults k (Prod.fst p0, Prod.fst (Prod.snd p0), Prod.snd (Prod.snd p0))) fun z1 => Option.bind (f_impl_HiddenFaults_0 k (Prod.fst p0) (Prod.fst (Prod.snd p0)) (Prod.snd (Prod.snd p0)) [] z1 p1 (↑(List.length z1) : Int) (0 : Int)) fun z3 => some (z3, true)
noncomputable def d_impl_HiddenFaults : FnDef := .of q_impl_HiddenFaults r_impl_HiddenFaults (List (Int × Int × Int) × Bool) (fun k x => f_impl_HiddenFaults k x.1 x.2.1) to_impl_HiddenFaults of_impl_HiddenFaults to_of_impl_HiddenFaults
noncomputable def c_impl_HiddenFaults : Code := Try.f17.body.getD .skip
noncomputable def x_impl_HiddenFaults : Ctx (Tup r_impl_HiddenFaults × OutD) := { T := T, G := [(64, d_impl_validEntries.E), (65, d_impl_possibleFaults.E), (66, d_impl_firstSeen.E)], mvs := [], no := 0, n := 33, res := resOf T q_impl_HiddenFaults r_impl_HiddenFaults Try.f17.results.toList, loops := [(0, f_impl_HiddenFaults_0D.E)], regs := [], conds := [] }
theorem g_impl_HiddenFaults (k : Nat) : EnvOK Try.prog k x_impl_HiddenFaults.G := (EnvOK.cons (s_impl_validEntries k) (EnvOK.cons (s_impl_possibleFaults k) (EnvOK.cons (s_impl_firstSeen k) (EnvOK.nil mixed))))
noncomputable def f_impl_HiddenFaults_0B : Code := (findLoop 0 c_impl_HiddenFaults).getD .skip
theorem f_impl_HiddenFaults_0h (k : Nat) (x : f_impl_HiddenFaults_0i.D) : f_impl_HiddenFaults_0D.lp (k + 1) x = loopK x_impl_HiddenFaults f_impl_HiddenFaults_0D 0 f_impl_HiddenFaults_0B k x := by kernel_rfl
theorem f_impl_HiddenFaults_0l (k : Nat) : LOK Try.prog x_impl_HiddenFaults k f_impl_HiddenFaults_0B := LOK.by [] (by kernel_rfl) AllOK.nil
theorem f_impl_HiddenFaults_0z (x : f_impl_HiddenFaults_0i.D) : f_impl_HiddenFaults_0D.lp 0 x = none := by kernel_rfl
theorem f_impl_HiddenFaults_0ok (k : Nat) : EOK Try.prog x_impl_HiddenFaults k f_impl_HiddenFaults_0D.E (.block 0 (.loop f_impl_HiddenFaults_0B)) := loop_ok T_ok g_impl_HiddenFaults f_impl_HiddenFaults_0z f_impl_HiddenFaults_0h f_impl_HiddenFaults_0l k
theorem h_impl_HiddenFaults (k : Nat) (x : Tup d_impl_HiddenFaults.ps) : d_impl_HiddenFaults.f (k + 1) x = fnK d_impl_HiddenFaults x_impl_HiddenFaults c_impl_HiddenFaults k x := by kernel_rfl
theorem z_impl_HiddenFaults (x : Tup d_impl_HiddenFaults.ps) : d_impl_HiddenFaults.f 0 x = none := by kernel_rfl
theorem l_impl_HiddenFaults (k : Nat) : LOK Try.prog x_impl_HiddenFaults k c_impl_HiddenFaults := LOK.by [(f_impl_HiddenFaults_0D.E, .block 0 (.loop f_impl_HiddenFaults_0B))] (by kernel_rfl) (AllOK.cons (f_impl_HiddenFaults_0ok k) AllOK.nil)
theorem s_impl_HiddenFaults (k : Nat) : SoundAt Try.prog k 17 d_impl_HiddenFaults.E := @fn_all Try.prog d_impl_HiddenFaults x_impl_HiddenFaults 17 Try.f17 c_impl_HiddenFaults (by kernel_rfl) (by kernel_rfl) (by kernel_rfl) Try.func17 (by kernel_rfl) (by kernel_rfl) (by kernel_rfl) T_ok g_impl_HiddenFaults l_impl_HiddenFaults z_impl_HiddenFaults h_impl_HiddenFaults k
/-! function 43 -/
/-! function 46 -/
/-! function 62 -/
noncomputable def r_spec_faHidden : List PK := [{ t := Ty.slice (83 : Nat) (Ty.pair (Ty.int IntKind.i64) (Ty.pair (Ty.int IntKind.i64) (Ty.int IntKind.i64))) }]
noncomputable def q_spec_faHidden : List PK := [{ t := Ty.pair (Ty.int IntKind.i64) (Ty.pair (Ty.int IntKind.i64) (Ty.slice (116 : Nat) (Ty.pair (Ty.int IntKind.i64) (Ty.int IntKind.i64)))), agg := true }, { t := Ty.slice (3 : Nat) (Ty.int IntKind.i64) }]
noncomputable def to_spec_faHidden (r : List (Int × Int × Int)) : Tup r_spec_faHidden × OutD := ((r, ()), none)
noncomputable def of_spec_faHidden : Tup r_spec_faHidden × OutD → Option (List (Int × Int × Int))
  | (a, none) => some (a.1)
  | _ => none
theorem to_of_spec_faHidden : ∀ b r, of_spec_faHidden b = some r → to_spec_faHidden r = b := by
  rintro ⟨a, o⟩ r h
  cases o with
  | none => injection h with h; subst h; rfl
  | some _ => cases h
noncomputable def f_spec_faHidden_0 : Nat → Int → Int → List (Int × Int) → List (Int × Int × Int) → List (Int × Int × Int) → List Int → Int → Int → Option (List (Int × Int × Int))
  | 0, _, _, _, _, _, _, _, _ => none
  | k + 1, b1_0, b1_1, b1_2, o2, o3, v1, v10, v11 =>
    if decide (v11 < v10) = true then if (0 : Int) ≤ v11 then if v11 < (↑(List.length o3) : Int) then Option.bind (f_spec_faSeen k (b1_0, b1_1, b1_2) [(Prod.fst (List.getD o3 (Int.toNat v11) ((0 : Int), (0 : Int), (0 : Int))), Prod.fst (Prod.snd (List.getD o3 (Int.toNat v11) ((0 : Int), (0 : Int), (0 : Int)))), Prod.snd (Prod.snd (List.getD o3 (Int.toNat v11) ((0 : Int), (0 : Int), (0 : Int)))))] v1) fun z1 => if decide (z1 < (0 : Int)) = true then if List.length o2 + List.length [(Prod.fst (List.getD o3 (Int.toNat v11) ((0 : Int), (0 : Int), (0 : Int))), Prod.fst (Prod.snd (List.getD o3 (Int.toNat v11) ((0 : Int), (0 : Int), (0 : Int)))), Prod.snd (Prod.snd (List.getD o3 (Int.toNat v11) ((0 : Int), (0 : Int), (0 : Int)))))] ≤ (140737488355328 / 24 : Nat) then f_spec_faHidden_0 k b1_0 b1_1 b1_2 (o2 ++ [(Prod.fst (List.getD o3 (Int.toNat v11) ((0 : Int), (0 : Int), (0 : Int))), Prod.fst (Prod.snd (List.getD o3 (Int.toNat v11) ((0 : Int), (0 : Int), (0 : Int)))), Prod.snd (Prod.snd (List.getD o3 (Int.toNat v11) ((0 : Int), (0 : Int), (0 : Int)))))]) o3 v1 v10 (wrap64 (v11 + (1 : Int))) else none else f_spec_faHidden_0 k b1_0 b1_1 b1_2 o2 o3 v1 v10 (wrap64 (v11 + (1 : Int))) else none else none else some o2
noncomputable def f_spec_faHidden_0i : Spec := { objs := [OSh.ro, OSh.box (32 : Nat) [Sh.int IntKind.i64, Sh.int IntKind.i64, Sh.snap (0 : Nat) (Ty.pair (Ty.int IntKind.i64) (Ty.int IntKind.i64))], OSh.row true (83 : Nat) (Ty.pair (Ty.int IntKind.i64) (Ty.pair (Ty.int IntKind.i64) (Ty.int IntKind.i64))), OSh.row true (83 : Nat) (Ty.pair (Ty.int IntKind.i64) (Ty.pair (Ty.int IntKind.i64) (Ty.int IntKind.i64)))], tmps := [((1 : Nat), TSh.at (Sh.snap (0 : Nat) (Ty.int IntKind.i64))), ((2 : Nat), TSh.at (Sh.ptr (1 : Nat) (0 : Nat))), ((5 : Nat), TSh.at (Sh.sl (2 : Nat))), ((9 : Nat), TSh.at (Sh.sl (3 : Nat))), ((10 : Nat), TSh.at (Sh.int IntKind.i64)), ((11 : Nat), TSh.at (Sh.int IntKind.i64))] }
noncomputable def f_spec_faHidden_0o : Spec := { objs := [OSh.ro, OSh.row true (83 : Nat) (Ty.pair (Ty.int IntKind.i64) (Ty.pair (Ty.int IntKind.i64) (Ty.int IntKind.i64)))], tmps := [((5 : Nat), TSh.at (Sh.sl (1 : Nat)))] }
noncomputable def f_spec_faHidden_0D : LoopDef (Tup r_spec_faHidden × OutD) := .plain f_spec_faHidden_0i f_spec_faHidden_0o (List (Int × Int × Int)) (fun k x => f_spec_faHidden_0 k x.1.2.1.1 x.1.2.1.2.1 x.1.2.1.2.2.1 x.1.2.2.1 x.1.2.2.2.1 x.2.1 x.2.2.2.2.2.1 x.2.2.2.2.2.2.1) (fun z => (((), z, ()), ((), ()))) (fun y => (y.1.2.1)) (fun _ => rfl)
noncomputable def f_spec_faHidden : Nat → Int × Int × List (Int × Int) → List Int → Option (List (Int × Int × Int))
  | 0, _, _ => none
  | k + 1, p0, p1 =>
    Option.bind (f_spec_faPossible k (Prod.fst p0, Prod.fst (Prod.snd p0), Prod.snd (Prod.snd p0))) fun z0 => Option.bind (f_spec_faHidden_0 k (Prod.fst p0) (Prod.fst (Prod.snd p0)) (Prod.snd (Prod.snd p0)) [] z0 p1 (↑(List.length z0) : Int) (0 : Int)) fun z2 => some z2
noncomputable def d_spec_faHidden : FnDef := .of q_spec_faHidden r_spec_faHidden (List (Int × Int × Int)) (fun k x => f_spec_faHidden k x.1 x.2.1) to_spec_faHidden of_spec_faHidden to_of_spec_faHidden
noncomputable def c_spec_faHidden : Code := Try.f62.body.getD .skip
noncomputable def x_spec_faHidden : Ctx (Tup r_spec_faHidden × OutD) := { T := T, G := [(105, d_spec_faPossible.E), (106, d_spec_faSeen.E)], mvs := [], no := 0, n := 27, res := resOf T q_spec_faHidden r_spec_faHidden Try.f62.results.toList, loops := [(0, f_spec_faHidden_0D.E)], regs := [], conds := [] }
theorem g_spec_faHidden (k : Nat) : EnvOK Try.prog k x_spec_faHidden.G := (EnvOK.cons (s_spec_faPossible k) (EnvOK.cons (s_spec_faSeen k) (EnvOK.nil mixed)))
noncomputable def f_spec_faHidden_0B : Code := (findLoop 0 c_spec_faHidden).getD .skip
theorem f_spec_faHidden_0h (k : Nat) (x : f_spec_faHidden_0i.D) : f_spec_faHidden_0D.lp (k + 1) x = loopK x_spec_faHidden f_spec_faHidden_0D 0 f_spec_faHidden_0B k x := by kernel_rfl
theorem f_spec_faHidden_0l (k : Nat) : LOK Try.prog x_spec_faHidden k f_spec_faHidden_0B := LOK.by [] (by kernel_rfl) AllOK.nil
theorem f_spec_faHidden_0z (x : f_spec_faHidden_0i.D) : f_spec_faHidden_0D.lp 0 x = none := by kernel_rfl
theorem f_spec_faHidden_0ok (k : Nat) : EOK Try.prog x_spec_faHidden k f_spec_faHidden_0D.E (.block 0 (.loop f_spec_faHidden_0B)) := loop_ok T_ok g_spec_faHidden f_spec_faHidden_0z f_spec_faHidden_0h f_spec_faHidden_0l k
theorem h_spec_faHidden (k : Nat) (x : Tup d_spec_faHidden.ps) : d_spec_faHidden.f (k + 1) x = fnK d_spec_faHidden x_spec_faHidden c_spec_faHidden k x := by kernel_rfl
theorem z_spec_faHidden (x : Tup d_spec_faHidden.ps) : d_spec_faHidden.f 0 x = none := by kernel_rfl
theorem l_spec_faHidden (k : Nat) : LOK Try.prog x_spec_faHidden k c_spec_faHidden := LOK.by [(f_spec_faHidden_0D.E, .block 0 (.loop f_spec_faHidden_0B))] (by kernel_rfl) (AllOK.cons (f_spec_faHidden_0ok k) AllOK.nil)
theorem s_spec_faHidden (k : Nat) : SoundAt Try.prog k 62 d_spec_faHidden.E := @fn_all Try.prog d_spec_faHidden x_spec_faHidden 62 Try.f62 c_spec_faHidden (by kernel_rfl) (by kernel_rfl) (by kernel_rfl) Try.func62 (by kernel_rfl) (by kernel_rfl) (by kernel_rfl) T_ok g_spec_faHidden l_spec_faHidden z_spec_faHidden h_spec_faHidden k
/-! function 71 -/
/-! function 74 -/
/-! function 76 -/
/-! function 77 -/
/-! function 94 -/
/-! function 99 -/
end
end Go.Proofs.Ytgpmbmnfcbippaa.Vs
