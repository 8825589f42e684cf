/- Functions of the program by plain functions, each with its contract. -/
import Derived.Test.YtkefbmaagdaodaaVsT
import Derived.Test.YtkefbmaagdaodaaVg0
import Derived.Test.YtkefbmaagdaodaaVg1
import Derived.Test.YtkefbmaagdaodaaVg2
import Derived.Test.YtkefbmaagdaodaaVg3
set_option maxRecDepth 100000
set_option linter.unusedVariables false
set_option linter.unusedSimpArgs false
namespace Go.Proofs.Ytkefbmaagdaodaa.Vs
open Go.RowKit
noncomputable section
/-! function 24 -/
noncomputable def r_impl_PossibleFaults : List PK := [{ t := Ty.slice (87 : Nat) (Ty.pair (Ty.int IntKind.i64) (Ty.pair (Ty.int IntKind.i64) (Ty.int IntKind.i64))) }, { t := Ty.bool }]
noncomputable def q_impl_PossibleFaults : List PK := [{ t := Ty.pair (Ty.int IntKind.i64) (Ty.pair (Ty.int IntKind.i64) (Ty.slice (123 : Nat) (Ty.pair (Ty.int IntKind.i64) (Ty.int IntKind.i64)))), agg := true }]
noncomputable def to_impl_PossibleFaults (r : List (Int × Int × Int) × Bool) : Tup r_impl_PossibleFaults × OutD := ((r.1, r.2, ()), none)
noncomputable def of_impl_PossibleFaults : Tup r_impl_PossibleFaults × OutD → Option (List (Int × Int × Int) × Bool)
  | (a, none) => some (a.1, a.2.1)
  | _ => none
theorem to_of_impl_PossibleFaults : ∀ b r, of_impl_PossibleFaults b = some r → to_impl_PossibleFaults r = b := by
  rintro ⟨a, o⟩ r h
  cases o with
  | none => injection h with h; subst h; rfl
  | some _ => cases h
noncomputable def f_impl_PossibleFaults : Nat → Int × Int × List (Int × Int) → Option (List (Int × Int × Int) × Bool)
  | 0, _ => none
  | k + 1, p0 =>
    Option.bind (f_impl_IsBoard k (Prod.fst p0, Prod.fst (Prod.snd p0), Prod.snd (Prod.snd p0))) fun z0 => if (!z0) = true then some ([], false) else Option.bind (f_impl_possibleFaults k (Prod.fst p0, Prod.fst (Prod.snd p0), Prod.snd (Prod.snd p0))) fun z1 => some (z1, true)
noncomputable def d_impl_PossibleFaults : FnDef := .of q_impl_PossibleFaults r_impl_PossibleFaults (List (Int × Int × Int) × Bool) (fun k x => f_impl_PossibleFaults k x.1) to_impl_PossibleFaults of_impl_PossibleFaults to_of_impl_PossibleFaults
noncomputable def c_impl_PossibleFaults : Code := Try.f24.body.getD .skip
noncomputable def x_impl_PossibleFaults : Ctx (Tup r_impl_PossibleFaults × OutD) := { T := T, G := [(67, d_impl_IsBoard.E), (72, d_impl_possibleFaults.E)], mvs := [], no := 0, n := 9, res := resOf T q_impl_PossibleFaults r_impl_PossibleFaults Try.f24.results.toList, loops := [], regs := [], conds := [] }
theorem g_impl_PossibleFaults (k : Nat) : EnvOK Try.prog k x_impl_PossibleFaults.G := (EnvOK.cons (s_impl_IsBoard k) (EnvOK.cons (s_impl_possibleFaults k) (EnvOK.nil mixed)))
theorem h_impl_PossibleFaults (k : Nat) (x : Tup d_impl_PossibleFaults.ps) : d_impl_PossibleFaults.f (k + 1) x = fnK d_impl_PossibleFaults x_impl_PossibleFaults c_impl_PossibleFaults k x := by kernel_rfl
theorem z_impl_PossibleFaults (x : Tup d_impl_PossibleFaults.ps) : d_impl_PossibleFaults.f 0 x = none := by kernel_rfl
theorem l_impl_PossibleFaults (k : Nat) : LOK Try.prog x_impl_PossibleFaults k c_impl_PossibleFaults := LOK.by [] (by kernel_rfl) AllOK.nil
theorem s_impl_PossibleFaults (k : Nat) : SoundAt Try.prog k 24 d_impl_PossibleFaults.E := @fn_all Try.prog d_impl_PossibleFaults x_impl_PossibleFaults 24 Try.f24 c_impl_PossibleFaults (by kernel_rfl) (by kernel_rfl) (by kernel_rfl) Try.func24 (by kernel_rfl) (by kernel_rfl) (by kernel_rfl) T_ok g_impl_PossibleFaults l_impl_PossibleFaults z_impl_PossibleFaults h_impl_PossibleFaults k
/-! function 57 -/
noncomputable def r_spec_FaultyFalls : List PK := [{ t := Ty.slice (45 : Nat) (Ty.pair (Ty.int IntKind.i64) (Ty.pair (Ty.int IntKind.i64) (Ty.int IntKind.i64))) }, { t := Ty.pair (Ty.int IntKind.i64) (Ty.pair (Ty.int IntKind.i64) (Ty.slice (123 : Nat) (Ty.pair (Ty.int IntKind.i64) (Ty.int IntKind.i64)))), agg := true }, { t := Ty.bool }]
noncomputable def q_spec_FaultyFalls : List PK := [{ t := Ty.pair (Ty.int IntKind.i64) (Ty.pair (Ty.int IntKind.i64) (Ty.slice (123 : Nat) (Ty.pair (Ty.int IntKind.i64) (Ty.int IntKind.i64)))), agg := true }, { t := Ty.slice (87 : Nat) (Ty.pair (Ty.int IntKind.i64) (Ty.pair (Ty.int IntKind.i64) (Ty.int IntKind.i64))) }, { t := Ty.slice (3 : Nat) (Ty.int IntKind.i64) }]
noncomputable def to_spec_FaultyFalls (r : List (Int × Int × Int) × (Int × Int × List (Int × Int)) × Bool) : Tup r_spec_FaultyFalls × OutD := ((r.1, r.2.1, r.2.2, ()), none)
noncomputable def of_spec_FaultyFalls : Tup r_spec_FaultyFalls × OutD → Option (List (Int × Int × Int) × (Int × Int × List (Int × Int)) × Bool)
  | (a, none) => some (a.1, a.2.1, a.2.2.1)
  | _ => none
theorem to_of_spec_FaultyFalls : ∀ b r, of_spec_FaultyFalls b = some r → to_spec_FaultyFalls r = b := by
  rintro ⟨a, o⟩ r h
  cases o with
  | none => injection h with h; subst h; rfl
  | some _ => cases h
noncomputable def f_spec_FaultyFalls : Nat → Int × Int × List (Int × Int) → List (Int × Int × Int) → List Int → Option (List (Int × Int × Int) × (Int × Int × List (Int × Int)) × Bool)
  | 0, _, _, _ => none
  | k + 1, p0, p1, p2 =>
    Option.bind (f_spec_flColumns k (Prod.fst p0, Prod.fst (Prod.snd p0), Prod.snd (Prod.snd p0)) p2) fun z0 => if (!z0) = true then some ([], ((0 : Int), (0 : Int), []), false) else Option.bind (f_spec_faGood k (Prod.fst p0, Prod.fst (Prod.snd p0), Prod.snd (Prod.snd p0)) p1) fun z1 => if (!z1) = true then some ([], ((0 : Int), (0 : Int), []), false) else Option.bind (f_spec_faAll k (Prod.fst p0, Prod.fst (Prod.snd p0), Prod.snd (Prod.snd p0)) p1 p2) fun z2 => some (Prod.fst z2, (Prod.fst (Prod.snd z2), Prod.fst (Prod.snd (Prod.snd z2)), Prod.snd (Prod.snd (Prod.snd z2))), true)
noncomputable def d_spec_FaultyFalls : FnDef := .of q_spec_FaultyFalls r_spec_FaultyFalls (List (Int × Int × Int) × (Int × Int × List (Int × Int)) × Bool) (fun k x => f_spec_FaultyFalls k x.1 x.2.1 x.2.2.1) to_spec_FaultyFalls of_spec_FaultyFalls to_of_spec_FaultyFalls
noncomputable def c_spec_FaultyFalls : Code := Try.f57.body.getD .skip
noncomputable def x_spec_FaultyFalls : Ctx (Tup r_spec_FaultyFalls × OutD) := { T := T, G := [(87, d_spec_flColumns.E), (64, d_spec_faGood.E), (106, d_spec_faAll.E)], mvs := [], no := 0, n := 31, res := resOf T q_spec_FaultyFalls r_spec_FaultyFalls Try.f57.results.toList, loops := [], regs := [], conds := [] }
theorem g_spec_FaultyFalls (k : Nat) : EnvOK Try.prog k x_spec_FaultyFalls.G := (EnvOK.cons (s_spec_flColumns k) (EnvOK.cons (s_spec_faGood k) (EnvOK.cons (s_spec_faAll k) (EnvOK.nil mixed))))
theorem h_spec_FaultyFalls (k : Nat) (x : Tup d_spec_FaultyFalls.ps) : d_spec_FaultyFalls.f (k + 1) x = fnK d_spec_FaultyFalls x_spec_FaultyFalls c_spec_FaultyFalls k x := by kernel_rfl
theorem z_spec_FaultyFalls (x : Tup d_spec_FaultyFalls.ps) : d_spec_FaultyFalls.f 0 x = none := by kernel_rfl
theorem l_spec_FaultyFalls (k : Nat) : LOK Try.prog x_spec_FaultyFalls k c_spec_FaultyFalls := LOK.by [] (by kernel_rfl) AllOK.nil
theorem s_spec_FaultyFalls (k : Nat) : SoundAt Try.prog k 57 d_spec_FaultyFalls.E := @fn_all Try.prog d_spec_FaultyFalls x_spec_FaultyFalls 57 Try.f57 c_spec_FaultyFalls (by kernel_rfl) (by kernel_rfl) (by kernel_rfl) Try.func57 (by kernel_rfl) (by kernel_rfl) (by kernel_rfl) T_ok g_spec_FaultyFalls l_spec_FaultyFalls z_spec_FaultyFalls h_spec_FaultyFalls k
/-! function 68 -/
noncomputable def r_impl_areFaults : List PK := [{ t := Ty.bool }]
noncomputable def q_impl_areFaults : List PK := [{ t := Ty.pair (Ty.int IntKind.i64) (Ty.pair (Ty.int IntKind.i64) (Ty.slice (123 : Nat) (Ty.pair (Ty.int IntKind.i64) (Ty.int IntKind.i64)))), agg := true }, { t := Ty.slice (87 : Nat) (Ty.pair (Ty.int IntKind.i64) (Ty.pair (Ty.int IntKind.i64) (Ty.int IntKind.i64))) }]
noncomputable def to_impl_areFaults (r : Bool) : Tup r_impl_areFaults × OutD := ((r, ()), none)
noncomputable def of_impl_areFaults : Tup r_impl_areFaults × OutD → Option (Bool)
  | (a, none) => some (a.1)
  | _ => none
theorem to_of_impl_areFaults : ∀ b r, of_impl_areFaults b = some r → to_impl_areFaults r = b := by
  rintro ⟨a, o⟩ r h
  cases o with
  | none => injection h with h; subst h; rfl
  | some _ => cases h
noncomputable def f_impl_areFaults_0 : Nat → Int → Int → List (Int × Int) → Int → List (Int × Int × Int) → Int → Int → Option (LR Unit Bool)
  | 0, _, _, _, _, _, _, _ => none
  | k + 1, b1_0, b1_1, b1_2, v5, v12, v13, v14 =>
    if decide (v14 < v13) = true then if (0 : Int) ≤ v14 then if v14 < (↑(List.length v12) : Int) then Option.bind (f_impl_onBoard k (b1_0, b1_1, b1_2) (Prod.fst (Prod.snd (List.getD v12 (Int.toNat v14) ((0 : Int), (0 : Int), (0 : Int))))) (Prod.snd (Prod.snd (List.getD v12 (Int.toNat v14) ((0 : Int), (0 : Int), (0 : Int)))))) fun z0 => if (!z0) = true then some (LR.ret false) else if decide (wrap64 (wrap64 (Prod.fst (Prod.snd (List.getD v12 (Int.toNat v14) ((0 : Int), (0 : Int), (0 : Int)))) * b1_1) + Prod.snd (Prod.snd (List.getD v12 (Int.toNat v14) ((0 : Int), (0 : Int), (0 : Int))))) ≤ v5) = true then some (LR.ret false) else if (0 : Int) ≤ wrap64 (wrap64 (Prod.fst (Prod.snd (List.getD v12 (Int.toNat v14) ((0 : Int), (0 : Int), (0 : Int)))) * b1_1) + Prod.snd (Prod.snd (List.getD v12 (Int.toNat v14) ((0 : Int), (0 : Int), (0 : Int))))) then if wrap64 (wrap64 (Prod.fst (Prod.snd (List.getD v12 (Int.toNat v14) ((0 : Int), (0 : Int), (0 : Int)))) * b1_1) + Prod.snd (Prod.snd (List.getD v12 (Int.toNat v14) ((0 : Int), (0 : Int), (0 : Int))))) < (↑(List.length b1_2) : Int) then Option.bind (f_impl_canHave k (Prod.fst (List.getD b1_2 (Int.toNat (wrap64 (wrap64 (Prod.fst (Prod.snd (List.getD v12 (Int.toNat v14) ((0 : Int), (0 : Int), (0 : Int)))) * b1_1) + Prod.snd (Prod.snd (List.getD v12 (Int.toNat v14) ((0 : Int), (0 : Int), (0 : Int))))))) ((0 : Int), (0 : Int))), Prod.snd (List.getD b1_2 (Int.toNat (wrap64 (wrap64 (Prod.fst (Prod.snd (List.getD v12 (Int.toNat v14) ((0 : Int), (0 : Int), (0 : Int)))) * b1_1) + Prod.snd (Prod.snd (List.getD v12 (Int.toNat v14) ((0 : Int), (0 : Int), (0 : Int))))))) ((0 : Int), (0 : Int)))) (Prod.fst (List.getD v12 (Int.toNat v14) ((0 : Int), (0 : Int), (0 : Int))))) fun z1 => if (!z1) = true then some (LR.ret false) else f_impl_areFaults_0 k b1_0 b1_1 b1_2 (wrap64 (wrap64 (Prod.fst (Prod.snd (List.getD v12 (Int.toNat v14) ((0 : Int), (0 : Int), (0 : Int)))) * b1_1) + Prod.snd (Prod.snd (List.getD v12 (Int.toNat v14) ((0 : Int), (0 : Int), (0 : Int)))))) v12 v13 (wrap64 (v14 + (1 : Int))) else none else none else none else none else some (LR.go ())
noncomputable def f_impl_areFaults_0i : Spec := { objs := [OSh.ro, OSh.box (32 : Nat) [Sh.int IntKind.i64, Sh.int IntKind.i64, Sh.snap (0 : Nat) (Ty.pair (Ty.int IntKind.i64) (Ty.int IntKind.i64))]], tmps := [((2 : Nat), TSh.at (Sh.ptr (1 : Nat) (0 : Nat))), ((5 : Nat), TSh.at (Sh.int IntKind.i64)), ((12 : Nat), TSh.at (Sh.snap (0 : Nat) (Ty.pair (Ty.int IntKind.i64) (Ty.pair (Ty.int IntKind.i64) (Ty.int IntKind.i64))))), ((13 : Nat), TSh.at (Sh.int IntKind.i64)), ((14 : Nat), TSh.at (Sh.int IntKind.i64))] }
noncomputable def f_impl_areFaults_0o : Spec := { objs := [OSh.ro], tmps := [] }
noncomputable def f_impl_areFaults_0D : LoopDef (Tup r_impl_areFaults × OutD) := .rets f_impl_areFaults_0i f_impl_areFaults_0o (Unit) (Bool) (fun k x => f_impl_areFaults_0 k x.1.2.1.1 x.1.2.1.2.1 x.1.2.1.2.2.1 x.2.2.1 x.2.2.2.1 x.2.2.2.2.1 x.2.2.2.2.2.1) (fun z => (((), ()), (()))) (fun y => ()) (fun _ => rfl) to_impl_areFaults of_impl_areFaults to_of_impl_areFaults
noncomputable def f_impl_areFaults : Nat → Int × Int × List (Int × Int) → List (Int × Int × Int) → Option Bool
  | 0, _, _ => none
  | k + 1, p0, p1 =>
    if decide ((↑(List.length p1) : Int) > (4 : Int)) = true then some false else Option.bind (f_impl_areFaults_0 k (Prod.fst p0) (Prod.fst (Prod.snd p0)) (Prod.snd (Prod.snd p0)) (-1 : Int) p1 (↑(List.length p1) : Int) (0 : Int)) fun z2 => LR.on z2 (fun y2 => some true) fun r2 => some r2
noncomputable def d_impl_areFaults : FnDef := .of q_impl_areFaults r_impl_areFaults (Bool) (fun k x => f_impl_areFaults k x.1 x.2.1) to_impl_areFaults of_impl_areFaults to_of_impl_areFaults
noncomputable def c_impl_areFaults : Code := Try.f68.body.getD .skip
noncomputable def x_impl_areFaults : Ctx (Tup r_impl_areFaults × OutD) := { T := T, G := [(116, d_impl_onBoard.E), (117, d_impl_canHave.E)], mvs := [], no := 0, n := 49, res := resOf T q_impl_areFaults r_impl_areFaults Try.f68.results.toList, loops := [(0, f_impl_areFaults_0D.E)], regs := [], conds := [] }
theorem g_impl_areFaults (k : Nat) : EnvOK Try.prog k x_impl_areFaults.G := (EnvOK.cons (s_impl_onBoard k) (EnvOK.cons (s_impl_canHave k) (EnvOK.nil mixed)))
noncomputable def f_impl_areFaults_0B : Code := (findLoop 0 c_impl_areFaults).getD .skip
theorem f_impl_areFaults_0h (k : Nat) (x : f_impl_areFaults_0i.D) : f_impl_areFaults_0D.lp (k + 1) x = loopK x_impl_areFaults f_impl_areFaults_0D 0 f_impl_areFaults_0B k x := by kernel_rfl
theorem f_impl_areFaults_0l (k : Nat) : LOK Try.prog x_impl_areFaults k f_impl_areFaults_0B := LOK.by [] (by kernel_rfl) AllOK.nil
theorem f_impl_areFaults_0z (x : f_impl_areFaults_0i.D) : f_impl_areFaults_0D.lp 0 x = none := by kernel_rfl
theorem f_impl_areFaults_0ok (k : Nat) : EOK Try.prog x_impl_areFaults k f_impl_areFaults_0D.E (.block 0 (.loop f_impl_areFaults_0B)) := loop_ok T_ok g_impl_areFaults f_impl_areFaults_0z f_impl_areFaults_0h f_impl_areFaults_0l k
theorem h_impl_areFaults (k : Nat) (x : Tup d_impl_areFaults.ps) : d_impl_areFaults.f (k + 1) x = fnK d_impl_areFaults x_impl_areFaults c_impl_areFaults k x := by kernel_rfl
theorem z_impl_areFaults (x : Tup d_impl_areFaults.ps) : d_impl_areFaults.f 0 x = none := by kernel_rfl
theorem l_impl_areFaults (k : Nat) : LOK Try.prog x_impl_areFaults k c_impl_areFaults := LOK.by [(f_impl_areFaults_0D.E, .block 0 (.loop f_impl_areFaults_0B))] (by kernel_rfl) (AllOK.cons (f_impl_areFaults_0ok k) AllOK.nil)
theorem s_impl_areFaults (k : Nat) : SoundAt Try.prog k 68 d_impl_areFaults.E := @fn_all Try.prog d_impl_areFaults x_impl_areFaults 68 Try.f68 c_impl_areFaults (by kernel_rfl) (by kernel_rfl) (by kernel_rfl) Try.func68 (by kernel_rfl) (by kernel_rfl) (by kernel_rfl) T_ok g_impl_areFaults l_impl_areFaults z_impl_areFaults h_impl_areFaults k
/-! function 74 -/
noncomputable def r_spec_faHas : List PK := [{ t := Ty.bool }]
noncomputable def q_spec_faHas : List PK := [{ t := Ty.pair (Ty.int IntKind.i64) (Ty.pair (Ty.int IntKind.i64) (Ty.slice (123 : Nat) (Ty.pair (Ty.int IntKind.i64) (Ty.int IntKind.i64)))), agg := true }, { t := Ty.slice (87 : Nat) (Ty.pair (Ty.int IntKind.i64) (Ty.pair (Ty.int IntKind.i64) (Ty.int IntKind.i64))) }, { t := Ty.int IntKind.i64 }]
noncomputable def to_spec_faHas (r : Bool) : Tup r_spec_faHas × OutD := ((r, ()), none)
noncomputable def of_spec_faHas : Tup r_spec_faHas × OutD → Option (Bool)
  | (a, none) => some (a.1)
  | _ => none
theorem to_of_spec_faHas : ∀ b r, of_spec_faHas b = some r → to_spec_faHas r = b := by
  rintro ⟨a, o⟩ r h
  cases o with
  | none => injection h with h; subst h; rfl
  | some _ => cases h
noncomputable def f_spec_faHas : Nat → Int × Int × List (Int × Int) → List (Int × Int × Int) → Int → Option Bool
  | 0, _, _, _ => none
  | k + 1, p0, p1, p2 =>
    Option.bind (f_spec_flHas k (Prod.fst p0, Prod.fst (Prod.snd p0), Prod.snd (Prod.snd p0)) p2) fun z0 => if z0 = true then Option.bind (f_spec_faGood k (Prod.fst p0, Prod.fst (Prod.snd p0), Prod.snd (Prod.snd p0)) p1) fun z1 => some z1 else some false
noncomputable def d_spec_faHas : FnDef := .of q_spec_faHas r_spec_faHas (Bool) (fun k x => f_spec_faHas k x.1 x.2.1 x.2.2.1) to_spec_faHas of_spec_faHas to_of_spec_faHas
noncomputable def c_spec_faHas : Code := Try.f74.body.getD .skip
noncomputable def x_spec_faHas : Ctx (Tup r_spec_faHas × OutD) := { T := T, G := [(119, d_spec_flHas.E), (64, d_spec_faGood.E)], mvs := [], no := 0, n := 15, res := resOf T q_spec_faHas r_spec_faHas Try.f74.results.toList, loops := [], regs := [], conds := [] }
theorem g_spec_faHas (k : Nat) : EnvOK Try.prog k x_spec_faHas.G := (EnvOK.cons (s_spec_flHas k) (EnvOK.cons (s_spec_faGood k) (EnvOK.nil mixed)))
theorem h_spec_faHas (k : Nat) (x : Tup d_spec_faHas.ps) : d_spec_faHas.f (k + 1) x = fnK d_spec_faHas x_spec_faHas c_spec_faHas k x := by kernel_rfl
theorem z_spec_faHas (x : Tup d_spec_faHas.ps) : d_spec_faHas.f 0 x = none := by kernel_rfl
theorem l_spec_faHas (k : Nat) : LOK Try.prog x_spec_faHas k c_spec_faHas := LOK.by [] (by kernel_rfl) AllOK.nil
theorem s_spec_faHas (k : Nat) : SoundAt Try.prog k 74 d_spec_faHas.E := @fn_all Try.prog d_spec_faHas x_spec_faHas 74 Try.f74 c_spec_faHas (by kernel_rfl) (by kernel_rfl) (by kernel_rfl) Try.func74 (by kernel_rfl) (by kernel_rfl) (by kernel_rfl) T_ok g_spec_faHas l_spec_faHas z_spec_faHas h_spec_faHas k
/-! function 81 -/
noncomputable def r_spec_dgGood : List PK := [{ t := Ty.bool }]
noncomputable def q_spec_dgGood : List PK := [{ t := Ty.pair (Ty.int IntKind.i64) (Ty.pair (Ty.int IntKind.i64) (Ty.slice (123 : Nat) (Ty.pair (Ty.int IntKind.i64) (Ty.int IntKind.i64)))), agg := true }, { t := Ty.slice (3 : Nat) (Ty.int IntKind.i64) }, { t := Ty.slice (45 : Nat) (Ty.pair (Ty.int IntKind.i64) (Ty.pair (Ty.int IntKind.i64) (Ty.int IntKind.i64))) }]
noncomputable def to_spec_dgGood (r : Bool) : Tup r_spec_dgGood × OutD := ((r, ()), none)
noncomputable def of_spec_dgGood : Tup r_spec_dgGood × OutD → Option (Bool)
  | (a, none) => some (a.1)
  | _ => none
theorem to_of_spec_dgGood : ∀ b r, of_spec_dgGood b = some r → to_spec_dgGood r = b := by
  rintro ⟨a, o⟩ r h
  cases o with
  | none => injection h with h; subst h; rfl
  | some _ => cases h
noncomputable def f_spec_dgGood_0 : Nat → Int → Int → List (Int × Int) → List (Int × Int × Int) → Int → Int → Option (LR Unit Bool)
  | 0, _, _, _, _, _, _ => none
  | k + 1, b1_0, b1_1, b1_2, v32, v33, v34 =>
    if decide (v34 < v33) = true then if (0 : Int) ≤ v34 then if v34 < (↑(List.length v32) : Int) then Option.bind (f_spec_l1In k (Prod.fst (List.getD v32 (Int.toNat v34) ((0 : Int), (0 : Int), (0 : Int)))) (1 : Int) (3 : Int)) fun z2 => if (!z2) = true then some (LR.ret false) else Option.bind (f_spec_l1In k (Prod.fst (Prod.snd (List.getD v32 (Int.toNat v34) ((0 : Int), (0 : Int), (0 : Int))))) (0 : Int) b1_0) fun z3 => if (!z3) = true then some (LR.ret false) else Option.bind (f_spec_l1In k (Prod.snd (Prod.snd (List.getD v32 (Int.toNat v34) ((0 : Int), (0 : Int), (0 : Int))))) (-1 : Int) b1_1) fun z4 => if (!z4) = true then some (LR.ret false) else f_spec_dgGood_0 k b1_0 b1_1 b1_2 v32 v33 (wrap64 (v34 + (1 : Int))) else none else none else some (LR.go ())
noncomputable def f_spec_dgGood_0i : Spec := { objs := [OSh.ro, OSh.box (32 : Nat) [Sh.int IntKind.i64, Sh.int IntKind.i64, Sh.snap (0 : Nat) (Ty.pair (Ty.int IntKind.i64) (Ty.int IntKind.i64))]], tmps := [((3 : Nat), TSh.at (Sh.ptr (1 : Nat) (0 : Nat))), ((32 : Nat), TSh.at (Sh.snap (0 : Nat) (Ty.pair (Ty.int IntKind.i64) (Ty.pair (Ty.int IntKind.i64) (Ty.int IntKind.i64))))), ((33 : Nat), TSh.at (Sh.int IntKind.i64)), ((34 : Nat), TSh.at (Sh.int IntKind.i64))] }
noncomputable def f_spec_dgGood_0o : Spec := { objs := [OSh.ro], tmps := [] }
noncomputable def f_spec_dgGood_0D : LoopDef (Tup r_spec_dgGood × OutD) := .rets f_spec_dgGood_0i f_spec_dgGood_0o (Unit) (Bool) (fun k x => f_spec_dgGood_0 k x.1.2.1.1 x.1.2.1.2.1 x.1.2.1.2.2.1 x.2.2.1 x.2.2.2.1 x.2.2.2.2.1) (fun z => (((), ()), (()))) (fun y => ()) (fun _ => rfl) to_spec_dgGood of_spec_dgGood to_of_spec_dgGood
noncomputable def f_spec_dgGood : Nat → Int × Int × List (Int × Int) → List Int → List (Int × Int × Int) → Option Bool
  | 0, _, _, _ => none
  | k + 1, p0, p1, p2 =>
    Option.bind (f_spec_dgBoard k (Prod.fst p0, Prod.fst (Prod.snd p0), Prod.snd (Prod.snd p0))) fun z0 => if (!z0) = true then some false else if decide ((↑(List.length p1) : Int) > (20 : Int)) = true then some false else Option.bind (f_spec_l1All k p1 (0 : Int) (wrap64 (Prod.fst (Prod.snd p0) - (1 : Int)))) fun z1 => if (!z1) = true then some false else if decide ((↑(List.length p2) : Int) ≠ (↑(List.length p1) : Int)) = true then some false else Option.bind (f_spec_dgGood_0 k (Prod.fst p0) (Prod.fst (Prod.snd p0)) (Prod.snd (Prod.snd p0)) p2 (↑(List.length p2) : Int) (0 : Int)) fun z5 => LR.on z5 (fun y5 => some true) fun r5 => some r5
noncomputable def d_spec_dgGood : FnDef := .of q_spec_dgGood r_spec_dgGood (Bool) (fun k x => f_spec_dgGood k x.1 x.2.1 x.2.2.1) to_spec_dgGood of_spec_dgGood to_of_spec_dgGood
noncomputable def c_spec_dgGood : Code := Try.f81.body.getD .skip
noncomputable def x_spec_dgGood : Ctx (Tup r_spec_dgGood × OutD) := { T := T, G := [(127, d_spec_dgBoard.E), (128, d_spec_l1All.E), (110, d_spec_l1In.E)], mvs := [], no := 0, n := 59, res := resOf T q_spec_dgGood r_spec_dgGood Try.f81.results.toList, loops := [(0, f_spec_dgGood_0D.E)], regs := [], conds := [] }
theorem g_spec_dgGood (k : Nat) : EnvOK Try.prog k x_spec_dgGood.G := (EnvOK.cons (s_spec_dgBoard k) (EnvOK.cons (s_spec_l1All k) (EnvOK.cons (s_spec_l1In k) (EnvOK.nil mixed))))
noncomputable def f_spec_dgGood_0B : Code := (findLoop 0 c_spec_dgGood).getD .skip
theorem f_spec_dgGood_0h (k : Nat) (x : f_spec_dgGood_0i.D) : f_spec_dgGood_0D.lp (k + 1) x = loopK x_spec_dgGood f_spec_dgGood_0D 0 f_spec_dgGood_0B k x := by kernel_rfl
theorem f_spec_dgGood_0l (k : Nat) : LOK Try.prog x_spec_dgGood k f_spec_dgGood_0B := LOK.by [] (by kernel_rfl) AllOK.nil
theorem f_spec_dgGood_0z (x : f_spec_dgGood_0i.D) : f_spec_dgGood_0D.lp 0 x = none := by kernel_rfl
theorem f_spec_dgGood_0ok (k : Nat) : EOK Try.prog x_spec_dgGood k f_spec_dgGood_0D.E (.block 0 (.loop f_spec_dgGood_0B)) := loop_ok T_ok g_spec_dgGood f_spec_dgGood_0z f_spec_dgGood_0h f_spec_dgGood_0l k
theorem h_spec_dgGood (k : Nat) (x : Tup d_spec_dgGood.ps) : d_spec_dgGood.f (k + 1) x = fnK d_spec_dgGood x_spec_dgGood c_spec_dgGood k x := by kernel_rfl
theorem z_spec_dgGood (x : Tup d_spec_dgGood.ps) : d_spec_dgGood.f 0 x = none := by kernel_rfl
theorem l_spec_dgGood (k : Nat) : LOK Try.prog x_spec_dgGood k c_spec_dgGood := LOK.by [(f_spec_dgGood_0D.E, .block 0 (.loop f_spec_dgGood_0B))] (by kernel_rfl) (AllOK.cons (f_spec_dgGood_0ok k) AllOK.nil)
theorem s_spec_dgGood (k : Nat) : SoundAt Try.prog k 81 d_spec_dgGood.E := @fn_all Try.prog d_spec_dgGood x_spec_dgGood 81 Try.f81 c_spec_dgGood (by kernel_rfl) (by kernel_rfl) (by kernel_rfl) Try.func81 (by kernel_rfl) (by kernel_rfl) (by kernel_rfl) T_ok g_spec_dgGood l_spec_dgGood z_spec_dgGood h_spec_dgGood k
/-! function 84 -/
noncomputable def r_impl_isSeen : List PK := [{ t := Ty.bool }]
noncomputable def q_impl_isSeen : List PK := [{ t := Ty.pair (Ty.int IntKind.i64) (Ty.pair (Ty.int IntKind.i64) (Ty.slice (123 : Nat) (Ty.pair (Ty.int IntKind.i64) (Ty.int IntKind.i64)))), agg := true }, { t := Ty.slice (3 : Nat) (Ty.int IntKind.i64) }, { t := Ty.slice (45 : Nat) (Ty.pair (Ty.int IntKind.i64) (Ty.pair (Ty.int IntKind.i64) (Ty.int IntKind.i64))) }]
noncomputable def to_impl_isSeen (r : Bool) : Tup r_impl_isSeen × OutD := ((r, ()), none)
noncomputable def of_impl_isSeen : Tup r_impl_isSeen × OutD → Option (Bool)
  | (a, none) => some (a.1)
  | _ => none
theorem to_of_impl_isSeen : ∀ b r, of_impl_isSeen b = some r → to_impl_isSeen r = b := by
  rintro ⟨a, o⟩ r h
  cases o with
  | none => injection h with h; subst h; rfl
  | some _ => cases h
noncomputable def f_impl_isSeen_0 : Nat → Int → Int → List (Int × Int) → List (Int × Int × Int) → Int → Int → Option (LR Unit Bool)
  | 0, _, _, _, _, _, _ => none
  | k + 1, b1_0, b1_1, b1_2, v31, v32, v33 =>
    if decide (v33 < v32) = true then if (0 : Int) ≤ v33 then if v33 < (↑(List.length v31) : Int) then if decide (Prod.fst (List.getD v31 (Int.toNat v33) ((0 : Int), (0 : Int), (0 : Int))) < (1 : Int)) = true then some (LR.ret false) else if decide (Prod.fst (List.getD v31 (Int.toNat v33) ((0 : Int), (0 : Int), (0 : Int))) > (3 : Int)) = true then some (LR.ret false) else if decide (Prod.fst (Prod.snd (List.getD v31 (Int.toNat v33) ((0 : Int), (0 : Int), (0 : Int)))) < (0 : Int)) = true then some (LR.ret false) else if decide (Prod.fst (Prod.snd (List.getD v31 (Int.toNat v33) ((0 : Int), (0 : Int), (0 : Int)))) > b1_0) = true then some (LR.ret false) else if decide (Prod.snd (Prod.snd (List.getD v31 (Int.toNat v33) ((0 : Int), (0 : Int), (0 : Int)))) < (-1 : Int)) = true then some (LR.ret false) else if decide (Prod.snd (Prod.snd (List.getD v31 (Int.toNat v33) ((0 : Int), (0 : Int), (0 : Int)))) > b1_1) = true then some (LR.ret false) else f_impl_isSeen_0 k b1_0 b1_1 b1_2 v31 v32 (wrap64 (v33 + (1 : Int))) else none else none else some (LR.go ())
noncomputable def f_impl_isSeen_0i : Spec := { objs := [OSh.ro, OSh.box (32 : Nat) [Sh.int IntKind.i64, Sh.int IntKind.i64, Sh.snap (0 : Nat) (Ty.pair (Ty.int IntKind.i64) (Ty.int IntKind.i64))]], tmps := [((3 : Nat), TSh.at (Sh.ptr (1 : Nat) (0 : Nat))), ((31 : Nat), TSh.at (Sh.snap (0 : Nat) (Ty.pair (Ty.int IntKind.i64) (Ty.pair (Ty.int IntKind.i64) (Ty.int IntKind.i64))))), ((32 : Nat), TSh.at (Sh.int IntKind.i64)), ((33 : Nat), TSh.at (Sh.int IntKind.i64))] }
noncomputable def f_impl_isSeen_0o : Spec := { objs := [OSh.ro], tmps := [] }
noncomputable def f_impl_isSeen_0D : LoopDef (Tup r_impl_isSeen × OutD) := .rets f_impl_isSeen_0i f_impl_isSeen_0o (Unit) (Bool) (fun k x => f_impl_isSeen_0 k x.1.2.1.1 x.1.2.1.2.1 x.1.2.1.2.2.1 x.2.2.1 x.2.2.2.1 x.2.2.2.2.1) (fun z => (((), ()), (()))) (fun y => ()) (fun _ => rfl) to_impl_isSeen of_impl_isSeen to_of_impl_isSeen
noncomputable def f_impl_isSeen : Nat → Int × Int × List (Int × Int) → List Int → List (Int × Int × Int) → Option Bool
  | 0, _, _, _ => none
  | k + 1, p0, p1, p2 =>
    Option.bind (f_impl_validEntries k (Prod.fst p0, Prod.fst (Prod.snd p0), Prod.snd (Prod.snd p0)) p1) fun z0 => if (!z0) = true then some false else if decide ((↑(List.length (Prod.snd (Prod.snd p0))) : Int) > (24 : Int)) = true then some false else if decide ((↑(List.length p1) : Int) > (20 : Int)) = true then some false else if decide ((↑(List.length p2) : Int) ≠ (↑(List.length p1) : Int)) = true then some false else Option.bind (f_impl_isSeen_0 k (Prod.fst p0) (Prod.fst (Prod.snd p0)) (Prod.snd (Prod.snd p0)) p2 (↑(List.length p2) : Int) (0 : Int)) fun z1 => LR.on z1 (fun y1 => some true) fun r1 => some r1
noncomputable def d_impl_isSeen : FnDef := .of q_impl_isSeen r_impl_isSeen (Bool) (fun k x => f_impl_isSeen k x.1 x.2.1 x.2.2.1) to_impl_isSeen of_impl_isSeen to_of_impl_isSeen
noncomputable def c_impl_isSeen : Code := Try.f84.body.getD .skip
noncomputable def x_impl_isSeen : Ctx (Tup r_impl_isSeen × OutD) := { T := T, G := [(97, d_impl_validEntries.E)], mvs := [], no := 0, n := 70, res := resOf T q_impl_isSeen r_impl_isSeen Try.f84.results.toList, loops := [(0, f_impl_isSeen_0D.E)], regs := [], conds := [] }
theorem g_impl_isSeen (k : Nat) : EnvOK Try.prog k x_impl_isSeen.G := (EnvOK.cons (s_impl_validEntries k) (EnvOK.nil mixed))
noncomputable def f_impl_isSeen_0B : Code := (findLoop 0 c_impl_isSeen).getD .skip
theorem f_impl_isSeen_0h (k : Nat) (x : f_impl_isSeen_0i.D) : f_impl_isSeen_0D.lp (k + 1) x = loopK x_impl_isSeen f_impl_isSeen_0D 0 f_impl_isSeen_0B k x := by kernel_rfl
theorem f_impl_isSeen_0l (k : Nat) : LOK Try.prog x_impl_isSeen k f_impl_isSeen_0B := LOK.by [] (by kernel_rfl) AllOK.nil
theorem f_impl_isSeen_0z (x : f_impl_isSeen_0i.D) : f_impl_isSeen_0D.lp 0 x = none := by kernel_rfl
theorem f_impl_isSeen_0ok (k : Nat) : EOK Try.prog x_impl_isSeen k f_impl_isSeen_0D.E (.block 0 (.loop f_impl_isSeen_0B)) := loop_ok T_ok g_impl_isSeen f_impl_isSeen_0z f_impl_isSeen_0h f_impl_isSeen_0l k
theorem h_impl_isSeen (k : Nat) (x : Tup d_impl_isSeen.ps) : d_impl_isSeen.f (k + 1) x = fnK d_impl_isSeen x_impl_isSeen c_impl_isSeen k x := by kernel_rfl
theorem z_impl_isSeen (x : Tup d_impl_isSeen.ps) : d_impl_isSeen.f 0 x = none := by kernel_rfl
theorem l_impl_isSeen (k : Nat) : LOK Try.prog x_impl_isSeen k c_impl_isSeen := LOK.by [(f_impl_isSeen_0D.E, .block 0 (.loop f_impl_isSeen_0B))] (by kernel_rfl) (AllOK.cons (f_impl_isSeen_0ok k) AllOK.nil)
theorem s_impl_isSeen (k : Nat) : SoundAt Try.prog k 84 d_impl_isSeen.E := @fn_all Try.prog d_impl_isSeen x_impl_isSeen 84 Try.f84 c_impl_isSeen (by kernel_rfl) (by kernel_rfl) (by kernel_rfl) Try.func84 (by kernel_rfl) (by kernel_rfl) (by kernel_rfl) T_ok g_impl_isSeen l_impl_isSeen z_impl_isSeen h_impl_isSeen k
/-! function 90 -/
noncomputable def r_spec_dgExplains : List PK := [{ t := Ty.bool }]
noncomputable def q_spec_dgExplains : List PK := [{ t := Ty.pair (Ty.int IntKind.i64) (Ty.pair (Ty.int IntKind.i64) (Ty.slice (123 : Nat) (Ty.pair (Ty.int IntKind.i64) (Ty.int IntKind.i64)))), agg := true }, { t := Ty.slice (87 : Nat) (Ty.pair (Ty.int IntKind.i64) (Ty.pair (Ty.int IntKind.i64) (Ty.int IntKind.i64))) }, { t := Ty.slice (3 : Nat) (Ty.int IntKind.i64) }, { t := Ty.slice (45 : Nat) (Ty.pair (Ty.int IntKind.i64) (Ty.pair (Ty.int IntKind.i64) (Ty.int IntKind.i64))) }]
noncomputable def to_spec_dgExplains (r : Bool) : Tup r_spec_dgExplains × OutD := ((r, ()), none)
noncomputable def of_spec_dgExplains : Tup r_spec_dgExplains × OutD → Option (Bool)
  | (a, none) => some (a.1)
  | _ => none
theorem to_of_spec_dgExplains : ∀ b r, of_spec_dgExplains b = some r → to_spec_dgExplains r = b := by
  rintro ⟨a, o⟩ r h
  cases o with
  | none => injection h with h; subst h; rfl
  | some _ => cases h
noncomputable def f_spec_dgExplains : Nat → Int × Int × List (Int × Int) → List (Int × Int × Int) → List Int → List (Int × Int × Int) → Option Bool
  | 0, _, _, _, _ => none
  | k + 1, p0, p1, p2, p3 =>
    Option.bind (f_spec_faAll k (Prod.fst p0, Prod.fst (Prod.snd p0), Prod.snd (Prod.snd p0)) p1 p2) fun z0 => Option.bind (f_spec_faSame k (Prod.fst z0) p3) fun z1 => some (decide (z1 < (0 : Int)))
noncomputable def d_spec_dgExplains : FnDef := .of q_spec_dgExplains r_spec_dgExplains (Bool) (fun k x => f_spec_dgExplains k x.1 x.2.1 x.2.2.1 x.2.2.2.1) to_spec_dgExplains of_spec_dgExplains to_of_spec_dgExplains
noncomputable def c_spec_dgExplains : Code := Try.f90.body.getD .skip
noncomputable def x_spec_dgExplains : Ctx (Tup r_spec_dgExplains × OutD) := { T := T, G := [(106, d_spec_faAll.E), (102, d_spec_faSame.E)], mvs := [], no := 0, n := 22, res := resOf T q_spec_dgExplains r_spec_dgExplains Try.f90.results.toList, loops := [], regs := [], conds := [] }
theorem g_spec_dgExplains (k : Nat) : EnvOK Try.prog k x_spec_dgExplains.G := (EnvOK.cons (s_spec_faAll k) (EnvOK.cons (s_spec_faSame k) (EnvOK.nil mixed)))
theorem h_spec_dgExplains (k : Nat) (x : Tup d_spec_dgExplains.ps) : d_spec_dgExplains.f (k + 1) x = fnK d_spec_dgExplains x_spec_dgExplains c_spec_dgExplains k x := by kernel_rfl
theorem z_spec_dgExplains (x : Tup d_spec_dgExplains.ps) : d_spec_dgExplains.f 0 x = none := by kernel_rfl
theorem l_spec_dgExplains (k : Nat) : LOK Try.prog x_spec_dgExplains k c_spec_dgExplains := LOK.by [] (by kernel_rfl) AllOK.nil
theorem s_spec_dgExplains (k : Nat) : SoundAt Try.prog k 90 d_spec_dgExplains.E := @fn_all Try.prog d_spec_dgExplains x_spec_dgExplains 90 Try.f90 c_spec_dgExplains (by kernel_rfl) (by kernel_rfl) (by kernel_rfl) Try.func90 (by kernel_rfl) (by kernel_rfl) (by kernel_rfl) T_ok g_spec_dgExplains l_spec_dgExplains z_spec_dgExplains h_spec_dgExplains k
/-! function 91 -/
noncomputable def r_impl_explainsEnds : List PK := [{ t := Ty.bool }]
noncomputable def q_impl_explainsEnds : List PK := [{ t := Ty.pair (Ty.int IntKind.i64) (Ty.pair (Ty.int IntKind.i64) (Ty.slice (123 : Nat) (Ty.pair (Ty.int IntKind.i64) (Ty.int IntKind.i64)))), agg := true }, { t := Ty.slice (87 : Nat) (Ty.pair (Ty.int IntKind.i64) (Ty.pair (Ty.int IntKind.i64) (Ty.int IntKind.i64))) }, { t := Ty.slice (3 : Nat) (Ty.int IntKind.i64) }, { t := Ty.slice (45 : Nat) (Ty.pair (Ty.int IntKind.i64) (Ty.pair (Ty.int IntKind.i64) (Ty.int IntKind.i64))) }]
noncomputable def to_impl_explainsEnds (r : Bool) : Tup r_impl_explainsEnds × OutD := ((r, ()), none)
noncomputable def of_impl_explainsEnds : Tup r_impl_explainsEnds × OutD → Option (Bool)
  | (a, none) => some (a.1)
  | _ => none
theorem to_of_impl_explainsEnds : ∀ b r, of_impl_explainsEnds b = some r → to_impl_explainsEnds r = b := by
  rintro ⟨a, o⟩ r h
  cases o with
  | none => injection h with h; subst h; rfl
  | some _ => cases h
noncomputable def f_impl_explainsEnds : Nat → Int × Int × List (Int × Int) → List (Int × Int × Int) → List Int → List (Int × Int × Int) → Option Bool
  | 0, _, _, _, _ => none
  | k + 1, p0, p1, p2, p3 =>
    Option.bind (f_impl_faultyDrops k (Prod.fst p0, Prod.fst (Prod.snd p0), Prod.snd (Prod.snd p0)) p1 p2) fun z0 => Option.bind (f_slices_Equal_impl_Fall_impl_Fall k (Prod.fst z0) p3) fun z1 => some z1
noncomputable def d_impl_explainsEnds : FnDef := .of q_impl_explainsEnds r_impl_explainsEnds (Bool) (fun k x => f_impl_explainsEnds k x.1 x.2.1 x.2.2.1 x.2.2.2.1) to_impl_explainsEnds of_impl_explainsEnds to_of_impl_explainsEnds
noncomputable def c_impl_explainsEnds : Code := Try.f91.body.getD .skip
noncomputable def x_impl_explainsEnds : Ctx (Tup r_impl_explainsEnds × OutD) := { T := T, G := [(107, d_impl_faultyDrops.E), (105, d_slices_Equal_impl_Fall_impl_Fall.E)], mvs := [], no := 0, n := 21, res := resOf T q_impl_explainsEnds r_impl_explainsEnds Try.f91.results.toList, loops := [], regs := [], conds := [] }
theorem g_impl_explainsEnds (k : Nat) : EnvOK Try.prog k x_impl_explainsEnds.G := (EnvOK.cons (s_impl_faultyDrops k) (EnvOK.cons (s_slices_Equal_impl_Fall_impl_Fall k) (EnvOK.nil mixed)))
theorem h_impl_explainsEnds (k : Nat) (x : Tup d_impl_explainsEnds.ps) : d_impl_explainsEnds.f (k + 1) x = fnK d_impl_explainsEnds x_impl_explainsEnds c_impl_explainsEnds k x := by kernel_rfl
theorem z_impl_explainsEnds (x : Tup d_impl_explainsEnds.ps) : d_impl_explainsEnds.f 0 x = none := by kernel_rfl
theorem l_impl_explainsEnds (k : Nat) : LOK Try.prog x_impl_explainsEnds k c_impl_explainsEnds := LOK.by [] (by kernel_rfl) AllOK.nil
theorem s_impl_explainsEnds (k : Nat) : SoundAt Try.prog k 91 d_impl_explainsEnds.E := @fn_all Try.prog d_impl_explainsEnds x_impl_explainsEnds 91 Try.f91 c_impl_explainsEnds (by kernel_rfl) (by kernel_rfl) (by kernel_rfl) Try.func91 (by kernel_rfl) (by kernel_rfl) (by kernel_rfl) T_ok g_impl_explainsEnds l_impl_explainsEnds z_impl_explainsEnds h_impl_explainsEnds k
/-! function 96 -/
noncomputable def r_spec_faSeen : List PK := [{ t := Ty.int IntKind.i64 }]
noncomputable def q_spec_faSeen : List PK := [{ t := Ty.pair (Ty.int IntKind.i64) (Ty.pair (Ty.int IntKind.i64) (Ty.slice (123 : Nat) (Ty.pair (Ty.int IntKind.i64) (Ty.int IntKind.i64)))), agg := true }, { t := Ty.slice (87 : Nat) (Ty.pair (Ty.int IntKind.i64) (Ty.pair (Ty.int IntKind.i64) (Ty.int IntKind.i64))) }, { t := Ty.slice (3 : Nat) (Ty.int IntKind.i64) }]
noncomputable def to_spec_faSeen (r : Int) : Tup r_spec_faSeen × OutD := ((r, ()), none)
noncomputable def of_spec_faSeen : Tup r_spec_faSeen × OutD → Option (Int)
  | (a, none) => some (a.1)
  | _ => none
theorem to_of_spec_faSeen : ∀ b r, of_spec_faSeen b = some r → to_spec_faSeen r = b := by
  rintro ⟨a, o⟩ r h
  cases o with
  | none => injection h with h; subst h; rfl
  | some _ => cases h
noncomputable def f_spec_faSeen : Nat → Int × Int × List (Int × Int) → List (Int × Int × Int) → List Int → Option Int
  | 0, _, _, _ => none
  | k + 1, p0, p1, p2 =>
    Option.bind (f_spec_flAll k (Prod.fst p0, Prod.fst (Prod.snd p0), Prod.snd (Prod.snd p0)) p2) fun z0 => Option.bind (f_spec_faAll k (Prod.fst p0, Prod.fst (Prod.snd p0), Prod.snd (Prod.snd p0)) p1 p2) fun z1 => Option.bind (f_spec_faSame k (Prod.fst z0) (Prod.fst z1)) fun z2 => some z2
noncomputable def d_spec_faSeen : FnDef := .of q_spec_faSeen r_spec_faSeen (Int) (fun k x => f_spec_faSeen k x.1 x.2.1 x.2.2.1) to_spec_faSeen of_spec_faSeen to_of_spec_faSeen
noncomputable def c_spec_faSeen : Code := Try.f96.body.getD .skip
noncomputable def x_spec_faSeen : Ctx (Tup r_spec_faSeen × OutD) := { T := T, G := [(82, d_spec_flAll.E), (106, d_spec_faAll.E), (102, d_spec_faSame.E)], mvs := [], no := 0, n := 27, res := resOf T q_spec_faSeen r_spec_faSeen Try.f96.results.toList, loops := [], regs := [], conds := [] }
theorem g_spec_faSeen (k : Nat) : EnvOK Try.prog k x_spec_faSeen.G := (EnvOK.cons (s_spec_flAll k) (EnvOK.cons (s_spec_faAll k) (EnvOK.cons (s_spec_faSame k) (EnvOK.nil mixed))))
theorem h_spec_faSeen (k : Nat) (x : Tup d_spec_faSeen.ps) : d_spec_faSeen.f (k + 1) x = fnK d_spec_faSeen x_spec_faSeen c_spec_faSeen k x := by kernel_rfl
theorem z_spec_faSeen (x : Tup d_spec_faSeen.ps) : d_spec_faSeen.f 0 x = none := by kernel_rfl
theorem l_spec_faSeen (k : Nat) : LOK Try.prog x_spec_faSeen k c_spec_faSeen := LOK.by [] (by kernel_rfl) AllOK.nil
theorem s_spec_faSeen (k : Nat) : SoundAt Try.prog k 96 d_spec_faSeen.E := @fn_all Try.prog d_spec_faSeen x_spec_faSeen 96 Try.f96 c_spec_faSeen (by kernel_rfl) (by kernel_rfl) (by kernel_rfl) Try.func96 (by kernel_rfl) (by kernel_rfl) (by kernel_rfl) T_ok g_spec_faSeen l_spec_faSeen z_spec_faSeen h_spec_faSeen k
/-! function 98 -/
noncomputable def r_impl_firstSeen : List PK := [{ t := Ty.int IntKind.i64 }]
noncomputable def q_impl_firstSeen : List PK := [{ t := Ty.pair (Ty.int IntKind.i64) (Ty.pair (Ty.int IntKind.i64) (Ty.slice (123 : Nat) (Ty.pair (Ty.int IntKind.i64) (Ty.int IntKind.i64)))), agg := true }, { t := Ty.slice (87 : Nat) (Ty.pair (Ty.int IntKind.i64) (Ty.pair (Ty.int IntKind.i64) (Ty.int IntKind.i64))) }, { t := Ty.slice (3 : Nat) (Ty.int IntKind.i64) }]
noncomputable def to_impl_firstSeen (r : Int) : Tup r_impl_firstSeen × OutD := ((r, ()), none)
noncomputable def of_impl_firstSeen : Tup r_impl_firstSeen × OutD → Option (Int)
  | (a, none) => some (a.1)
  | _ => none
theorem to_of_impl_firstSeen : ∀ b r, of_impl_firstSeen b = some r → to_impl_firstSeen r = b := by
  rintro ⟨a, o⟩ r h
  cases o with
  | none => injection h with h; subst h; rfl
  | some _ => cases h
noncomputable def f_impl_firstSeen_0 : Nat → List (Int × Int × Int) → List (Int × Int × Int) → Int → Int → Option (LR Unit Int)
  | 0, _, _, _, _ => none
  | k + 1, o1, o2, v26, v27 =>
    if decide (v27 < v26) = true then if (0 : Int) ≤ v27 then if v27 < (↑(List.length o1) : Int) then if (0 : Int) ≤ v27 then if v27 < (↑(List.length o2) : Int) then if (!(decide (Prod.fst (List.getD o1 (Int.toNat v27) ((0 : Int), (0 : Int), (0 : Int))) = Prod.fst (List.getD o2 (Int.toNat v27) ((0 : Int), (0 : Int), (0 : Int)))) && (decide (Prod.fst (Prod.snd (List.getD o1 (Int.toNat v27) ((0 : Int), (0 : Int), (0 : Int)))) = Prod.fst (Prod.snd (List.getD o2 (Int.toNat v27) ((0 : Int), (0 : Int), (0 : Int))))) && (decide (Prod.snd (Prod.snd (List.getD o1 (Int.toNat v27) ((0 : Int), (0 : Int), (0 : Int)))) = Prod.snd (Prod.snd (List.getD o2 (Int.toNat v27) ((0 : Int), (0 : Int), (0 : Int))))) && true)))) = true then some (LR.ret v27) else f_impl_firstSeen_0 k o1 o2 v26 (wrap64 (v27 + (1 : Int))) else none else none else none else none else some (LR.go ())
noncomputable def f_impl_firstSeen_0i : Spec := { objs := [OSh.ro, OSh.row true (45 : Nat) (Ty.pair (Ty.int IntKind.i64) (Ty.pair (Ty.int IntKind.i64) (Ty.int IntKind.i64))), OSh.row true (45 : Nat) (Ty.pair (Ty.int IntKind.i64) (Ty.pair (Ty.int IntKind.i64) (Ty.int IntKind.i64)))], tmps := [((7 : Nat), TSh.at (Sh.sl (1 : Nat))), ((9 : Nat), TSh.at (Sh.sl (2 : Nat))), ((26 : Nat), TSh.at (Sh.int IntKind.i64)), ((27 : Nat), TSh.at (Sh.int IntKind.i64))] }
noncomputable def f_impl_firstSeen_0o : Spec := { objs := [OSh.ro], tmps := [] }
noncomputable def f_impl_firstSeen_0D : LoopDef (Tup r_impl_firstSeen × OutD) := .rets f_impl_firstSeen_0i f_impl_firstSeen_0o (Unit) (Int) (fun k x => f_impl_firstSeen_0 k x.1.2.1 x.1.2.2.1 x.2.2.2.1 x.2.2.2.2.1) (fun z => (((), ()), (()))) (fun y => ()) (fun _ => rfl) to_impl_firstSeen of_impl_firstSeen to_of_impl_firstSeen
noncomputable def f_impl_firstSeen : Nat → Int × Int × List (Int × Int) → List (Int × Int × Int) → List Int → Option Int
  | 0, _, _, _ => none
  | k + 1, p0, p1, p2 =>
    Option.bind (f_impl_dropAll k (Prod.fst p0, Prod.fst (Prod.snd p0), Prod.snd (Prod.snd p0)) p2) fun z0 => Option.bind (f_impl_faultyDrops k (Prod.fst p0, Prod.fst (Prod.snd p0), Prod.snd (Prod.snd p0)) p1 p2) fun z1 => Option.bind (f_impl_firstSeen_0 k (Prod.fst z0) (Prod.fst z1) (↑(List.length (Prod.fst z0)) : Int) (0 : Int)) fun z2 => LR.on z2 (fun y2 => some (-1 : Int)) fun r2 => some r2
noncomputable def d_impl_firstSeen : FnDef := .of q_impl_firstSeen r_impl_firstSeen (Int) (fun k x => f_impl_firstSeen k x.1 x.2.1 x.2.2.1) to_impl_firstSeen of_impl_firstSeen to_of_impl_firstSeen
noncomputable def c_impl_firstSeen : Code := Try.f98.body.getD .skip
noncomputable def x_impl_firstSeen : Ctx (Tup r_impl_firstSeen × OutD) := { T := T, G := [(85, d_impl_dropAll.E), (107, d_impl_faultyDrops.E)], mvs := [], no := 0, n := 41, res := resOf T q_impl_firstSeen r_impl_firstSeen Try.f98.results.toList, loops := [(0, f_impl_firstSeen_0D.E)], regs := [], conds := [] }
theorem g_impl_firstSeen (k : Nat) : EnvOK Try.prog k x_impl_firstSeen.G := (EnvOK.cons (s_impl_dropAll k) (EnvOK.cons (s_impl_faultyDrops k) (EnvOK.nil mixed)))
noncomputable def f_impl_firstSeen_0B : Code := (findLoop 0 c_impl_firstSeen).getD .skip
theorem f_impl_firstSeen_0h (k : Nat) (x : f_impl_firstSeen_0i.D) : f_impl_firstSeen_0D.lp (k + 1) x = loopK x_impl_firstSeen f_impl_firstSeen_0D 0 f_impl_firstSeen_0B k x := by kernel_rfl
theorem f_impl_firstSeen_0l (k : Nat) : LOK Try.prog x_impl_firstSeen k f_impl_firstSeen_0B := LOK.by [] (by kernel_rfl) AllOK.nil
theorem f_impl_firstSeen_0z (x : f_impl_firstSeen_0i.D) : f_impl_firstSeen_0D.lp 0 x = none := by kernel_rfl
theorem f_impl_firstSeen_0ok (k : Nat) : EOK Try.prog x_impl_firstSeen k f_impl_firstSeen_0D.E (.block 0 (.loop f_impl_firstSeen_0B)) := loop_ok T_ok g_impl_firstSeen f_impl_firstSeen_0z f_impl_firstSeen_0h f_impl_firstSeen_0l k
theorem h_impl_firstSeen (k : Nat) (x : Tup d_impl_firstSeen.ps) : d_impl_firstSeen.f (k + 1) x = fnK d_impl_firstSeen x_impl_firstSeen c_impl_firstSeen k x := by kernel_rfl
theorem z_impl_firstSeen (x : Tup d_impl_firstSeen.ps) : d_impl_firstSeen.f 0 x = none := by kernel_rfl
theorem l_impl_firstSeen (k : Nat) : LOK Try.prog x_impl_firstSeen k c_impl_firstSeen := LOK.by [(f_impl_firstSeen_0D.E, .block 0 (.loop f_impl_firstSeen_0B))] (by kernel_rfl) (AllOK.cons (f_impl_firstSeen_0ok k) AllOK.nil)
theorem s_impl_firstSeen (k : Nat) : SoundAt Try.prog k 98 d_impl_firstSeen.E := @fn_all Try.prog d_impl_firstSeen x_impl_firstSeen 98 Try.f98 c_impl_firstSeen (by kernel_rfl) (by kernel_rfl) (by kernel_rfl) Try.func98 (by kernel_rfl) (by kernel_rfl) (by kernel_rfl) T_ok g_impl_firstSeen l_impl_firstSeen z_impl_firstSeen h_impl_firstSeen k
/-! function 100 -/
noncomputable def r_spec_tsAsked : List PK := [{ t := Ty.bool }]
noncomputable def q_spec_tsAsked : List PK := [{ t := Ty.pair (Ty.int IntKind.i64) (Ty.pair (Ty.int IntKind.i64) (Ty.slice (123 : Nat) (Ty.pair (Ty.int IntKind.i64) (Ty.int IntKind.i64)))), agg := true }, { t := Ty.slice (50 : Nat) (Ty.slice (3 : Nat) (Ty.int IntKind.i64)) }]
noncomputable def to_spec_tsAsked (r : Bool) : Tup r_spec_tsAsked × OutD := ((r, ()), none)
noncomputable def of_spec_tsAsked : Tup r_spec_tsAsked × OutD → Option (Bool)
  | (a, none) => some (a.1)
  | _ => none
theorem to_of_spec_tsAsked : ∀ b r, of_spec_tsAsked b = some r → to_spec_tsAsked r = b := by
  rintro ⟨a, o⟩ r h
  cases o with
  | none => injection h with h; subst h; rfl
  | some _ => cases h
noncomputable def f_spec_tsAsked : Nat → Int × Int × List (Int × Int) → List (List Int) → Option Bool
  | 0, _, _ => none
  | k + 1, p0, p1 =>
    Option.bind (f_spec_tsGood k (Prod.fst p0, Prod.fst (Prod.snd p0), Prod.snd (Prod.snd p0))) fun z0 => if z0 = true then Option.bind (f_spec_tsTests k (Prod.fst p0, Prod.fst (Prod.snd p0), Prod.snd (Prod.snd p0)) p1) fun z1 => some z1 else some false
noncomputable def d_spec_tsAsked : FnDef := .of q_spec_tsAsked r_spec_tsAsked (Bool) (fun k x => f_spec_tsAsked k x.1 x.2.1) to_spec_tsAsked of_spec_tsAsked to_of_spec_tsAsked
noncomputable def c_spec_tsAsked : Code := Try.f100.body.getD .skip
noncomputable def x_spec_tsAsked : Ctx (Tup r_spec_tsAsked × OutD) := { T := T, G := [(132, d_spec_tsGood.E), (133, d_spec_tsTests.E)], mvs := [], no := 0, n := 12, res := resOf T q_spec_tsAsked r_spec_tsAsked Try.f100.results.toList, loops := [], regs := [], conds := [] }
theorem g_spec_tsAsked (k : Nat) : EnvOK Try.prog k x_spec_tsAsked.G := (EnvOK.cons (s_spec_tsGood k) (EnvOK.cons (s_spec_tsTests k) (EnvOK.nil mixed)))
theorem h_spec_tsAsked (k : Nat) (x : Tup d_spec_tsAsked.ps) : d_spec_tsAsked.f (k + 1) x = fnK d_spec_tsAsked x_spec_tsAsked c_spec_tsAsked k x := by kernel_rfl
theorem z_spec_tsAsked (x : Tup d_spec_tsAsked.ps) : d_spec_tsAsked.f 0 x = none := by kernel_rfl
theorem l_spec_tsAsked (k : Nat) : LOK Try.prog x_spec_tsAsked k c_spec_tsAsked := LOK.by [] (by kernel_rfl) AllOK.nil
theorem s_spec_tsAsked (k : Nat) : SoundAt Try.prog k 100 d_spec_tsAsked.E := @fn_all Try.prog d_spec_tsAsked x_spec_tsAsked 100 Try.f100 c_spec_tsAsked (by kernel_rfl) (by kernel_rfl) (by kernel_rfl) Try.func100 (by kernel_rfl) (by kernel_rfl) (by kernel_rfl) T_ok g_spec_tsAsked l_spec_tsAsked z_spec_tsAsked h_spec_tsAsked k
/-! function 101 -/
noncomputable def r_spec_tsEnds : List PK := [{ t := Ty.slice (56 : Nat) (Ty.slice (45 : Nat) (Ty.pair (Ty.int IntKind.i64) (Ty.pair (Ty.int IntKind.i64) (Ty.int IntKind.i64)))) }]
noncomputable def q_spec_tsEnds : List PK := [{ t := Ty.pair (Ty.int IntKind.i64) (Ty.pair (Ty.int IntKind.i64) (Ty.slice (123 : Nat) (Ty.pair (Ty.int IntKind.i64) (Ty.int IntKind.i64)))), agg := true }, { t := Ty.slice (87 : Nat) (Ty.pair (Ty.int IntKind.i64) (Ty.pair (Ty.int IntKind.i64) (Ty.int IntKind.i64))) }, { t := Ty.slice (50 : Nat) (Ty.slice (3 : Nat) (Ty.int IntKind.i64)) }]
noncomputable def to_spec_tsEnds (r : List (List (Int × Int × Int))) : Tup r_spec_tsEnds × OutD := ((r, ()), none)
noncomputable def of_spec_tsEnds : Tup r_spec_tsEnds × OutD → Option (List (List (Int × Int × Int)))
  | (a, none) => some (a.1)
  | _ => none
theorem to_of_spec_tsEnds : ∀ b r, of_spec_tsEnds b = some r → to_spec_tsEnds r = b := by
  rintro ⟨a, o⟩ r h
  cases o with
  | none => injection h with h; subst h; rfl
  | some _ => cases h
noncomputable def f_spec_tsEnds_0 : Nat → Int → Int → List (Int × Int) → List (List (Int × Int × Int)) → List (Int × Int × Int) → List (List Int) → Int → Int → Option (List (List (Int × Int × Int)))
  | 0, _, _, _, _, _, _, _, _ => none
  | k + 1, b1_0, b1_1, b1_2, o2, v1, v12, v13, v14 =>
    if decide (v14 < v13) = true then if (0 : Int) ≤ v14 then if v14 < (↑(List.length v12) : Int) then Option.bind (f_spec_faAll k (b1_0, b1_1, b1_2) v1 (List.getD v12 (Int.toNat v14) [])) fun z0 => if List.length o2 + List.length [Prod.fst z0] ≤ (140737488355328 / 24 : Nat) then f_spec_tsEnds_0 k b1_0 b1_1 b1_2 (o2 ++ [Prod.fst z0]) v1 v12 v13 (wrap64 (v14 + (1 : Int))) else none else none else none else some o2
noncomputable def f_spec_tsEnds_0i : Spec := { objs := [OSh.ro, OSh.box (32 : Nat) [Sh.int IntKind.i64, Sh.int IntKind.i64, Sh.snap (0 : Nat) (Ty.pair (Ty.int IntKind.i64) (Ty.int IntKind.i64))], OSh.row true (56 : Nat) (Ty.slice (45 : Nat) (Ty.pair (Ty.int IntKind.i64) (Ty.pair (Ty.int IntKind.i64) (Ty.int IntKind.i64))))], tmps := [((1 : Nat), TSh.at (Sh.snap (0 : Nat) (Ty.pair (Ty.int IntKind.i64) (Ty.pair (Ty.int IntKind.i64) (Ty.int IntKind.i64))))), ((3 : Nat), TSh.at (Sh.ptr (1 : Nat) (0 : Nat))), ((7 : Nat), TSh.at (Sh.sl (2 : Nat))), ((12 : Nat), TSh.at (Sh.snap (0 : Nat) (Ty.slice (3 : Nat) (Ty.int IntKind.i64)))), ((13 : Nat), TSh.at (Sh.int IntKind.i64)), ((14 : Nat), TSh.at (Sh.int IntKind.i64))] }
noncomputable def f_spec_tsEnds_0o : Spec := { objs := [OSh.ro, OSh.row true (56 : Nat) (Ty.slice (45 : Nat) (Ty.pair (Ty.int IntKind.i64) (Ty.pair (Ty.int IntKind.i64) (Ty.int IntKind.i64))))], tmps := [((7 : Nat), TSh.at (Sh.sl (1 : Nat)))] }
noncomputable def f_spec_tsEnds_0D : LoopDef (Tup r_spec_tsEnds × OutD) := .plain f_spec_tsEnds_0i f_spec_tsEnds_0o (List (List (Int × Int × Int))) (fun k x => f_spec_tsEnds_0 k x.1.2.1.1 x.1.2.1.2.1 x.1.2.1.2.2.1 x.1.2.2.1 x.2.1 x.2.2.2.2.1 x.2.2.2.2.2.1 x.2.2.2.2.2.2.1) (fun z => (((), z, ()), ((), ()))) (fun y => (y.1.2.1)) (fun _ => rfl)
noncomputable def f_spec_tsEnds : Nat → Int × Int × List (Int × Int) → List (Int × Int × Int) → List (List Int) → Option (List (List (Int × Int × Int)))
  | 0, _, _, _ => none
  | k + 1, p0, p1, p2 =>
    Option.bind (f_spec_tsEnds_0 k (Prod.fst p0) (Prod.fst (Prod.snd p0)) (Prod.snd (Prod.snd p0)) [] p1 p2 (↑(List.length p2) : Int) (0 : Int)) fun z1 => some z1
noncomputable def d_spec_tsEnds : FnDef := .of q_spec_tsEnds r_spec_tsEnds (List (List (Int × Int × Int))) (fun k x => f_spec_tsEnds k x.1 x.2.1 x.2.2.1) to_spec_tsEnds of_spec_tsEnds to_of_spec_tsEnds
noncomputable def c_spec_tsEnds : Code := Try.f101.body.getD .skip
noncomputable def x_spec_tsEnds : Ctx (Tup r_spec_tsEnds × OutD) := { T := T, G := [(106, d_spec_faAll.E)], mvs := [], no := 0, n := 31, res := resOf T q_spec_tsEnds r_spec_tsEnds Try.f101.results.toList, loops := [(0, f_spec_tsEnds_0D.E)], regs := [], conds := [] }
theorem g_spec_tsEnds (k : Nat) : EnvOK Try.prog k x_spec_tsEnds.G := (EnvOK.cons (s_spec_faAll k) (EnvOK.nil mixed))
noncomputable def f_spec_tsEnds_0B : Code := (findLoop 0 c_spec_tsEnds).getD .skip
theorem f_spec_tsEnds_0h (k : Nat) (x : f_spec_tsEnds_0i.D) : f_spec_tsEnds_0D.lp (k + 1) x = loopK x_spec_tsEnds f_spec_tsEnds_0D 0 f_spec_tsEnds_0B k x := by kernel_rfl
theorem f_spec_tsEnds_0l (k : Nat) : LOK Try.prog x_spec_tsEnds k f_spec_tsEnds_0B := LOK.by [] (by kernel_rfl) AllOK.nil
theorem f_spec_tsEnds_0z (x : f_spec_tsEnds_0i.D) : f_spec_tsEnds_0D.lp 0 x = none := by kernel_rfl
theorem f_spec_tsEnds_0ok (k : Nat) : EOK Try.prog x_spec_tsEnds k f_spec_tsEnds_0D.E (.block 0 (.loop f_spec_tsEnds_0B)) := loop_ok T_ok g_spec_tsEnds f_spec_tsEnds_0z f_spec_tsEnds_0h f_spec_tsEnds_0l k
theorem h_spec_tsEnds (k : Nat) (x : Tup d_spec_tsEnds.ps) : d_spec_tsEnds.f (k + 1) x = fnK d_spec_tsEnds x_spec_tsEnds c_spec_tsEnds k x := by kernel_rfl
theorem z_spec_tsEnds (x : Tup d_spec_tsEnds.ps) : d_spec_tsEnds.f 0 x = none := by kernel_rfl
theorem l_spec_tsEnds (k : Nat) : LOK Try.prog x_spec_tsEnds k c_spec_tsEnds := LOK.by [(f_spec_tsEnds_0D.E, .block 0 (.loop f_spec_tsEnds_0B))] (by kernel_rfl) (AllOK.cons (f_spec_tsEnds_0ok k) AllOK.nil)
theorem s_spec_tsEnds (k : Nat) : SoundAt Try.prog k 101 d_spec_tsEnds.E := @fn_all Try.prog d_spec_tsEnds x_spec_tsEnds 101 Try.f101 c_spec_tsEnds (by kernel_rfl) (by kernel_rfl) (by kernel_rfl) Try.func101 (by kernel_rfl) (by kernel_rfl) (by kernel_rfl) T_ok g_spec_tsEnds l_spec_tsEnds z_spec_tsEnds h_spec_tsEnds k
/-! function 103 -/
noncomputable def r_impl_areTests : List PK := [{ t := Ty.bool }]
noncomputable def q_impl_areTests : List PK := [{ t := Ty.pair (Ty.int IntKind.i64) (Ty.pair (Ty.int IntKind.i64) (Ty.slice (123 : Nat) (Ty.pair (Ty.int IntKind.i64) (Ty.int IntKind.i64)))), agg := true }, { t := Ty.slice (50 : Nat) (Ty.slice (3 : Nat) (Ty.int IntKind.i64)) }]
noncomputable def to_impl_areTests (r : Bool) : Tup r_impl_areTests × OutD := ((r, ()), none)
noncomputable def of_impl_areTests : Tup r_impl_areTests × OutD → Option (Bool)
  | (a, none) => some (a.1)
  | _ => none
theorem to_of_impl_areTests : ∀ b r, of_impl_areTests b = some r → to_impl_areTests r = b := by
  rintro ⟨a, o⟩ r h
  cases o with
  | none => injection h with h; subst h; rfl
  | some _ => cases h
noncomputable def f_impl_areTests_0 : Nat → Int → Int → List (Int × Int) → List (List Int) → Int → Int → Option (LR Unit Bool)
  | 0, _, _, _, _, _, _ => none
  | k + 1, b1_0, b1_1, b1_2, v21, v22, v23 =>
    if decide (v23 < v22) = true then if (0 : Int) ≤ v23 then if v23 < (↑(List.length v21) : Int) then if decide ((↑(List.length (List.getD v21 (Int.toNat v23) [])) : Int) > (8 : Int)) = true then some (LR.ret false) else Option.bind (f_impl_validEntries k (b1_0, b1_1, b1_2) (List.getD v21 (Int.toNat v23) [])) fun z1 => if (!z1) = true then some (LR.ret false) else f_impl_areTests_0 k b1_0 b1_1 b1_2 v21 v22 (wrap64 (v23 + (1 : Int))) else none else none else some (LR.go ())
noncomputable def f_impl_areTests_0i : Spec := { objs := [OSh.ro, OSh.box (32 : Nat) [Sh.int IntKind.i64, Sh.int IntKind.i64, Sh.snap (0 : Nat) (Ty.pair (Ty.int IntKind.i64) (Ty.int IntKind.i64))]], tmps := [((2 : Nat), TSh.at (Sh.ptr (1 : Nat) (0 : Nat))), ((21 : Nat), TSh.at (Sh.snap (0 : Nat) (Ty.slice (3 : Nat) (Ty.int IntKind.i64)))), ((22 : Nat), TSh.at (Sh.int IntKind.i64)), ((23 : Nat), TSh.at (Sh.int IntKind.i64))] }
noncomputable def f_impl_areTests_0o : Spec := { objs := [OSh.ro], tmps := [] }
noncomputable def f_impl_areTests_0D : LoopDef (Tup r_impl_areTests × OutD) := .rets f_impl_areTests_0i f_impl_areTests_0o (Unit) (Bool) (fun k x => f_impl_areTests_0 k x.1.2.1.1 x.1.2.1.2.1 x.1.2.1.2.2.1 x.2.2.1 x.2.2.2.1 x.2.2.2.2.1) (fun z => (((), ()), (()))) (fun y => ()) (fun _ => rfl) to_impl_areTests of_impl_areTests to_of_impl_areTests
noncomputable def f_impl_areTests : Nat → Int × Int × List (Int × Int) → List (List Int) → Option Bool
  | 0, _, _ => none
  | k + 1, p0, p1 =>
    Option.bind (f_impl_IsBoard k (Prod.fst p0, Prod.fst (Prod.snd p0), Prod.snd (Prod.snd p0))) fun z0 => if (!z0) = true then some false else if decide ((↑(List.length (Prod.snd (Prod.snd p0))) : Int) > (30 : Int)) = true then some false else if decide ((↑(List.length p1) : Int) > (10 : Int)) = true then some false else Option.bind (f_impl_areTests_0 k (Prod.fst p0) (Prod.fst (Prod.snd p0)) (Prod.snd (Prod.snd p0)) p1 (↑(List.length p1) : Int) (0 : Int)) fun z2 => LR.on z2 (fun y2 => some true) fun r2 => some r2
noncomputable def d_impl_areTests : FnDef := .of q_impl_areTests r_impl_areTests (Bool) (fun k x => f_impl_areTests k x.1 x.2.1) to_impl_areTests of_impl_areTests to_of_impl_areTests
noncomputable def c_impl_areTests : Code := Try.f103.body.getD .skip
noncomputable def x_impl_areTests : Ctx (Tup r_impl_areTests × OutD) := { T := T, G := [(67, d_impl_IsBoard.E), (97, d_impl_validEntries.E)], mvs := [], no := 0, n := 37, res := resOf T q_impl_areTests r_impl_areTests Try.f103.results.toList, loops := [(0, f_impl_areTests_0D.E)], regs := [], conds := [] }
theorem g_impl_areTests (k : Nat) : EnvOK Try.prog k x_impl_areTests.G := (EnvOK.cons (s_impl_IsBoard k) (EnvOK.cons (s_impl_validEntries k) (EnvOK.nil mixed)))
noncomputable def f_impl_areTests_0B : Code := (findLoop 0 c_impl_areTests).getD .skip
theorem f_impl_areTests_0h (k : Nat) (x : f_impl_areTests_0i.D) : f_impl_areTests_0D.lp (k + 1) x = loopK x_impl_areTests f_impl_areTests_0D 0 f_impl_areTests_0B k x := by kernel_rfl
theorem f_impl_areTests_0l (k : Nat) : LOK Try.prog x_impl_areTests k f_impl_areTests_0B := LOK.by [] (by kernel_rfl) AllOK.nil
theorem f_impl_areTests_0z (x : f_impl_areTests_0i.D) : f_impl_areTests_0D.lp 0 x = none := by kernel_rfl
theorem f_impl_areTests_0ok (k : Nat) : EOK Try.prog x_impl_areTests k f_impl_areTests_0D.E (.block 0 (.loop f_impl_areTests_0B)) := loop_ok T_ok g_impl_areTests f_impl_areTests_0z f_impl_areTests_0h f_impl_areTests_0l k
theorem h_impl_areTests (k : Nat) (x : Tup d_impl_areTests.ps) : d_impl_areTests.f (k + 1) x = fnK d_impl_areTests x_impl_areTests c_impl_areTests k x := by kernel_rfl
theorem z_impl_areTests (x : Tup d_impl_areTests.ps) : d_impl_areTests.f 0 x = none := by kernel_rfl
theorem l_impl_areTests (k : Nat) : LOK Try.prog x_impl_areTests k c_impl_areTests := LOK.by [(f_impl_areTests_0D.E, .block 0 (.loop f_impl_areTests_0B))] (by kernel_rfl) (AllOK.cons (f_impl_areTests_0ok k) AllOK.nil)
theorem s_impl_areTests (k : Nat) : SoundAt Try.prog k 103 d_impl_areTests.E := @fn_all Try.prog d_impl_areTests x_impl_areTests 103 Try.f103 c_impl_areTests (by kernel_rfl) (by kernel_rfl) (by kernel_rfl) Try.func103 (by kernel_rfl) (by kernel_rfl) (by kernel_rfl) T_ok g_impl_areTests l_impl_areTests z_impl_areTests h_impl_areTests k
/-! function 104 -/
noncomputable def r_impl_testEnds : List PK := [{ t := Ty.slice (56 : Nat) (Ty.slice (45 : Nat) (Ty.pair (Ty.int IntKind.i64) (Ty.pair (Ty.int IntKind.i64) (Ty.int IntKind.i64)))) }]
noncomputable def q_impl_testEnds : List PK := [{ t := Ty.pair (Ty.int IntKind.i64) (Ty.pair (Ty.int IntKind.i64) (Ty.slice (123 : Nat) (Ty.pair (Ty.int IntKind.i64) (Ty.int IntKind.i64)))), agg := true }, { t := Ty.slice (87 : Nat) (Ty.pair (Ty.int IntKind.i64) (Ty.pair (Ty.int IntKind.i64) (Ty.int IntKind.i64))) }, { t := Ty.slice (50 : Nat) (Ty.slice (3 : Nat) (Ty.int IntKind.i64)) }]
noncomputable def to_impl_testEnds (r : List (List (Int × Int × Int))) : Tup r_impl_testEnds × OutD := ((r, ()), none)
noncomputable def of_impl_testEnds : Tup r_impl_testEnds × OutD → Option (List (List (Int × Int × Int)))
  | (a, none) => some (a.1)
  | _ => none
theorem to_of_impl_testEnds : ∀ b r, of_impl_testEnds b = some r → to_impl_testEnds r = b := by
  rintro ⟨a, o⟩ r h
  cases o with
  | none => injection h with h; subst h; rfl
  | some _ => cases h
noncomputable def f_impl_testEnds_0 : Nat → Int → Int → List (Int × Int) → List (List (Int × Int × Int)) → List (Int × Int × Int) → List (List Int) → Int → Int → Option (List (List (Int × Int × Int)))
  | 0, _, _, _, _, _, _, _, _ => none
  | k + 1, b1_0, b1_1, b1_2, o2, v1, v13, v14, v15 =>
    if decide (v15 < v14) = true then if (0 : Int) ≤ v15 then if v15 < (↑(List.length v13) : Int) then Option.bind (f_impl_faultyDrops k (b1_0, b1_1, b1_2) v1 (List.getD v13 (Int.toNat v15) [])) fun z0 => if List.length o2 + List.length [Prod.fst z0] ≤ (140737488355328 / 24 : Nat) then f_impl_testEnds_0 k b1_0 b1_1 b1_2 (o2 ++ [Prod.fst z0]) v1 v13 v14 (wrap64 (v15 + (1 : Int))) else none else none else none else some o2
noncomputable def f_impl_testEnds_0i : Spec := { objs := [OSh.ro, OSh.box (32 : Nat) [Sh.int IntKind.i64, Sh.int IntKind.i64, Sh.snap (0 : Nat) (Ty.pair (Ty.int IntKind.i64) (Ty.int IntKind.i64))], OSh.row true (56 : Nat) (Ty.slice (45 : Nat) (Ty.pair (Ty.int IntKind.i64) (Ty.pair (Ty.int IntKind.i64) (Ty.int IntKind.i64))))], tmps := [((1 : Nat), TSh.at (Sh.snap (0 : Nat) (Ty.pair (Ty.int IntKind.i64) (Ty.pair (Ty.int IntKind.i64) (Ty.int IntKind.i64))))), ((3 : Nat), TSh.at (Sh.ptr (1 : Nat) (0 : Nat))), ((7 : Nat), TSh.at (Sh.sl (2 : Nat))), ((13 : Nat), TSh.at (Sh.snap (0 : Nat) (Ty.slice (3 : Nat) (Ty.int IntKind.i64)))), ((14 : Nat), TSh.at (Sh.int IntKind.i64)), ((15 : Nat), TSh.at (Sh.int IntKind.i64))] }
noncomputable def f_impl_testEnds_0o : Spec := { objs := [OSh.ro, OSh.row true (56 : Nat) (Ty.slice (45 : Nat) (Ty.pair (Ty.int IntKind.i64) (Ty.pair (Ty.int IntKind.i64) (Ty.int IntKind.i64))))], tmps := [((7 : Nat), TSh.at (Sh.sl (1 : Nat)))] }
noncomputable def f_impl_testEnds_0D : LoopDef (Tup r_impl_testEnds × OutD) := .plain f_impl_testEnds_0i f_impl_testEnds_0o (List (List (Int × Int × Int))) (fun k x => f_impl_testEnds_0 k x.1.2.1.1 x.1.2.1.2.1 x.1.2.1.2.2.1 x.1.2.2.1 x.2.1 x.2.2.2.2.1 x.2.2.2.2.2.1 x.2.2.2.2.2.2.1) (fun z => (((), z, ()), ((), ()))) (fun y => (y.1.2.1)) (fun _ => rfl)
noncomputable def f_impl_testEnds : Nat → Int × Int × List (Int × Int) → List (Int × Int × Int) → List (List Int) → Option (List (List (Int × Int × Int)))
  | 0, _, _, _ => none
  | k + 1, p0, p1, p2 =>
    Option.bind (f_impl_testEnds_0 k (Prod.fst p0) (Prod.fst (Prod.snd p0)) (Prod.snd (Prod.snd p0)) [] p1 p2 (↑(List.length p2) : Int) (0 : Int)) fun z1 => some z1
noncomputable def d_impl_testEnds : FnDef := .of q_impl_testEnds r_impl_testEnds (List (List (Int × Int × Int))) (fun k x => f_impl_testEnds k x.1 x.2.1 x.2.2.1) to_impl_testEnds of_impl_testEnds to_of_impl_testEnds
noncomputable def c_impl_testEnds : Code := Try.f104.body.getD .skip
noncomputable def x_impl_testEnds : Ctx (Tup r_impl_testEnds × OutD) := { T := T, G := [(107, d_impl_faultyDrops.E)], mvs := [], no := 0, n := 32, res := resOf T q_impl_testEnds r_impl_testEnds Try.f104.results.toList, loops := [(0, f_impl_testEnds_0D.E)], regs := [], conds := [] }
theorem g_impl_testEnds (k : Nat) : EnvOK Try.prog k x_impl_testEnds.G := (EnvOK.cons (s_impl_faultyDrops k) (EnvOK.nil mixed))
noncomputable def f_impl_testEnds_0B : Code := (findLoop 0 c_impl_testEnds).getD .skip
theorem f_impl_testEnds_0h (k : Nat) (x : f_impl_testEnds_0i.D) : f_impl_testEnds_0D.lp (k + 1) x = loopK x_impl_testEnds f_impl_testEnds_0D 0 f_impl_testEnds_0B k x := by kernel_rfl
theorem f_impl_testEnds_0l (k : Nat) : LOK Try.prog x_impl_testEnds k f_impl_testEnds_0B := LOK.by [] (by kernel_rfl) AllOK.nil
theorem f_impl_testEnds_0z (x : f_impl_testEnds_0i.D) : f_impl_testEnds_0D.lp 0 x = none := by kernel_rfl
theorem f_impl_testEnds_0ok (k : Nat) : EOK Try.prog x_impl_testEnds k f_impl_testEnds_0D.E (.block 0 (.loop f_impl_testEnds_0B)) := loop_ok T_ok g_impl_testEnds f_impl_testEnds_0z f_impl_testEnds_0h f_impl_testEnds_0l k
theorem h_impl_testEnds (k : Nat) (x : Tup d_impl_testEnds.ps) : d_impl_testEnds.f (k + 1) x = fnK d_impl_testEnds x_impl_testEnds c_impl_testEnds k x := by kernel_rfl
theorem z_impl_testEnds (x : Tup d_impl_testEnds.ps) : d_impl_testEnds.f 0 x = none := by kernel_rfl
theorem l_impl_testEnds (k : Nat) : LOK Try.prog x_impl_testEnds k c_impl_testEnds := LOK.by [(f_impl_testEnds_0D.E, .block 0 (.loop f_impl_testEnds_0B))] (by kernel_rfl) (AllOK.cons (f_impl_testEnds_0ok k) AllOK.nil)
theorem s_impl_testEnds (k : Nat) : SoundAt Try.prog k 104 d_impl_testEnds.E := @fn_all Try.prog d_impl_testEnds x_impl_testEnds 104 Try.f104 c_impl_testEnds (by kernel_rfl) (by kernel_rfl) (by kernel_rfl) Try.func104 (by kernel_rfl) (by kernel_rfl) (by kernel_rfl) T_ok g_impl_testEnds l_impl_testEnds z_impl_testEnds h_impl_testEnds k
end
end Go.Proofs.Ytkefbmaagdaodaa.Vs
