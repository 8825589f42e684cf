/- Functions of the program by plain functions, each with its contract. -/
import Derived.Test.YtgpmbmnfcbippaaqtesVsT
import Derived.Test.YtgpmbmnfcbippaaqtesVg0
import Derived.Test.YtgpmbmnfcbippaaqtesVg1
import Derived.Test.YtgpmbmnfcbippaaqtesVg2
import Derived.Test.YtgpmbmnfcbippaaqtesVg3
set_option maxRecDepth 100000
set_option linter.unusedVariables false
set_option linter.unusedSimpArgs false
namespace Go.Proofs.Ytgpmbmnfcbippaa.Vs
open Go.RowKit
noncomputable section
/-! function 66 -/
/-! function 70 -/
/-! function 73 -/
/-! function 82 -/
noncomputable def r_spec_tsAsked : List PK := [{ t := Ty.bool }]
noncomputable def q_spec_tsAsked : List PK := [{ t := Ty.pair (Ty.int IntKind.i64) (Ty.pair (Ty.int IntKind.i64) (Ty.slice (116 : Nat) (Ty.pair (Ty.int IntKind.i64) (Ty.int IntKind.i64)))), agg := true }, { t := Ty.slice (25 : Nat) (Ty.slice (3 : Nat) (Ty.int IntKind.i64)) }]
noncomputable def to_spec_tsAsked (r : Bool) : Tup r_spec_tsAsked × OutD := ((r, ()), none)
noncomputable def of_spec_tsAsked : Tup r_spec_tsAsked × OutD → Option (Bool)
  | (a, none) => some (a.1)
  | _ => none
theorem to_of_spec_tsAsked : ∀ b r, of_spec_tsAsked b = some r → to_spec_tsAsked r = b := by
  rintro ⟨a, o⟩ r h
  cases o with
  | none => injection h with h; subst h; rfl
  | some _ => cases h
noncomputable def f_spec_tsAsked : Nat → Int × Int × List (Int × Int) → List (List Int) → Option Bool
  | 0, _, _ => none
  | k + 1, p0, p1 =>
    Option.bind (f_spec_tsGood k (Prod.fst p0, Prod.fst (Prod.snd p0), Prod.snd (Prod.snd p0))) fun z0 => if z0 = true then Option.bind (f_spec_tsTests k (Prod.fst p0, Prod.fst (Prod.snd p0), Prod.snd (Prod.snd p0)) p1) fun z1 => some z1 else some false
noncomputable def d_spec_tsAsked : FnDef := .of q_spec_tsAsked r_spec_tsAsked (Bool) (fun k x => f_spec_tsAsked k x.1 x.2.1) to_spec_tsAsked of_spec_tsAsked to_of_spec_tsAsked
noncomputable def c_spec_tsAsked : Code := Try.f82.body.getD .skip
noncomputable def x_spec_tsAsked : Ctx (Tup r_spec_tsAsked × OutD) := { T := T, G := [(118, d_spec_tsGood.E), (119, d_spec_tsTests.E)], mvs := [], no := 0, n := 12, res := resOf T q_spec_tsAsked r_spec_tsAsked Try.f82.results.toList, loops := [], regs := [], conds := [] }
theorem g_spec_tsAsked (k : Nat) : EnvOK Try.prog k x_spec_tsAsked.G := (EnvOK.cons (s_spec_tsGood k) (EnvOK.cons (s_spec_tsTests k) (EnvOK.nil mixed)))
theorem h_spec_tsAsked (k : Nat) (x : Tup d_spec_tsAsked.ps) : d_spec_tsAsked.f (k + 1) x = fnK d_spec_tsAsked x_spec_tsAsked c_spec_tsAsked k x := by kernel_rfl
theorem z_spec_tsAsked (x : Tup d_spec_tsAsked.ps) : d_spec_tsAsked.f 0 x = none := by kernel_rfl
theorem l_spec_tsAsked (k : Nat) : LOK Try.prog x_spec_tsAsked k c_spec_tsAsked := LOK.by [] (by kernel_rfl) AllOK.nil
theorem s_spec_tsAsked (k : Nat) : SoundAt Try.prog k 82 d_spec_tsAsked.E := @fn_all Try.prog d_spec_tsAsked x_spec_tsAsked 82 Try.f82 c_spec_tsAsked (by kernel_rfl) (by kernel_rfl) (by kernel_rfl) Try.func82 (by kernel_rfl) (by kernel_rfl) (by kernel_rfl) T_ok g_spec_tsAsked l_spec_tsAsked z_spec_tsAsked h_spec_tsAsked k
/-! function 84 -/
noncomputable def r_spec_tsEnds : List PK := [{ t := Ty.slice (45 : Nat) (Ty.slice (91 : Nat) (Ty.pair (Ty.int IntKind.i64) (Ty.pair (Ty.int IntKind.i64) (Ty.int IntKind.i64)))) }]
noncomputable def q_spec_tsEnds : List PK := [{ t := Ty.pair (Ty.int IntKind.i64) (Ty.pair (Ty.int IntKind.i64) (Ty.slice (116 : Nat) (Ty.pair (Ty.int IntKind.i64) (Ty.int IntKind.i64)))), agg := true }, { t := Ty.slice (83 : Nat) (Ty.pair (Ty.int IntKind.i64) (Ty.pair (Ty.int IntKind.i64) (Ty.int IntKind.i64))) }, { t := Ty.slice (25 : Nat) (Ty.slice (3 : Nat) (Ty.int IntKind.i64)) }]
noncomputable def to_spec_tsEnds (r : List (List (Int × Int × Int))) : Tup r_spec_tsEnds × OutD := ((r, ()), none)
noncomputable def of_spec_tsEnds : Tup r_spec_tsEnds × OutD → Option (List (List (Int × Int × Int)))
  | (a, none) => some (a.1)
  | _ => none
theorem to_of_spec_tsEnds : ∀ b r, of_spec_tsEnds b = some r → to_spec_tsEnds r = b := by
  rintro ⟨a, o⟩ r h
  cases o with
  | none => injection h with h; subst h; rfl
  | some _ => cases h
noncomputable def f_spec_tsEnds_0 : Nat → Int → Int → List (Int × Int) → List (List (Int × Int × Int)) → List (Int × Int × Int) → List (List Int) → Int → Int → Option (List (List (Int × Int × Int)))
  | 0, _, _, _, _, _, _, _, _ => none
  | k + 1, b1_0, b1_1, b1_2, o2, v1, v12, v13, v14 =>
    if decide (v14 < v13) = true then if (0 : Int) ≤ v14 then if v14 < (↑(List.length v12) : Int) then Option.bind (f_spec_faAll k (b1_0, b1_1, b1_2) v1 (List.getD v12 (Int.toNat v14) [])) fun z0 => if List.length o2 + List.length [Prod.fst z0] ≤ (140737488355328 / 24 : Nat) then f_spec_tsEnds_0 k b1_0 b1_1 b1_2 (o2 ++ [Prod.fst z0]) v1 v12 v13 (wrap64 (v14 + (1 : Int))) else none else none else none else some o2
noncomputable def f_spec_tsEnds_0i : Spec := { objs := [OSh.ro, OSh.box (32 : Nat) [Sh.int IntKind.i64, Sh.int IntKind.i64, Sh.snap (0 : Nat) (Ty.pair (Ty.int IntKind.i64) (Ty.int IntKind.i64))], OSh.row true (45 : Nat) (Ty.slice (91 : Nat) (Ty.pair (Ty.int IntKind.i64) (Ty.pair (Ty.int IntKind.i64) (Ty.int IntKind.i64))))], tmps := [((1 : Nat), TSh.at (Sh.snap (0 : Nat) (Ty.pair (Ty.int IntKind.i64) (Ty.pair (Ty.int IntKind.i64) (Ty.int IntKind.i64))))), ((3 : Nat), TSh.at (Sh.ptr (1 : Nat) (0 : Nat))), ((7 : Nat), TSh.at (Sh.sl (2 : Nat))), ((12 : Nat), TSh.at (Sh.snap (0 : Nat) (Ty.slice (3 : Nat) (Ty.int IntKind.i64)))), ((13 : Nat), TSh.at (Sh.int IntKind.i64)), ((14 : Nat), TSh.at (Sh.int IntKind.i64))] }
noncomputable def f_spec_tsEnds_0o : Spec := { objs := [OSh.ro, OSh.row true (45 : Nat) (Ty.slice (91 : Nat) (Ty.pair (Ty.int IntKind.i64) (Ty.pair (Ty.int IntKind.i64) (Ty.int IntKind.i64))))], tmps := [((7 : Nat), TSh.at (Sh.sl (1 : Nat)))] }
noncomputable def f_spec_tsEnds_0D : LoopDef (Tup r_spec_tsEnds × OutD) := .plain f_spec_tsEnds_0i f_spec_tsEnds_0o (List (List (Int × Int × Int))) (fun k x => f_spec_tsEnds_0 k x.1.2.1.1 x.1.2.1.2.1 x.1.2.1.2.2.1 x.1.2.2.1 x.2.1 x.2.2.2.2.1 x.2.2.2.2.2.1 x.2.2.2.2.2.2.1) (fun z => (((), z, ()), ((), ()))) (fun y => (y.1.2.1)) (fun _ => rfl)
noncomputable def f_spec_tsEnds : Nat → Int × Int × List (Int × Int) → List (Int × Int × Int) → List (List Int) → Option (List (List (Int × Int × Int)))
  | 0, _, _, _ => none
  | k + 1, p0, p1, p2 =>
    Option.bind (f_spec_tsEnds_0 k (Prod.fst p0) (Prod.fst (Prod.snd p0)) (Prod.snd (Prod.snd p0)) [] p1 p2 (↑(List.length p2) : Int) (0 : Int)) fun z1 => some z1
noncomputable def d_spec_tsEnds : FnDef := .of q_spec_tsEnds r_spec_tsEnds (List (List (Int × Int × Int))) (fun k x => f_spec_tsEnds k x.1 x.2.1 x.2.2.1) to_spec_tsEnds of_spec_tsEnds to_of_spec_tsEnds
noncomputable def c_spec_tsEnds : Code := Try.f84.body.getD .skip
noncomputable def x_spec_tsEnds : Ctx (Tup r_spec_tsEnds × OutD) := { T := T, G := [(122, d_spec_faAll.E)], mvs := [], no := 0, n := 31, res := resOf T q_spec_tsEnds r_spec_tsEnds Try.f84.results.toList, loops := [(0, f_spec_tsEnds_0D.E)], regs := [], conds := [] }
theorem g_spec_tsEnds (k : Nat) : EnvOK Try.prog k x_spec_tsEnds.G := (EnvOK.cons (s_spec_faAll k) (EnvOK.nil mixed))
noncomputable def f_spec_tsEnds_0B : Code := (findLoop 0 c_spec_tsEnds).getD .skip
theorem f_spec_tsEnds_0h (k : Nat) (x : f_spec_tsEnds_0i.D) : f_spec_tsEnds_0D.lp (k + 1) x = loopK x_spec_tsEnds f_spec_tsEnds_0D 0 f_spec_tsEnds_0B k x := by kernel_rfl
theorem f_spec_tsEnds_0l (k : Nat) : LOK Try.prog x_spec_tsEnds k f_spec_tsEnds_0B := LOK.by [] (by kernel_rfl) AllOK.nil
theorem f_spec_tsEnds_0z (x : f_spec_tsEnds_0i.D) : f_spec_tsEnds_0D.lp 0 x = none := by kernel_rfl
theorem f_spec_tsEnds_0ok (k : Nat) : EOK Try.prog x_spec_tsEnds k f_spec_tsEnds_0D.E (.block 0 (.loop f_spec_tsEnds_0B)) := loop_ok T_ok g_spec_tsEnds f_spec_tsEnds_0z f_spec_tsEnds_0h f_spec_tsEnds_0l k
theorem h_spec_tsEnds (k : Nat) (x : Tup d_spec_tsEnds.ps) : d_spec_tsEnds.f (k + 1) x = fnK d_spec_tsEnds x_spec_tsEnds c_spec_tsEnds k x := by kernel_rfl
theorem z_spec_tsEnds (x : Tup d_spec_tsEnds.ps) : d_spec_tsEnds.f 0 x = none := by kernel_rfl
theorem l_spec_tsEnds (k : Nat) : LOK Try.prog x_spec_tsEnds k c_spec_tsEnds := LOK.by [(f_spec_tsEnds_0D.E, .block 0 (.loop f_spec_tsEnds_0B))] (by kernel_rfl) (AllOK.cons (f_spec_tsEnds_0ok k) AllOK.nil)
theorem s_spec_tsEnds (k : Nat) : SoundAt Try.prog k 84 d_spec_tsEnds.E := @fn_all Try.prog d_spec_tsEnds x_spec_tsEnds 84 Try.f84 c_spec_tsEnds (by kernel_rfl) (by kernel_rfl) (by kernel_rfl) Try.func84 (by kernel_rfl) (by kernel_rfl) (by kernel_rfl) T_ok g_spec_tsEnds l_spec_tsEnds z_spec_tsEnds h_spec_tsEnds k
/-! function 86 -/
noncomputable def r_impl_areTests : List PK := [{ t := Ty.bool }]
noncomputable def q_impl_areTests : List PK := [{ t := Ty.pair (Ty.int IntKind.i64) (Ty.pair (Ty.int IntKind.i64) (Ty.slice (116 : Nat) (Ty.pair (Ty.int IntKind.i64) (Ty.int IntKind.i64)))), agg := true }, { t := Ty.slice (25 : Nat) (Ty.slice (3 : Nat) (Ty.int IntKind.i64)) }]
noncomputable def to_impl_areTests (r : Bool) : Tup r_impl_areTests × OutD := ((r, ()), none)
noncomputable def of_impl_areTests : Tup r_impl_areTests × OutD → Option (Bool)
  | (a, none) => some (a.1)
  | _ => none
theorem to_of_impl_areTests : ∀ b r, of_impl_areTests b = some r → to_impl_areTests r = b := by
  rintro ⟨a, o⟩ r h
  cases o with
  | none => injection h with h; subst h; rfl
  | some _ => cases h
noncomputable def f_impl_areTests_0 : Nat → Int → Int → List (Int × Int) → List (List Int) → Int → Int → Option (LR Unit Bool)
  | 0, _, _, _, _, _, _ => none
  | k + 1, b1_0, b1_1, b1_2, v21, v22, v23 =>
    if decide (v23 < v22) = true then if (0 : Int) ≤ v23 then if v23 < (↑(List.length v21) : Int) then if decide ((↑(List.length (List.getD v21 (Int.toNat v23) [])) : Int) > (8 : Int)) = true then some (LR.ret false) else Option.bind (f_impl_validEntries k (b1_0, b1_1, b1_2) (List.getD v21 (Int.toNat v23) [])) fun z1 => if (!z1) = true then some (LR.ret false) else f_impl_areTests_0 k b1_0 b1_1 b1_2 v21 v22 (wrap64 (v23 + (1 : Int))) else none else none else some (LR.go ())
noncomputable def f_impl_areTests_0i : Spec := { objs := [OSh.ro, OSh.box (32 : Nat) [Sh.int IntKind.i64, Sh.int IntKind.i64, Sh.snap (0 : Nat) (Ty.pair (Ty.int IntKind.i64) (Ty.int IntKind.i64))]], tmps := [((2 : Nat), TSh.at (Sh.ptr (1 : Nat) (0 : Nat))), ((21 : Nat), TSh.at (Sh.snap (0 : Nat) (Ty.slice (3 : Nat) (Ty.int IntKind.i64)))), ((22 : Nat), TSh.at (Sh.int IntKind.i64)), ((23 : Nat), TSh.at (Sh.int IntKind.i64))] }
noncomputable def f_impl_areTests_0o : Spec := { objs := [OSh.ro], tmps := [] }
noncomputable def f_impl_areTests_0D : LoopDef (Tup r_impl_areTests × OutD) := .rets f_impl_areTests_0i f_impl_areTests_0o (Unit) (Bool) (fun k x => f_impl_areTests_0 k x.1.2.1.1 x.1.2.1.2.1 x.1.2.1.2.2.1 x.2.2.1 x.2.2.2.1 x.2.2.2.2.1) (fun z => (((), ()), (()))) (fun y => ()) (fun _ => rfl) to_impl_areTests of_impl_areTests to_of_impl_areTests
noncomputable def f_impl_areTests : Nat → Int × Int × List (Int × Int) → List (List Int) → Option Bool
  | 0, _, _ => none
  | k + 1, p0, p1 =>
    Option.bind (f_impl_IsBoard k (Prod.fst p0, Prod.fst (Prod.snd p0), Prod.snd (Prod.snd p0))) fun z0 => if (!z0) = true then some false else if decide ((↑(List.length (Prod.snd (Prod.snd p0))) : Int) > (30 : Int)) = true then some false else if decide ((↑(List.length p1) : Int) > (10 : Int)) = true then some false else Option.bind (f_impl_areTests_0 k (Prod.fst p0) (Prod.fst (Prod.snd p0)) (Prod.snd (Prod.snd p0)) p1 (↑(List.length p1) : Int) (0 : Int)) fun z2 => LR.on z2 (fun y2 => some true) fun r2 => some r2
noncomputable def d_impl_areTests : FnDef := .of q_impl_areTests r_impl_areTests (Bool) (fun k x => f_impl_areTests k x.1 x.2.1) to_impl_areTests of_impl_areTests to_of_impl_areTests
noncomputable def c_impl_areTests : Code := Try.f86.body.getD .skip
noncomputable def x_impl_areTests : Ctx (Tup r_impl_areTests × OutD) := { T := T, G := [(108, d_impl_IsBoard.E), (64, d_impl_validEntries.E)], mvs := [], no := 0, n := 37, res := resOf T q_impl_areTests r_impl_areTests Try.f86.results.toList, loops := [(0, f_impl_areTests_0D.E)], regs := [], conds := [] }
theorem g_impl_areTests (k : Nat) : EnvOK Try.prog k x_impl_areTests.G := (EnvOK.cons (s_impl_IsBoard k) (EnvOK.cons (s_impl_validEntries k) (EnvOK.nil mixed)))
noncomputable def f_impl_areTests_0B : Code := (findLoop 0 c_impl_areTests).getD .skip
theorem f_impl_areTests_0h (k : Nat) (x : f_impl_areTests_0i.D) : f_impl_areTests_0D.lp (k + 1) x = loopK x_impl_areTests f_impl_areTests_0D 0 f_impl_areTests_0B k x := by kernel_rfl
theorem f_impl_areTests_0l (k : Nat) : LOK Try.prog x_impl_areTests k f_impl_areTests_0B := LOK.by [] (by kernel_rfl) AllOK.nil
theorem f_impl_areTests_0z (x : f_impl_areTests_0i.D) : f_impl_areTests_0D.lp 0 x = none := by kernel_rfl
theorem f_impl_areTests_0ok (k : Nat) : EOK Try.prog x_impl_areTests k f_impl_areTests_0D.E (.block 0 (.loop f_impl_areTests_0B)) := loop_ok T_ok g_impl_areTests f_impl_areTests_0z f_impl_areTests_0h f_impl_areTests_0l k
theorem h_impl_areTests (k : Nat) (x : Tup d_impl_areTests.ps) : d_impl_areTests.f (k + 1) x = fnK d_impl_areTests x_impl_areTests c_impl_areTests k x := by kernel_rfl
theorem z_impl_areTests (x : Tup d_impl_areTests.ps) : d_impl_areTests.f 0 x = none := by kernel_rfl
theorem l_impl_areTests (k : Nat) : LOK Try.prog x_impl_areTests k c_impl_areTests := LOK.by [(f_impl_areTests_0D.E, .block 0 (.loop f_impl_areTests_0B))] (by kernel_rfl) (AllOK.cons (f_impl_areTests_0ok k) AllOK.nil)
theorem s_impl_areTests (k : Nat) : SoundAt Try.prog k 86 d_impl_areTests.E := @fn_all Try.prog d_impl_areTests x_impl_areTests 86 Try.f86 c_impl_areTests (by kernel_rfl) (by kernel_rfl) (by kernel_rfl) Try.func86 (by kernel_rfl) (by kernel_rfl) (by kernel_rfl) T_ok g_impl_areTests l_impl_areTests z_impl_areTests h_impl_areTests k
/-! function 87 -/
noncomputable def r_impl_areFaults : List PK := [{ t := Ty.bool }]
noncomputable def q_impl_areFaults : List PK := [{ t := Ty.pair (Ty.int IntKind.i64) (Ty.pair (Ty.int IntKind.i64) (Ty.slice (116 : Nat) (Ty.pair (Ty.int IntKind.i64) (Ty.int IntKind.i64)))), agg := true }, { t := Ty.slice (83 : Nat) (Ty.pair (Ty.int IntKind.i64) (Ty.pair (Ty.int IntKind.i64) (Ty.int IntKind.i64))) }]
noncomputable def to_impl_areFaults (r : Bool) : Tup r_impl_areFaults × OutD := ((r, ()), none)
noncomputable def of_impl_areFaults : Tup r_impl_areFaults × OutD → Option (Bool)
  | (a, none) => some (a.1)
  | _ => none
theorem to_of_impl_areFaults : ∀ b r, of_impl_areFaults b = some r → to_impl_areFaults r = b := by
  rintro ⟨a, o⟩ r h
  cases o with
  | none => injection h with h; subst h; rfl
  | some _ => cases h
noncomputable def f_impl_areFaults_0 : Nat → Int → Int → List (Int × Int) → Int → List (Int × Int × Int) → Int → Int → Option (LR Unit Bool)
  | 0, _, _, _, _, _, _, _ => none
  | k + 1, b1_0, b1_1, b1_2, v5, v12, v13, v14 =>
    if decide (v14 < v13) = true then if (0 : Int) ≤ v14 then if v14 < (↑(List.length v12) : Int) then Option.bind (f_impl_onBoard k (b1_0, b1_1, b1_2) (Prod.fst (Prod.snd (List.getD v12 (Int.toNat v14) ((0 : Int), (0 : Int), (0 : Int))))) (Prod.snd (Prod.snd (List.getD v12 (Int.toNat v14) ((0 : Int), (0 : Int), (0 : Int)))))) fun z0 => if (!z0) = true then some (LR.ret false) else if decide (wrap64 (wrap64 (Prod.fst (Prod.snd (List.getD v12 (Int.toNat v14) ((0 : Int), (0 : Int), (0 : Int)))) * b1_1) + Prod.snd (Prod.snd (List.getD v12 (Int.toNat v14) ((0 : Int), (0 : Int), (0 : Int))))) ≤ v5) = true then some (LR.ret false) else if (0 : Int) ≤ wrap64 (wrap64 (Prod.fst (Prod.snd (List.getD v12 (Int.toNat v14) ((0 : Int), (0 : Int), (0 : Int)))) * b1_1) + Prod.snd (Prod.snd (List.getD v12 (Int.toNat v14) ((0 : Int), (0 : Int), (0 : Int))))) then if wrap64 (wrap64 (Prod.fst (Prod.snd (List.getD v12 (Int.toNat v14) ((0 : Int), (0 : Int), (0 : Int)))) * b1_1) + Prod.snd (Prod.snd (List.getD v12 (Int.toNat v14) ((0 : Int), (0 : Int), (0 : Int))))) < (↑(List.length b1_2) : Int) then Option.bind (f_impl_canHave k (Prod.fst (List.getD b1_2 (Int.toNat (wrap64 (wrap64 (Prod.fst (Prod.snd (List.getD v12 (Int.toNat v14) ((0 : Int), (0 : Int), (0 : Int)))) * b1_1) + Prod.snd (Prod.snd (List.getD v12 (Int.toNat v14) ((0 : Int), (0 : Int), (0 : Int))))))) ((0 : Int), (0 : Int))), Prod.snd (List.getD b1_2 (Int.toNat (wrap64 (wrap64 (Prod.fst (Prod.snd (List.getD v12 (Int.toNat v14) ((0 : Int), (0 : Int), (0 : Int)))) * b1_1) + Prod.snd (Prod.snd (List.getD v12 (Int.toNat v14) ((0 : Int), (0 : Int), (0 : Int))))))) ((0 : Int), (0 : Int)))) (Prod.fst (List.getD v12 (Int.toNat v14) ((0 : Int), (0 : Int), (0 : Int))))) fun z1 => if (!z1) = true then some (LR.ret false) else f_impl_areFaults_0 k b1_0 b1_1 b1_2 (wrap64 (wrap64 (Prod.fst (Prod.snd (List.getD v12 (Int.toNat v14) ((0 : Int), (0 : Int), (0 : Int)))) * b1_1) + Prod.snd (Prod.snd (List.getD v12 (Int.toNat v14) ((0 : Int), (0 : Int), (0 : Int)))))) v12 v13 (wrap64 (v14 + (1 : Int))) else none else none else none else none else some (LR.go ())
noncomputable def f_impl_areFaults_0i : Spec := { objs := [OSh.ro, OSh.box (32 : Nat) [Sh.int IntKind.i64, Sh.int IntKind.i64, Sh.snap (0 : Nat) (Ty.pair (Ty.int IntKind.i64) (Ty.int IntKind.i64))]], tmps := [((2 : Nat), TSh.at (Sh.ptr (1 : Nat) (0 : Nat))), ((5 : Nat), TSh.at (Sh.int IntKind.i64)), ((12 : Nat), TSh.at (Sh.snap (0 : Nat) (Ty.pair (Ty.int IntKind.i64) (Ty.pair (Ty.int IntKind.i64) (Ty.int IntKind.i64))))), ((13 : Nat), TSh.at (Sh.int IntKind.i64)), ((14 : Nat), TSh.at (Sh.int IntKind.i64))] }
noncomputable def f_impl_areFaults_0o : Spec := { objs := [OSh.ro], tmps := [] }
noncomputable def f_impl_areFaults_0D : LoopDef (Tup r_impl_areFaults × OutD) := .rets f_impl_areFaults_0i f_impl_areFaults_0o (Unit) (Bool) (fun k x => f_impl_areFaults_0 k x.1.2.1.1 x.1.2.1.2.1 x.1.2.1.2.2.1 x.2.2.1 x.2.2.2.1 x.2.2.2.2.1 x.2.2.2.2.2.1) (fun z => (((), ()), (()))) (fun y => ()) (fun _ => rfl) to_impl_areFaults of_impl_areFaults to_of_impl_areFaults
noncomputable def f_impl_areFaults : Nat → Int × Int × List (Int × Int) → List (Int × Int × Int) → Option Bool
  | 0, _, _ => none
  | k + 1, p0, p1 =>
    if decide ((↑(List.length p1) : Int) > (4 : Int)) = true then some false else Option.bind (f_impl_areFaults_0 k (Prod.fst p0) (Prod.fst (Prod.snd p0)) (Prod.snd (Prod.snd p0)) (-1 : Int) p1 (↑(List.length p1) : Int) (0 : Int)) fun z2 => LR.on z2 (fun y2 => some true) fun r2 => some r2
noncomputable def d_impl_areFaults : FnDef := .of q_impl_areFaults r_impl_areFaults (Bool) (fun k x => f_impl_areFaults k x.1 x.2.1) to_impl_areFaults of_impl_areFaults to_of_impl_areFaults
noncomputable def c_impl_areFaults : Code := Try.f87.body.getD .skip
noncomputable def x_impl_areFaults : Ctx (Tup r_impl_areFaults × OutD) := { T := T, G := [(123, d_impl_onBoard.E), (109, d_impl_canHave.E)], mvs := [], no := 0, n := 49, res := resOf T q_impl_areFaults r_impl_areFaults Try.f87.results.toList, loops := [(0, f_impl_areFaults_0D.E)], regs := [], conds := [] }
theorem g_impl_areFaults (k : Nat) : EnvOK Try.prog k x_impl_areFaults.G := (EnvOK.cons (s_impl_onBoard k) (EnvOK.cons (s_impl_canHave k) (EnvOK.nil mixed)))
noncomputable def f_impl_areFaults_0B : Code := (findLoop 0 c_impl_areFaults).getD .skip
theorem f_impl_areFaults_0h (k : Nat) (x : f_impl_areFaults_0i.D) : f_impl_areFaults_0D.lp (k + 1) x = loopK x_impl_areFaults f_impl_areFaults_0D 0 f_impl_areFaults_0B k x := by kernel_rfl
theorem f_impl_areFaults_0l (k : Nat) : LOK Try.prog x_impl_areFaults k f_impl_areFaults_0B := LOK.by [] (by kernel_rfl) AllOK.nil
theorem f_impl_areFaults_0z (x : f_impl_areFaults_0i.D) : f_impl_areFaults_0D.lp 0 x = none := by kernel_rfl
theorem f_impl_areFaults_0ok (k : Nat) : EOK Try.prog x_impl_areFaults k f_impl_areFaults_0D.E (.block 0 (.loop f_impl_areFaults_0B)) := loop_ok T_ok g_impl_areFaults f_impl_areFaults_0z f_impl_areFaults_0h f_impl_areFaults_0l k
theorem h_impl_areFaults (k : Nat) (x : Tup d_impl_areFaults.ps) : d_impl_areFaults.f (k + 1) x = fnK d_impl_areFaults x_impl_areFaults c_impl_areFaults k x := by kernel_rfl
theorem z_impl_areFaults (x : Tup d_impl_areFaults.ps) : d_impl_areFaults.f 0 x = none := by kernel_rfl
theorem l_impl_areFaults (k : Nat) : LOK Try.prog x_impl_areFaults k c_impl_areFaults := LOK.by [(f_impl_areFaults_0D.E, .block 0 (.loop f_impl_areFaults_0B))] (by kernel_rfl) (AllOK.cons (f_impl_areFaults_0ok k) AllOK.nil)
theorem s_impl_areFaults (k : Nat) : SoundAt Try.prog k 87 d_impl_areFaults.E := @fn_all Try.prog d_impl_areFaults x_impl_areFaults 87 Try.f87 c_impl_areFaults (by kernel_rfl) (by kernel_rfl) (by kernel_rfl) Try.func87 (by kernel_rfl) (by kernel_rfl) (by kernel_rfl) T_ok g_impl_areFaults l_impl_areFaults z_impl_areFaults h_impl_areFaults k
/-! function 88 -/
noncomputable def r_impl_testEnds : List PK := [{ t := Ty.slice (45 : Nat) (Ty.slice (91 : Nat) (Ty.pair (Ty.int IntKind.i64) (Ty.pair (Ty.int IntKind.i64) (Ty.int IntKind.i64)))) }]
noncomputable def q_impl_testEnds : List PK := [{ t := Ty.pair (Ty.int IntKind.i64) (Ty.pair (Ty.int IntKind.i64) (Ty.slice (116 : Nat) (Ty.pair (Ty.int IntKind.i64) (Ty.int IntKind.i64)))), agg := true }, { t := Ty.slice (83 : Nat) (Ty.pair (Ty.int IntKind.i64) (Ty.pair (Ty.int IntKind.i64) (Ty.int IntKind.i64))) }, { t := Ty.slice (25 : Nat) (Ty.slice (3 : Nat) (Ty.int IntKind.i64)) }]
noncomputable def to_impl_testEnds (r : List (List (Int × Int × Int))) : Tup r_impl_testEnds × OutD := ((r, ()), none)
noncomputable def of_impl_testEnds : Tup r_impl_testEnds × OutD → Option (List (List (Int × Int × Int)))
  | (a, none) => some (a.1)
  | _ => none
theorem to_of_impl_testEnds : ∀ b r, of_impl_testEnds b = some r → to_impl_testEnds r = b := by
  rintro ⟨a, o⟩ r h
  cases o with
  | none => injection h with h; subst h; rfl
  | some _ => cases h
noncomputable def f_impl_testEnds_0 : Nat → Int → Int → List (Int × Int) → List (List (Int × Int × Int)) → List (Int × Int × Int) → List (List Int) → Int → Int → Option (List (List (Int × Int × Int)))
  | 0, _, _, _, _, _, _, _, _ => none
  | k + 1, b1_0, b1_1, b1_2, o2, v1, v13, v14, v15 =>
    if decide (v15 < v14) = true then if (0 : Int) ≤ v15 then if v15 < (↑(List.length v13) : Int) then Option.bind (f_impl_faultyDrops k (b1_0, b1_1, b1_2) v1 (List.getD v13 (Int.toNat v15) [])) fun z0 => if List.length o2 + List.length [Prod.fst z0] ≤ (140737488355328 / 24 : Nat) then f_impl_testEnds_0 k b1_0 b1_1 b1_2 (o2 ++ [Prod.fst z0]) v1 v13 v14 (wrap64 (v15 + (1 : Int))) else none else none else none else some o2
noncomputable def f_impl_testEnds_0i : Spec := { objs := [OSh.ro, OSh.box (32 : Nat) [Sh.int IntKind.i64, Sh.int IntKind.i64, Sh.snap (0 : Nat) (Ty.pair (Ty.int IntKind.i64) (Ty.int IntKind.i64))], OSh.row true (45 : Nat) (Ty.slice (91 : Nat) (Ty.pair (Ty.int IntKind.i64) (Ty.pair (Ty.int IntKind.i64) (Ty.int IntKind.i64))))], tmps := [((1 : Nat), TSh.at (Sh.snap (0 : Nat) (Ty.pair (Ty.int IntKind.i64) (Ty.pair (Ty.int IntKind.i64) (Ty.int IntKind.i64))))), ((3 : Nat), TSh.at (Sh.ptr (1 : Nat) (0 : Nat))), ((7 : Nat), TSh.at (Sh.sl (2 : Nat))), ((13 : Nat), TSh.at (Sh.snap (0 : Nat) (Ty.slice (3 : Nat) (Ty.int IntKind.i64)))), ((14 : Nat), TSh.at (Sh.int IntKind.i64)), ((15 : Nat), TSh.at (Sh.int IntKind.i64))] }
noncomputable def f_impl_testEnds_0o : Spec := { objs := [OSh.ro, OSh.row true (45 : Nat) (Ty.slice (91 : Nat) (Ty.pair (Ty.int IntKind.i64) (Ty.pair (Ty.int IntKind.i64) (Ty.int IntKind.i64))))], tmps := [((7 : Nat), TSh.at (Sh.sl (1 : Nat)))] }
noncomputable def f_impl_testEnds_0D : LoopDef (Tup r_impl_testEnds × OutD) := .plain f_impl_testEnds_0i f_impl_testEnds_0o (List (List (Int × Int × Int))) (fun k x => f_impl_testEnds_0 k x.1.2.1.1 x.1.2.1.2.1 x.1.2.1.2.2.1 x.1.2.2.1 x.2.1 x.2.2.2.2.1 x.2.2.2.2.2.1 x.2.2.2.2.2.2.1) (fun z => (((), z, ()), ((), ()))) (fun y => (y.1.2.1)) (fun _ => rfl)
noncomputable def f_impl_testEnds : Nat → Int × Int × List (Int × Int) → List (Int × Int × Int) → List (List Int) → Option (List (List (Int × Int × Int)))
  | 0, _, _, _ => none
  | k + 1, p0, p1, p2 =>
    Option.bind (f_impl_testEnds_0 k (Prod.fst p0) (Prod.fst (Prod.snd p0)) (Prod.snd (Prod.snd p0)) [] p1 p2 (↑(List.length p2) : Int) (0 : Int)) fun z1 => some z1
noncomputable def d_impl_testEnds : FnDef := .of q_impl_testEnds r_impl_testEnds (List (List (Int × Int × Int))) (fun k x => f_impl_testEnds k x.1 x.2.1 x.2.2.1) to_impl_testEnds of_impl_testEnds to_of_impl_testEnds
noncomputable def c_impl_testEnds : Code := Try.f88.body.getD .skip
noncomputable def x_impl_testEnds : Ctx (Tup r_impl_testEnds × OutD) := { T := T, G := [(111, d_impl_faultyDrops.E)], mvs := [], no := 0, n := 32, res := resOf T q_impl_testEnds r_impl_testEnds Try.f88.results.toList, loops := [(0, f_impl_testEnds_0D.E)], regs := [], conds := [] }
theorem g_impl_testEnds (k : Nat) : EnvOK Try.prog k x_impl_testEnds.G := (EnvOK.cons (s_impl_faultyDrops k) (EnvOK.nil mixed))
noncomputable def f_impl_testEnds_0B : Code := (findLoop 0 c_impl_testEnds).getD .skip
theorem f_impl_testEnds_0h (k : Nat) (x : f_impl_testEnds_0i.D) : f_impl_testEnds_0D.lp (k + 1) x = loopK x_impl_testEnds f_impl_testEnds_0D 0 f_impl_testEnds_0B k x := by kernel_rfl
theorem f_impl_testEnds_0l (k : Nat) : LOK Try.prog x_impl_testEnds k f_impl_testEnds_0B := LOK.by [] (by kernel_rfl) AllOK.nil
theorem f_impl_testEnds_0z (x : f_impl_testEnds_0i.D) : f_impl_testEnds_0D.lp 0 x = none := by kernel_rfl
theorem f_impl_testEnds_0ok (k : Nat) : EOK Try.prog x_impl_testEnds k f_impl_testEnds_0D.E (.block 0 (.loop f_impl_testEnds_0B)) := loop_ok T_ok g_impl_testEnds f_impl_testEnds_0z f_impl_testEnds_0h f_impl_testEnds_0l k
theorem h_impl_testEnds (k : Nat) (x : Tup d_impl_testEnds.ps) : d_impl_testEnds.f (k + 1) x = fnK d_impl_testEnds x_impl_testEnds c_impl_testEnds k x := by kernel_rfl
theorem z_impl_testEnds (x : Tup d_impl_testEnds.ps) : d_impl_testEnds.f 0 x = none := by kernel_rfl
theorem l_impl_testEnds (k : Nat) : LOK Try.prog x_impl_testEnds k c_impl_testEnds := LOK.by [(f_impl_testEnds_0D.E, .block 0 (.loop f_impl_testEnds_0B))] (by kernel_rfl) (AllOK.cons (f_impl_testEnds_0ok k) AllOK.nil)
theorem s_impl_testEnds (k : Nat) : SoundAt Try.prog k 88 d_impl_testEnds.E := @fn_all Try.prog d_impl_testEnds x_impl_testEnds 88 Try.f88 c_impl_testEnds (by kernel_rfl) (by kernel_rfl) (by kernel_rfl) Try.func88 (by kernel_rfl) (by kernel_rfl) (by kernel_rfl) T_ok g_impl_testEnds l_impl_testEnds z_impl_testEnds h_impl_testEnds k
/-! function 106 -/
/-! function 115 -/
/-! function 116 -/
end
end Go.Proofs.Ytgpmbmnfcbippaa.Vs
