/- Functions of the program by plain functions, each with its contract. -/
import Derived.Test.YtgpmbmnfcbippaaqsuaVsT
import Derived.Test.YtgpmbmnfcbippaaqsuaVg0
import Derived.Test.YtgpmbmnfcbippaaqsuaVg1
import Derived.Test.YtgpmbmnfcbippaaqsuaVg2
import Derived.Test.YtgpmbmnfcbippaaqsuaVg3
set_option maxRecDepth 100000
set_option linter.unusedVariables false
set_option linter.unusedSimpArgs false
namespace Go.Proofs.Ytgpmbmnfcbippaa.Vs
open Go.RowKit
noncomputable section
/-! function 66 -/
/-! function 70 -/
noncomputable def r_spec_dgGood : List PK := [{ t := Ty.bool }]
noncomputable def q_spec_dgGood : List PK := [{ t := Ty.pair (Ty.int IntKind.i64) (Ty.pair (Ty.int IntKind.i64) (Ty.slice (116 : Nat) (Ty.pair (Ty.int IntKind.i64) (Ty.int IntKind.i64)))), agg := true }, { t := Ty.slice (3 : Nat) (Ty.int IntKind.i64) }, { t := Ty.slice (91 : Nat) (Ty.pair (Ty.int IntKind.i64) (Ty.pair (Ty.int IntKind.i64) (Ty.int IntKind.i64))) }]
noncomputable def to_spec_dgGood (r : Bool) : Tup r_spec_dgGood × OutD := ((r, ()), none)
noncomputable def of_spec_dgGood : Tup r_spec_dgGood × OutD → Option (Bool)
  | (a, none) => some (a.1)
  | _ => none
theorem to_of_spec_dgGood : ∀ b r, of_spec_dgGood b = some r → to_spec_dgGood r = b := by
  rintro ⟨a, o⟩ r h
  cases o with
  | none => injection h with h; subst h; rfl
  | some _ => cases h
noncomputable def f_spec_dgGood_0 : Nat → Int → Int → List (Int × Int) → List (Int × Int × Int) → Int → Int → Option (LR Unit Bool)
  | 0, _, _, _, _, _, _ => none
  | k + 1, b1_0, b1_1, b1_2, v32, v33, v34 =>
    if decide (v34 < v33) = true then if (0 : Int) ≤ v34 then if v34 < (↑(List.length v32) : Int) then Option.bind (f_spec_l1In k (Prod.fst (List.getD v32 (Int.toNat v34) ((0 : Int), (0 : Int), (0 : Int)))) (1 : Int) (3 : Int)) fun z2 => if (!z2) = true then some (LR.ret false) else Option.bind (f_spec_l1In k (Prod.fst (Prod.snd (List.getD v32 (Int.toNat v34) ((0 : Int), (0 : Int), (0 : Int))))) (0 : Int) b1_0) fun z3 => if (!z3) = true then some (LR.ret false) else Option.bind (f_spec_l1In k (Prod.snd (Prod.snd (List.getD v32 (Int.toNat v34) ((0 : Int), (0 : Int), (0 : Int))))) (-1 : Int) b1_1) fun z4 => if (!z4) = true then some (LR.ret false) else f_spec_dgGood_0 k b1_0 b1_1 b1_2 v32 v33 (wrap64 (v34 + (1 : Int))) else none else none else some (LR.go ())
noncomputable def f_spec_dgGood_0i : Spec := { objs := [OSh.ro, OSh.box (32 : Nat) [Sh.int IntKind.i64, Sh.int IntKind.i64, Sh.snap (0 : Nat) (Ty.pair (Ty.int IntKind.i64) (Ty.int IntKind.i64))]], tmps := [((3 : Nat), TSh.at (Sh.ptr (1 : Nat) (0 : Nat))), ((32 : Nat), TSh.at (Sh.snap (0 : Nat) (Ty.pair (Ty.int IntKind.i64) (Ty.pair (Ty.int IntKind.i64) (Ty.int IntKind.i64))))), ((33 : Nat), TSh.at (Sh.int IntKind.i64)), ((34 : Nat), TSh.at (Sh.int IntKind.i64))] }
noncomputable def f_spec_dgGood_0o : Spec := { objs := [OSh.ro], tmps := [] }
noncomputable def f_spec_dgGood_0D : LoopDef (Tup r_spec_dgGood × OutD) := .rets f_spec_dgGood_0i f_spec_dgGood_0o (Unit) (Bool) (fun k x => f_spec_dgGood_0 k x.1.2.1.1 x.1.2.1.2.1 x.1.2.1.2.2.1 x.2.2.1 x.2.2.2.1 x.2.2.2.2.1) (fun z => (((), ()), (()))) (fun y => ()) (fun _ => rfl) to_spec_dgGood of_spec_dgGood to_of_spec_dgGood
noncomputable def f_spec_dgGood : Nat → Int × Int × List (Int × Int) → List Int → List (Int × Int × Int) → Option Bool
  | 0, _, _, _ => none
  | k + 1, p0, p1, p2 =>
    Option.bind (f_spec_dgBoard k (Prod.fst p0, Prod.fst (Prod.snd p0), Prod.snd (Prod.snd p0))) fun z0 => if (!z0) = true then some false else if decide ((↑(List.length p1) : Int) > (20 : Int)) = true then some false else Option.bind (f_spec_l1All k p1 (0 : Int) (wrap64 (Prod.fst (Prod.snd p0) - (1 : Int)))) fun z1 => if (!z1) = true then some false else if decide ((↑(List.length p2) : Int) ≠ (↑(List.length p1) : Int)) = true then some false else Option.bind (f_spec_dgGood_0 k (Prod.fst p0) (Prod.fst (Prod.snd p0)) (Prod.snd (Prod.snd p0)) p2 (↑(List.length p2) : Int) (0 : Int)) fun z5 => LR.on z5 (fun y5 => some true) fun r5 => some r5
noncomputable def d_spec_dgGood : FnDef := .of q_spec_dgGood r_spec_dgGood (Bool) (fun k x => f_spec_dgGood k x.1 x.2.1 x.2.2.1) to_spec_dgGood of_spec_dgGood to_of_spec_dgGood
noncomputable def c_spec_dgGood : Code := Try.f70.body.getD .skip
noncomputable def x_spec_dgGood : Ctx (Tup r_spec_dgGood × OutD) := { T := T, G := [(113, d_spec_dgBoard.E), (104, d_spec_l1All.E), (114, d_spec_l1In.E)], mvs := [], no := 0, n := 59, res := resOf T q_spec_dgGood r_spec_dgGood Try.f70.results.toList, loops := [(0, f_spec_dgGood_0D.E)], regs := [], conds := [] }
theorem g_spec_dgGood (k : Nat) : EnvOK Try.prog k x_spec_dgGood.G := (EnvOK.cons (s_spec_dgBoard k) (EnvOK.cons (s_spec_l1All k) (EnvOK.cons (s_spec_l1In k) (EnvOK.nil mixed))))
noncomputable def f_spec_dgGood_0B : Code := (findLoop 0 c_spec_dgGood).getD .skip
theorem f_spec_dgGood_0h (k : Nat) (x : f_spec_dgGood_0i.D) : f_spec_dgGood_0D.lp (k + 1) x = loopK x_spec_dgGood f_spec_dgGood_0D 0 f_spec_dgGood_0B k x := by kernel_rfl
theorem f_spec_dgGood_0l (k : Nat) : LOK Try.prog x_spec_dgGood k f_spec_dgGood_0B := LOK.by [] (by kernel_rfl) AllOK.nil
theorem f_spec_dgGood_0z (x : f_spec_dgGood_0i.D) : f_spec_dgGood_0D.lp 0 x = none := by kernel_rfl
theorem f_spec_dgGood_0ok (k : Nat) : EOK Try.prog x_spec_dgGood k f_spec_dgGood_0D.E (.block 0 (.loop f_spec_dgGood_0B)) := loop_ok T_ok g_spec_dgGood f_spec_dgGood_0z f_spec_dgGood_0h f_spec_dgGood_0l k
theorem h_spec_dgGood (k : Nat) (x : Tup d_spec_dgGood.ps) : d_spec_dgGood.f (k + 1) x = fnK d_spec_dgGood x_spec_dgGood c_spec_dgGood k x := by kernel_rfl
theorem z_spec_dgGood (x : Tup d_spec_dgGood.ps) : d_spec_dgGood.f 0 x = none := by kernel_rfl
theorem l_spec_dgGood (k : Nat) : LOK Try.prog x_spec_dgGood k c_spec_dgGood := LOK.by [(f_spec_dgGood_0D.E, .block 0 (.loop f_spec_dgGood_0B))] (by kernel_rfl) (AllOK.cons (f_spec_dgGood_0ok k) AllOK.nil)
theorem s_spec_dgGood (k : Nat) : SoundAt Try.prog k 70 d_spec_dgGood.E := @fn_all Try.prog d_spec_dgGood x_spec_dgGood 70 Try.f70 c_spec_dgGood (by kernel_rfl) (by kernel_rfl) (by kernel_rfl) Try.func70 (by kernel_rfl) (by kernel_rfl) (by kernel_rfl) T_ok g_spec_dgGood l_spec_dgGood z_spec_dgGood h_spec_dgGood k
/-! function 73 -/
noncomputable def r_impl_isSeen : List PK := [{ t := Ty.bool }]
noncomputable def q_impl_isSeen : List PK := [{ t := Ty.pair (Ty.int IntKind.i64) (Ty.pair (Ty.int IntKind.i64) (Ty.slice (116 : Nat) (Ty.pair (Ty.int IntKind.i64) (Ty.int IntKind.i64)))), agg := true }, { t := Ty.slice (3 : Nat) (Ty.int IntKind.i64) }, { t := Ty.slice (91 : Nat) (Ty.pair (Ty.int IntKind.i64) (Ty.pair (Ty.int IntKind.i64) (Ty.int IntKind.i64))) }]
noncomputable def to_impl_isSeen (r : Bool) : Tup r_impl_isSeen × OutD := ((r, ()), none)
noncomputable def of_impl_isSeen : Tup r_impl_isSeen × OutD → Option (Bool)
  | (a, none) => some (a.1)
  | _ => none
theorem to_of_impl_isSeen : ∀ b r, of_impl_isSeen b = some r → to_impl_isSeen r = b := by
  rintro ⟨a, o⟩ r h
  cases o with
  | none => injection h with h; subst h; rfl
  | some _ => cases h
noncomputable def f_impl_isSeen_0 : Nat → Int → Int → List (Int × Int) → List (Int × Int × Int) → Int → Int → Option (LR Unit Bool)
  | 0, _, _, _, _, _, _ => none
  | k + 1, b1_0, b1_1, b1_2, v31, v32, v33 =>
    if decide (v33 < v32) = true then if (0 : Int) ≤ v33 then if v33 < (↑(List.length v31) : Int) then if decide (Prod.fst (List.getD v31 (Int.toNat v33) ((0 : Int), (0 : Int), (0 : Int))) < (1 : Int)) = true then some (LR.ret false) else if decide (Prod.fst (List.getD v31 (Int.toNat v33) ((0 : Int), (0 : Int), (0 : Int))) > (3 : Int)) = true then some (LR.ret false) else if decide (Prod.fst (Prod.snd (List.getD v31 (Int.toNat v33) ((0 : Int), (0 : Int), (0 : Int)))) < (0 : Int)) = true then some (LR.ret false) else if decide (Prod.fst (Prod.snd (List.getD v31 (Int.toNat v33) ((0 : Int), (0 : Int), (0 : Int)))) > b1_0) = true then some (LR.ret false) else if decide (Prod.snd (Prod.snd (List.getD v31 (Int.toNat v33) ((0 : Int), (0 : Int), (0 : Int)))) < (-1 : Int)) = true then some (LR.ret false) else if decide (Prod.snd (Prod.snd (List.getD v31 (Int.toNat v33) ((0 : Int), (0 : Int), (0 : Int)))) > b1_1) = true then some (LR.ret false) else f_impl_isSeen_0 k b1_0 b1_1 b1_2 v31 v32 (wrap64 (v33 + (1 : Int))) else none else none else some (LR.go ())
noncomputable def f_impl_isSeen_0i : Spec := { objs := [OSh.ro, OSh.box (32 : Nat) [Sh.int IntKind.i64, Sh.int IntKind.i64, Sh.snap (0 : Nat) (Ty.pair (Ty.int IntKind.i64) (Ty.int IntKind.i64))]], tmps := [((3 : Nat), TSh.at (Sh.ptr (1 : Nat) (0 : Nat))), ((31 : Nat), TSh.at (Sh.snap (0 : Nat) (Ty.pair (Ty.int IntKind.i64) (Ty.pair (Ty.int IntKind.i64) (Ty.int IntKind.i64))))), ((32 : Nat), TSh.at (Sh.int IntKind.i64)), ((33 : Nat), TSh.at (Sh.int IntKind.i64))] }
noncomputable def f_impl_isSeen_0o : Spec := { objs := [OSh.ro], tmps := [] }
noncomputable def f_impl_isSeen_0D : LoopDef (Tup r_impl_isSeen × OutD) := .rets f_impl_isSeen_0i f_impl_isSeen_0o (Unit) (Bool) (fun k x => f_impl_isSeen_0 k x.1.2.1.1 x.1.2.1.2.1 x.1.2.1.2.2.1 x.2.2.1 x.2.2.2.1 x.2.2.2.2.1) (fun z => (((), ()), (()))) (fun y => ()) (fun _ => rfl) to_impl_isSeen of_impl_isSeen to_of_impl_isSeen
noncomputable def f_impl_isSeen : Nat → Int × Int × List (Int × Int) → List Int → List (Int × Int × Int) → Option Bool
  | 0, _, _, _ => none
  | k + 1, p0, p1, p2 =>
    Option.bind (f_impl_validEntries k (Prod.fst p0, Prod.fst (Prod.snd p0), Prod.snd (Prod.snd p0)) p1) fun z0 => if (!z0) = true then some false else if decide ((↑(List.length (Prod.snd (Prod.snd p0))) : Int) > (24 : Int)) = true then some false else if decide ((↑(List.length p1) : Int) > (20 : Int)) = true then some false else if decide ((↑(List.length p2) : Int) ≠ (↑(List.length p1) : Int)) = true then some false else Option.bind (f_impl_isSeen_0 k (Prod.fst p0) (Prod.fst (Prod.snd p0)) (Prod.snd (Prod.snd p0)) p2 (↑(List.length p2) : Int) (0 : Int)) fun z1 => LR.on z1 (fun y1 => some true) fun r1 => some r1
noncomputable def d_impl_isSeen : FnDef := .of q_impl_isSeen r_impl_isSeen (Bool) (fun k x => f_impl_isSeen k x.1 x.2.1 x.2.2.1) to_impl_isSeen of_impl_isSeen to_of_impl_isSeen
noncomputable def c_impl_isSeen : Code := Try.f73.body.getD .skip
noncomputable def x_impl_isSeen : Ctx (Tup r_impl_isSeen × OutD) := { T := T, G := [(64, d_impl_validEntries.E)], mvs := [], no := 0, n := 70, res := resOf T q_impl_isSeen r_impl_isSeen Try.f73.results.toList, loops := [(0, f_impl_isSeen_0D.E)], regs := [], conds := [] }
theorem g_impl_isSeen (k : Nat) : EnvOK Try.prog k x_impl_isSeen.G := (EnvOK.cons (s_impl_validEntries k) (EnvOK.nil mixed))
noncomputable def f_impl_isSeen_0B : Code := (findLoop 0 c_impl_isSeen).getD .skip
theorem f_impl_isSeen_0h (k : Nat) (x : f_impl_isSeen_0i.D) : f_impl_isSeen_0D.lp (k + 1) x = loopK x_impl_isSeen f_impl_isSeen_0D 0 f_impl_isSeen_0B k x := by kernel_rfl
theorem f_impl_isSeen_0l (k : Nat) : LOK Try.prog x_impl_isSeen k f_impl_isSeen_0B := LOK.by [] (by kernel_rfl) AllOK.nil
theorem f_impl_isSeen_0z (x : f_impl_isSeen_0i.D) : f_impl_isSeen_0D.lp 0 x = none := by kernel_rfl
theorem f_impl_isSeen_0ok (k : Nat) : EOK Try.prog x_impl_isSeen k f_impl_isSeen_0D.E (.block 0 (.loop f_impl_isSeen_0B)) := loop_ok T_ok g_impl_isSeen f_impl_isSeen_0z f_impl_isSeen_0h f_impl_isSeen_0l k
theorem h_impl_isSeen (k : Nat) (x : Tup d_impl_isSeen.ps) : d_impl_isSeen.f (k + 1) x = fnK d_impl_isSeen x_impl_isSeen c_impl_isSeen k x := by kernel_rfl
theorem z_impl_isSeen (x : Tup d_impl_isSeen.ps) : d_impl_isSeen.f 0 x = none := by kernel_rfl
theorem l_impl_isSeen (k : Nat) : LOK Try.prog x_impl_isSeen k c_impl_isSeen := LOK.by [(f_impl_isSeen_0D.E, .block 0 (.loop f_impl_isSeen_0B))] (by kernel_rfl) (AllOK.cons (f_impl_isSeen_0ok k) AllOK.nil)
theorem s_impl_isSeen (k : Nat) : SoundAt Try.prog k 73 d_impl_isSeen.E := @fn_all Try.prog d_impl_isSeen x_impl_isSeen 73 Try.f73 c_impl_isSeen (by kernel_rfl) (by kernel_rfl) (by kernel_rfl) Try.func73 (by kernel_rfl) (by kernel_rfl) (by kernel_rfl) T_ok g_impl_isSeen l_impl_isSeen z_impl_isSeen h_impl_isSeen k
/-! function 82 -/
/-! function 84 -/
/-! function 86 -/
/-! function 87 -/
/-! function 88 -/
/-! function 106 -/
/-! function 115 -/
noncomputable def r_spec_dgExplains : List PK := [{ t := Ty.bool }]
noncomputable def q_spec_dgExplains : List PK := [{ t := Ty.pair (Ty.int IntKind.i64) (Ty.pair (Ty.int IntKind.i64) (Ty.slice (116 : Nat) (Ty.pair (Ty.int IntKind.i64) (Ty.int IntKind.i64)))), agg := true }, { t := Ty.slice (83 : Nat) (Ty.pair (Ty.int IntKind.i64) (Ty.pair (Ty.int IntKind.i64) (Ty.int IntKind.i64))) }, { t := Ty.slice (3 : Nat) (Ty.int IntKind.i64) }, { t := Ty.slice (91 : Nat) (Ty.pair (Ty.int IntKind.i64) (Ty.pair (Ty.int IntKind.i64) (Ty.int IntKind.i64))) }]
noncomputable def to_spec_dgExplains (r : Bool) : Tup r_spec_dgExplains × OutD := ((r, ()), none)
noncomputable def of_spec_dgExplains : Tup r_spec_dgExplains × OutD → Option (Bool)
  | (a, none) => some (a.1)
  | _ => none
theorem to_of_spec_dgExplains : ∀ b r, of_spec_dgExplains b = some r → to_spec_dgExplains r = b := by
  rintro ⟨a, o⟩ r h
  cases o with
  | none => injection h with h; subst h; rfl
  | some _ => cases h
noncomputable def f_spec_dgExplains : Nat → Int × Int × List (Int × Int) → List (Int × Int × Int) → List Int → List (Int × Int × Int) → Option Bool
  | 0, _, _, _, _ => none
  | k + 1, p0, p1, p2, p3 =>
    Option.bind (f_spec_faAll k (Prod.fst p0, Prod.fst (Prod.snd p0), Prod.snd (Prod.snd p0)) p1 p2) fun z0 => Option.bind (f_spec_faSame k (Prod.fst z0) p3) fun z1 => some (decide (z1 < (0 : Int)))
noncomputable def d_spec_dgExplains : FnDef := .of q_spec_dgExplains r_spec_dgExplains (Bool) (fun k x => f_spec_dgExplains k x.1 x.2.1 x.2.2.1 x.2.2.2.1) to_spec_dgExplains of_spec_dgExplains to_of_spec_dgExplains
noncomputable def c_spec_dgExplains : Code := Try.f115.body.getD .skip
noncomputable def x_spec_dgExplains : Ctx (Tup r_spec_dgExplains × OutD) := { T := T, G := [(122, d_spec_faAll.E), (100, d_spec_faSame.E)], mvs := [], no := 0, n := 22, res := resOf T q_spec_dgExplains r_spec_dgExplains Try.f115.results.toList, loops := [], regs := [], conds := [] }
theorem g_spec_dgExplains (k : Nat) : EnvOK Try.prog k x_spec_dgExplains.G := (EnvOK.cons (s_spec_faAll k) (EnvOK.cons (s_spec_faSame k) (EnvOK.nil mixed)))
theorem h_spec_dgExplains (k : Nat) (x : Tup d_spec_dgExplains.ps) : d_spec_dgExplains.f (k + 1) x = fnK d_spec_dgExplains x_spec_dgExplains c_spec_dgExplains k x := by kernel_rfl
theorem z_spec_dgExplains (x : Tup d_spec_dgExplains.ps) : d_spec_dgExplains.f 0 x = none := by kernel_rfl
theorem l_spec_dgExplains (k : Nat) : LOK Try.prog x_spec_dgExplains k c_spec_dgExplains := LOK.by [] (by kernel_rfl) AllOK.nil
theorem s_spec_dgExplains (k : Nat) : SoundAt Try.prog k 115 d_spec_dgExplains.E := @fn_all Try.prog d_spec_dgExplains x_spec_dgExplains 115 Try.f115 c_spec_dgExplains (by kernel_rfl) (by kernel_rfl) (by kernel_rfl) Try.func115 (by kernel_rfl) (by kernel_rfl) (by kernel_rfl) T_ok g_spec_dgExplains l_spec_dgExplains z_spec_dgExplains h_spec_dgExplains k
/-! function 116 -/
noncomputable def r_impl_explainsEnds : List PK := [{ t := Ty.bool }]
noncomputable def q_impl_explainsEnds : List PK := [{ t := Ty.pair (Ty.int IntKind.i64) (Ty.pair (Ty.int IntKind.i64) (Ty.slice (116 : Nat) (Ty.pair (Ty.int IntKind.i64) (Ty.int IntKind.i64)))), agg := true }, { t := Ty.slice (83 : Nat) (Ty.pair (Ty.int IntKind.i64) (Ty.pair (Ty.int IntKind.i64) (Ty.int IntKind.i64))) }, { t := Ty.slice (3 : Nat) (Ty.int IntKind.i64) }, { t := Ty.slice (91 : Nat) (Ty.pair (Ty.int IntKind.i64) (Ty.pair (Ty.int IntKind.i64) (Ty.int IntKind.i64))) }]
noncomputable def to_impl_explainsEnds (r : Bool) : Tup r_impl_explainsEnds × OutD := ((r, ()), none)
noncomputable def of_impl_explainsEnds : Tup r_impl_explainsEnds × OutD → Option (Bool)
  | (a, none) => some (a.1)
  | _ => none
theorem to_of_impl_explainsEnds : ∀ b r, of_impl_explainsEnds b = some r → to_impl_explainsEnds r = b := by
  rintro ⟨a, o⟩ r h
  cases o with
  | none => injection h with h; subst h; rfl
  | some _ => cases h
noncomputable def f_impl_explainsEnds : Nat → Int × Int × List (Int × Int) → List (Int × Int × Int) → List Int → List (Int × Int × Int) → Option Bool
  | 0, _, _, _, _ => none
  | k + 1, p0, p1, p2, p3 =>
    Option.bind (f_impl_faultyDrops k (Prod.fst p0, Prod.fst (Prod.snd p0), Prod.snd (Prod.snd p0)) p1 p2) fun z0 => Option.bind (f_slices_Equal_impl_Fall_impl_Fall k (Prod.fst z0) p3) fun z1 => some z1
noncomputable def d_impl_explainsEnds : FnDef := .of q_impl_explainsEnds r_impl_explainsEnds (Bool) (fun k x => f_impl_explainsEnds k x.1 x.2.1 x.2.2.1 x.2.2.2.1) to_impl_explainsEnds of_impl_explainsEnds to_of_impl_explainsEnds
noncomputable def c_impl_explainsEnds : Code := Try.f116.body.getD .skip
noncomputable def x_impl_explainsEnds : Ctx (Tup r_impl_explainsEnds × OutD) := { T := T, G := [(111, d_impl_faultyDrops.E), (101, d_slices_Equal_impl_Fall_impl_Fall.E)], mvs := [], no := 0, n := 21, res := resOf T q_impl_explainsEnds r_impl_explainsEnds Try.f116.results.toList, loops := [], regs := [], conds := [] }
theorem g_impl_explainsEnds (k : Nat) : EnvOK Try.prog k x_impl_explainsEnds.G := (EnvOK.cons (s_impl_faultyDrops k) (EnvOK.cons (s_slices_Equal_impl_Fall_impl_Fall k) (EnvOK.nil mixed)))
theorem h_impl_explainsEnds (k : Nat) (x : Tup d_impl_explainsEnds.ps) : d_impl_explainsEnds.f (k + 1) x = fnK d_impl_explainsEnds x_impl_explainsEnds c_impl_explainsEnds k x := by kernel_rfl
theorem z_impl_explainsEnds (x : Tup d_impl_explainsEnds.ps) : d_impl_explainsEnds.f 0 x = none := by kernel_rfl
theorem l_impl_explainsEnds (k : Nat) : LOK Try.prog x_impl_explainsEnds k c_impl_explainsEnds := LOK.by [] (by kernel_rfl) AllOK.nil
theorem s_impl_explainsEnds (k : Nat) : SoundAt Try.prog k 116 d_impl_explainsEnds.E := @fn_all Try.prog d_impl_explainsEnds x_impl_explainsEnds 116 Try.f116 c_impl_explainsEnds (by kernel_rfl) (by kernel_rfl) (by kernel_rfl) Try.func116 (by kernel_rfl) (by kernel_rfl) (by kernel_rfl) T_ok g_impl_explainsEnds l_impl_explainsEnds z_impl_explainsEnds h_impl_explainsEnds k
end
end Go.Proofs.Ytgpmbmnfcbippaa.Vs
