/- The proof, part 5. -/
import Derived.Test.Ytgjmhbjdhihgaaaqfm3
set_option maxRecDepth 100000
set_option maxHeartbeats 2000000
set_option linter.unusedVariables false
set_option linter.unusedSimpArgs false
namespace Go.Proofs.Ytgjmhbjdhihgaaa.Vs
open Go.RowKit
noncomputable section
/-! function 8 -/
/-! function 16 -/
/-! function 31 -/
/-! function 32 -/
/-! function 49 -/
noncomputable def r_laws_qFalls : List PK := [PK.mk Ty.bool false none false none]
noncomputable def q_laws_qFalls : List PK := [PK.mk (Ty.slice (63 : Nat) (Ty.pair (Ty.int IntKind.i64) (Ty.pair (Ty.int IntKind.i64) (Ty.int IntKind.i64)))) false none false none, PK.mk (Ty.slice (63 : Nat) (Ty.pair (Ty.int IntKind.i64) (Ty.pair (Ty.int IntKind.i64) (Ty.int IntKind.i64)))) false none false none]
noncomputable def to_laws_qFalls (r : Bool) : Tup r_laws_qFalls × OutD := ((r, ()), none)
noncomputable def of_laws_qFalls : Tup r_laws_qFalls × OutD → Option (Bool)
  | (a, none) => some (a.1)
  | _ => none
theorem to_of_laws_qFalls : ∀ b r, of_laws_qFalls b = some r → to_laws_qFalls r = b := by
  rintro ⟨a, o⟩ r h
  cases o with
  | none => injection h with h; subst h; rfl
  | some _ => cases h
noncomputable def f_laws_qFalls_0 : Nat → List (Int × Int × Int) → List (Int × Int × Int) → Int → Int → Option (LR Unit Bool)
  | 0, _, _, _, _ => none
  | k + 1, v0, v1, v12, v13 =>
    if decide (v13 < v12) = true then if (0 : Int) ≤ v13 then if v13 < (↑(List.length v0) : Int) then if (0 : Int) ≤ v13 then if v13 < (↑(List.length v1) : Int) then if (!(decide (Prod.fst (List.getD v0 (Int.toNat v13) ((0 : Int), (0 : Int), (0 : Int))) = Prod.fst (List.getD v1 (Int.toNat v13) ((0 : Int), (0 : Int), (0 : Int)))) && (decide (Prod.fst (Prod.snd (List.getD v0 (Int.toNat v13) ((0 : Int), (0 : Int), (0 : Int)))) = Prod.fst (Prod.snd (List.getD v1 (Int.toNat v13) ((0 : Int), (0 : Int), (0 : Int))))) && (decide (Prod.snd (Prod.snd (List.getD v0 (Int.toNat v13) ((0 : Int), (0 : Int), (0 : Int)))) = Prod.snd (Prod.snd (List.getD v1 (Int.toNat v13) ((0 : Int), (0 : Int), (0 : Int))))) && true)))) = true then some (LR.ret false) else f_laws_qFalls_0 k v0 v1 v12 (wrap64 (v13 + (1 : Int))) else none else none else none else none else some (LR.go ())
noncomputable def f_laws_qFalls_0i : Spec := Spec.mk [OSh.ro] [((0 : Nat), TSh.at (Sh.snap (0 : Nat) (Ty.pair (Ty.int IntKind.i64) (Ty.pair (Ty.int IntKind.i64) (Ty.int IntKind.i64))))), ((1 : Nat), TSh.at (Sh.snap (0 : Nat) (Ty.pair (Ty.int IntKind.i64) (Ty.pair (Ty.int IntKind.i64) (Ty.int IntKind.i64))))), ((12 : Nat), TSh.at (Sh.int IntKind.i64)), ((13 : Nat), TSh.at (Sh.int IntKind.i64))]
noncomputable def f_laws_qFalls_0o : Spec := Spec.mk [OSh.ro] []
noncomputable def f_laws_qFalls_0D : LoopDef (Tup r_laws_qFalls × OutD) := .rets f_laws_qFalls_0i f_laws_qFalls_0o (Unit) (Bool) (fun k x => f_laws_qFalls_0 k x.2.1 x.2.2.1 x.2.2.2.1 x.2.2.2.2.1) (fun z => (((), ()), (()))) (fun y => ()) (fun _ => rfl) to_laws_qFalls of_laws_qFalls to_of_laws_qFalls
noncomputable def f_laws_qFalls : Nat → List (Int × Int × Int) → List (Int × Int × Int) → Option Bool
  | 0, _, _ => none
  | k + 1, p0, p1 =>
    if decide ((↑(List.length p0) : Int) ≠ (↑(List.length p1) : Int)) = true then some false else Option.bind (f_laws_qFalls_0 k p0 p1 (↑(List.length p0) : Int) (0 : Int)) fun z0 => LR.on z0 (fun y0 => some true) fun r0 => some r0
noncomputable def d_laws_qFalls : FnDef := .of q_laws_qFalls r_laws_qFalls (Bool) (fun k x => f_laws_qFalls k x.1 x.2.1) to_laws_qFalls of_laws_qFalls to_of_laws_qFalls
noncomputable def c_laws_qFalls : Code := Try.f49.body.getD .skip
noncomputable def x_laws_qFalls : Ctx (Tup r_laws_qFalls × OutD) := { T := T, G := [], mvs := [], no := 0, n := 26, res := resOf T q_laws_qFalls r_laws_qFalls Try.f49.results.toList, loops := [(0, f_laws_qFalls_0D.E)], regs := [], conds := [] }
theorem g_laws_qFalls (k : Nat) : EnvOK Try.prog k x_laws_qFalls.G := (EnvOK.nil mixed)
noncomputable def f_laws_qFalls_0B : Code := (findLoop 0 c_laws_qFalls).getD .skip
theorem f_laws_qFalls_0h (k : Nat) (x : f_laws_qFalls_0i.D) : f_laws_qFalls_0D.lp (k + 1) x = loopK x_laws_qFalls f_laws_qFalls_0D 0 f_laws_qFalls_0B k x := by kernel_rfl
theorem f_laws_qFalls_0l (k : Nat) : LOK Try.prog x_laws_qFalls k f_laws_qFalls_0B := LOK.by [] (by kernel_rfl) AllOK.nil
theorem f_laws_qFalls_0z (x : f_laws_qFalls_0i.D) : f_laws_qFalls_0D.lp 0 x = none := by kernel_rfl
theorem f_laws_qFalls_0ok (k : Nat) : EOK Try.prog x_laws_qFalls k f_laws_qFalls_0D.E (.block 0 (.loop f_laws_qFalls_0B)) := loop_ok T_ok g_laws_qFalls f_laws_qFalls_0z f_laws_qFalls_0h f_laws_qFalls_0l k
theorem h_laws_qFalls (k : Nat) (x : Tup d_laws_qFalls.ps) : d_laws_qFalls.f (k + 1) x = fnK d_laws_qFalls x_laws_qFalls c_laws_qFalls k x := by kernel_rfl
theorem z_laws_qFalls (x : Tup d_laws_qFalls.ps) : d_laws_qFalls.f 0 x = none := by kernel_rfl
theorem l_laws_qFalls (k : Nat) : LOK Try.prog x_laws_qFalls k c_laws_qFalls := LOK.by [(f_laws_qFalls_0D.E, .block 0 (.loop f_laws_qFalls_0B))] (by kernel_rfl) (AllOK.cons (f_laws_qFalls_0ok k) AllOK.nil)
theorem s_laws_qFalls (k : Nat) : SoundAt Try.prog k 49 d_laws_qFalls.E := @fn_all Try.prog d_laws_qFalls x_laws_qFalls 49 Try.f49 c_laws_qFalls (by kernel_rfl) (by kernel_rfl) (by kernel_rfl) Try.func49 (by kernel_rfl) (by kernel_rfl) (by kernel_rfl) T_ok g_laws_qFalls l_laws_qFalls z_laws_qFalls h_laws_qFalls k
/-! function 50 -/
noncomputable def r_laws_qBoard : List PK := [PK.mk Ty.bool false none false none]
noncomputable def q_laws_qBoard : List PK := [PK.mk (Ty.pair (Ty.int IntKind.i64) (Ty.pair (Ty.int IntKind.i64) (Ty.slice (79 : Nat) (Ty.pair (Ty.int IntKind.i64) (Ty.int IntKind.i64))))) true none false none, PK.mk (Ty.pair (Ty.int IntKind.i64) (Ty.pair (Ty.int IntKind.i64) (Ty.slice (79 : Nat) (Ty.pair (Ty.int IntKind.i64) (Ty.int IntKind.i64))))) true none false none]
noncomputable def to_laws_qBoard (r : Bool) : Tup r_laws_qBoard × OutD := ((r, ()), none)
noncomputable def of_laws_qBoard : Tup r_laws_qBoard × OutD → Option (Bool)
  | (a, none) => some (a.1)
  | _ => none
theorem to_of_laws_qBoard : ∀ b r, of_laws_qBoard b = some r → to_laws_qBoard r = b := by
  rintro ⟨a, o⟩ r h
  cases o with
  | none => injection h with h; subst h; rfl
  | some _ => cases h
noncomputable def f_laws_qBoard_0 : Nat → Int → Int → List (Int × Int) → Int → Int → List (Int × Int) → Int → Int → Option (LR Unit Bool)
  | 0, _, _, _, _, _, _, _, _ => none
  | k + 1, b1_0, b1_1, b1_2, b2_0, b2_1, b2_2, v29, v30 =>
    if decide (v30 < v29) = true then if (0 : Int) ≤ v30 then if v30 < (↑(List.length b1_2) : Int) then if (0 : Int) ≤ v30 then if v30 < (↑(List.length b2_2) : Int) then if (!(decide (Prod.fst (List.getD b1_2 (Int.toNat v30) ((0 : Int), (0 : Int))) = Prod.fst (List.getD b2_2 (Int.toNat v30) ((0 : Int), (0 : Int)))) && (decide (Prod.snd (List.getD b1_2 (Int.toNat v30) ((0 : Int), (0 : Int))) = Prod.snd (List.getD b2_2 (Int.toNat v30) ((0 : Int), (0 : Int)))) && true))) = true then some (LR.ret false) else f_laws_qBoard_0 k b1_0 b1_1 b1_2 b2_0 b2_1 b2_2 v29 (wrap64 (v30 + (1 : Int))) else none else none else none else none else some (LR.go ())
noncomputable def f_laws_qBoard_0i : Spec := Spec.mk [OSh.ro, OSh.box (53 : Nat) [Sh.int IntKind.i64, Sh.int IntKind.i64, Sh.snap (0 : Nat) (Ty.pair (Ty.int IntKind.i64) (Ty.int IntKind.i64))], OSh.box (53 : Nat) [Sh.int IntKind.i64, Sh.int IntKind.i64, Sh.snap (0 : Nat) (Ty.pair (Ty.int IntKind.i64) (Ty.int IntKind.i64))]] [((2 : Nat), TSh.at (Sh.ptr (1 : Nat) (0 : Nat))), ((3 : Nat), TSh.at (Sh.ptr (2 : Nat) (0 : Nat))), ((29 : Nat), TSh.at (Sh.int IntKind.i64)), ((30 : Nat), TSh.at (Sh.int IntKind.i64))]
noncomputable def f_laws_qBoard_0o : Spec := Spec.mk [OSh.ro] []
noncomputable def f_laws_qBoard_0D : LoopDef (Tup r_laws_qBoard × OutD) := .rets f_laws_qBoard_0i f_laws_qBoard_0o (Unit) (Bool) (fun k x => f_laws_qBoard_0 k x.1.2.1.1 x.1.2.1.2.1 x.1.2.1.2.2.1 x.1.2.2.1.1 x.1.2.2.1.2.1 x.1.2.2.1.2.2.1 x.2.2.2.1 x.2.2.2.2.1) (fun z => (((), ()), (()))) (fun y => ()) (fun _ => rfl) to_laws_qBoard of_laws_qBoard to_of_laws_qBoard
noncomputable def f_laws_qBoard : Nat → Int × Int × List (Int × Int) → Int × Int × List (Int × Int) → Option Bool
  | 0, _, _ => none
  | k + 1, p0, p1 =>
    if decide (Prod.fst p0 ≠ Prod.fst p1) = true then some false else if decide (Prod.fst (Prod.snd p0) ≠ Prod.fst (Prod.snd p1)) = true then some false else if decide ((↑(List.length (Prod.snd (Prod.snd p0))) : Int) ≠ (↑(List.length (Prod.snd (Prod.snd p1))) : Int)) = true then some false else Option.bind (f_laws_qBoard_0 k (Prod.fst p0) (Prod.fst (Prod.snd p0)) (Prod.snd (Prod.snd p0)) (Prod.fst p1) (Prod.fst (Prod.snd p1)) (Prod.snd (Prod.snd p1)) (↑(List.length (Prod.snd (Prod.snd p0))) : Int) (0 : Int)) fun z0 => LR.on z0 (fun y0 => some true) fun r0 => some r0
noncomputable def d_laws_qBoard : FnDef := .of q_laws_qBoard r_laws_qBoard (Bool) (fun k x => f_laws_qBoard k x.1 x.2.1) to_laws_qBoard of_laws_qBoard to_of_laws_qBoard
noncomputable def c_laws_qBoard : Code := Try.f50.body.getD .skip
noncomputable def x_laws_qBoard : Ctx (Tup r_laws_qBoard × OutD) := { T := T, G := [], mvs := [], no := 0, n := 45, res := resOf T q_laws_qBoard r_laws_qBoard Try.f50.results.toList, loops := [(0, f_laws_qBoard_0D.E)], regs := [], conds := [] }
theorem g_laws_qBoard (k : Nat) : EnvOK Try.prog k x_laws_qBoard.G := (EnvOK.nil mixed)
noncomputable def f_laws_qBoard_0B : Code := (findLoop 0 c_laws_qBoard).getD .skip
theorem f_laws_qBoard_0h (k : Nat) (x : f_laws_qBoard_0i.D) : f_laws_qBoard_0D.lp (k + 1) x = loopK x_laws_qBoard f_laws_qBoard_0D 0 f_laws_qBoard_0B k x := by kernel_rfl
theorem f_laws_qBoard_0l (k : Nat) : LOK Try.prog x_laws_qBoard k f_laws_qBoard_0B := LOK.by [] (by kernel_rfl) AllOK.nil
theorem f_laws_qBoard_0z (x : f_laws_qBoard_0i.D) : f_laws_qBoard_0D.lp 0 x = none := by kernel_rfl
theorem f_laws_qBoard_0ok (k : Nat) : EOK Try.prog x_laws_qBoard k f_laws_qBoard_0D.E (.block 0 (.loop f_laws_qBoard_0B)) := loop_ok T_ok g_laws_qBoard f_laws_qBoard_0z f_laws_qBoard_0h f_laws_qBoard_0l k
theorem h_laws_qBoard (k : Nat) (x : Tup d_laws_qBoard.ps) : d_laws_qBoard.f (k + 1) x = fnK d_laws_qBoard x_laws_qBoard c_laws_qBoard k x := by kernel_rfl
theorem z_laws_qBoard (x : Tup d_laws_qBoard.ps) : d_laws_qBoard.f 0 x = none := by kernel_rfl
theorem l_laws_qBoard (k : Nat) : LOK Try.prog x_laws_qBoard k c_laws_qBoard := LOK.by [(f_laws_qBoard_0D.E, .block 0 (.loop f_laws_qBoard_0B))] (by kernel_rfl) (AllOK.cons (f_laws_qBoard_0ok k) AllOK.nil)
theorem s_laws_qBoard (k : Nat) : SoundAt Try.prog k 50 d_laws_qBoard.E := @fn_all Try.prog d_laws_qBoard x_laws_qBoard 50 Try.f50 c_laws_qBoard (by kernel_rfl) (by kernel_rfl) (by kernel_rfl) Try.func50 (by kernel_rfl) (by kernel_rfl) (by kernel_rfl) T_ok g_laws_qBoard l_laws_qBoard z_laws_qBoard h_laws_qBoard k
/-! function 62 -/
/-! function 87 -/
/-! function 89 -/
/-! function 92 -/
/-! function 96 -/
noncomputable def r_spec_l1In : List PK := [PK.mk Ty.bool false none false none]
noncomputable def q_spec_l1In : List PK := [PK.mk (Ty.int IntKind.i64) false none false none, PK.mk (Ty.int IntKind.i64) false none false none, PK.mk (Ty.int IntKind.i64) false none false none]
noncomputable def to_spec_l1In (r : Bool) : Tup r_spec_l1In × OutD := ((r, ()), none)
noncomputable def of_spec_l1In : Tup r_spec_l1In × OutD → Option (Bool)
  | (a, none) => some (a.1)
  | _ => none
theorem to_of_spec_l1In : ∀ b r, of_spec_l1In b = some r → to_spec_l1In r = b := by
  rintro ⟨a, o⟩ r h
  cases o with
  | none => injection h with h; subst h; rfl
  | some _ => cases h
noncomputable def f_spec_l1In : Nat → Int → Int → Int → Option Bool
  | 0, _, _, _ => none
  | k + 1, p0, p1, p2 =>
    if decide (p0 ≥ p1) = true then some (decide (p0 ≤ p2)) else some false
noncomputable def d_spec_l1In : FnDef := .of q_spec_l1In r_spec_l1In (Bool) (fun k x => f_spec_l1In k x.1 x.2.1 x.2.2.1) to_spec_l1In of_spec_l1In to_of_spec_l1In
noncomputable def c_spec_l1In : Code := Try.f96.body.getD .skip
noncomputable def x_spec_l1In : Ctx (Tup r_spec_l1In × OutD) := { T := T, G := [], mvs := [], no := 0, n := 15, res := resOf T q_spec_l1In r_spec_l1In Try.f96.results.toList, loops := [], regs := [], conds := [] }
theorem g_spec_l1In (k : Nat) : EnvOK Try.prog k x_spec_l1In.G := (EnvOK.nil mixed)
theorem h_spec_l1In (k : Nat) (x : Tup d_spec_l1In.ps) : d_spec_l1In.f (k + 1) x = fnK d_spec_l1In x_spec_l1In c_spec_l1In k x := by kernel_rfl
theorem z_spec_l1In (x : Tup d_spec_l1In.ps) : d_spec_l1In.f 0 x = none := by kernel_rfl
theorem l_spec_l1In (k : Nat) : LOK Try.prog x_spec_l1In k c_spec_l1In := LOK.by [] (by kernel_rfl) AllOK.nil
theorem s_spec_l1In (k : Nat) : SoundAt Try.prog k 96 d_spec_l1In.E := @fn_all Try.prog d_spec_l1In x_spec_l1In 96 Try.f96 c_spec_l1In (by kernel_rfl) (by kernel_rfl) (by kernel_rfl) Try.func96 (by kernel_rfl) (by kernel_rfl) (by kernel_rfl) T_ok g_spec_l1In l_spec_l1In z_spec_l1In h_spec_l1In k
/-! function 99 -/
/-! function 101 -/
/-! function 107 -/
/-! function 108 -/
/-! function 109 -/
/-! function 110 -/
/-! function 114 -/
/-! function 115 -/
noncomputable def r_spec_l1Most : List PK := [PK.mk (Ty.int IntKind.i64) false none false none]
noncomputable def q_spec_l1Most : List PK := [PK.mk (Ty.int IntKind.i64) false none false none, PK.mk (Ty.int IntKind.i64) false none false none]
noncomputable def to_spec_l1Most (r : Int) : Tup r_spec_l1Most × OutD := ((r, ()), none)
noncomputable def of_spec_l1Most : Tup r_spec_l1Most × OutD → Option (Int)
  | (a, none) => some (a.1)
  | _ => none
theorem to_of_spec_l1Most : ∀ b r, of_spec_l1Most b = some r → to_spec_l1Most r = b := by
  rintro ⟨a, o⟩ r h
  cases o with
  | none => injection h with h; subst h; rfl
  | some _ => cases h
noncomputable def f_spec_l1Most : Nat → Int → Int → Option Int
  | 0, _, _ => none
  | k + 1, p0, p1 =>
    if decide (p0 > p1) = true then some p0 else some p1
noncomputable def d_spec_l1Most : FnDef := .of q_spec_l1Most r_spec_l1Most (Int) (fun k x => f_spec_l1Most k x.1 x.2.1) to_spec_l1Most of_spec_l1Most to_of_spec_l1Most
noncomputable def c_spec_l1Most : Code := Try.f115.body.getD .skip
noncomputable def x_spec_l1Most : Ctx (Tup r_spec_l1Most × OutD) := { T := T, G := [], mvs := [], no := 0, n := 10, res := resOf T q_spec_l1Most r_spec_l1Most Try.f115.results.toList, loops := [], regs := [], conds := [] }
theorem g_spec_l1Most (k : Nat) : EnvOK Try.prog k x_spec_l1Most.G := (EnvOK.nil mixed)
theorem h_spec_l1Most (k : Nat) (x : Tup d_spec_l1Most.ps) : d_spec_l1Most.f (k + 1) x = fnK d_spec_l1Most x_spec_l1Most c_spec_l1Most k x := by kernel_rfl
theorem z_spec_l1Most (x : Tup d_spec_l1Most.ps) : d_spec_l1Most.f 0 x = none := by kernel_rfl
theorem l_spec_l1Most (k : Nat) : LOK Try.prog x_spec_l1Most k c_spec_l1Most := LOK.by [] (by kernel_rfl) AllOK.nil
theorem s_spec_l1Most (k : Nat) : SoundAt Try.prog k 115 d_spec_l1Most.E := @fn_all Try.prog d_spec_l1Most x_spec_l1Most 115 Try.f115 c_spec_l1Most (by kernel_rfl) (by kernel_rfl) (by kernel_rfl) Try.func115 (by kernel_rfl) (by kernel_rfl) (by kernel_rfl) T_ok g_spec_l1Most l_spec_l1Most z_spec_l1Most h_spec_l1Most k
/-! function 127 -/
noncomputable def r_impl_copyBoard : List PK := [PK.mk (Ty.pair (Ty.int IntKind.i64) (Ty.pair (Ty.int IntKind.i64) (Ty.slice (79 : Nat) (Ty.pair (Ty.int IntKind.i64) (Ty.int IntKind.i64))))) true none false none]
noncomputable def q_impl_copyBoard : List PK := [PK.mk (Ty.pair (Ty.int IntKind.i64) (Ty.pair (Ty.int IntKind.i64) (Ty.slice (79 : Nat) (Ty.pair (Ty.int IntKind.i64) (Ty.int IntKind.i64))))) true none false none]
noncomputable def to_impl_copyBoard (r : Int × Int × List (Int × Int)) : Tup r_impl_copyBoard × OutD := ((r, ()), none)
noncomputable def of_impl_copyBoard : Tup r_impl_copyBoard × OutD → Option (Int × Int × List (Int × Int))
  | (a, none) => some (a.1)
  | _ => none
theorem to_of_impl_copyBoard : ∀ b r, of_impl_copyBoard b = some r → to_impl_copyBoard r = b := by
  rintro ⟨a, o⟩ r h
  cases o with
  | none => injection h with h; subst h; rfl
  | some _ => cases h
noncomputable def f_impl_copyBoard_g1 : Nat → Int → Int → List (Int × Int) → Int → Int → List (Int × Int) → Option (Int × Int × List (Int × Int)) := fun k b1_0 b1_1 b1_2 b2_0 b2_1 o3 =>
    if (0 : Nat) + List.length b1_2 ≤ (140737488355328 / 16 : Nat) then some (b1_0, b1_1, b1_2) else none
noncomputable def f_impl_copyBoard_g1A : Nat → Int → Int → List (Int × Int) → Int → Int → List (Int × Int) → Option (List (Int × Int × List (Int × Int))) := fun k b1_0 b1_1 b1_2 b2_0 b2_1 o3 =>
    joinL (joinL (if (0 : Nat) + List.length b1_2 ≤ (140737488355328 / 16 : Nat) then some [(b1_0, b1_1, b1_2)] else none) (joinL (if (0 : Nat) + List.length b1_2 ≤ (140737488355328 / 16 : Nat) then some [(b1_0, b1_1, b1_2)] else none) (if (0 : Nat) + List.length b1_2 ≤ (140737488355328 / 16 : Nat) then some [(b1_0, b1_1, b1_2)] else none))) (joinL (joinL (if (0 : Nat) + List.length b1_2 ≤ (140737488355328 / 16 : Nat) then some [(b1_0, b1_1, b1_2)] else none) (joinL (if (0 : Nat) + List.length b1_2 ≤ (140737488355328 / 16 : Nat) then some [(b1_0, b1_1, b1_2)] else none) (if (0 : Nat) + List.length b1_2 ≤ (140737488355328 / 16 : Nat) then some [(b1_0, b1_1, b1_2)] else none))) (joinL (joinL (if (0 : Nat) + List.length b1_2 ≤ (140737488355328 / 16 : Nat) then some [(b1_0, b1_1, b1_2)] else none) (if (0 : Nat) + List.length b1_2 ≤ (140737488355328 / 16 : Nat) then some [(b1_0, b1_1, b1_2)] else none)) (joinL (joinL (if (0 : Nat) + List.length b1_2 ≤ (140737488355328 / 16 : Nat) then some [(b1_0, b1_1, b1_2)] else none) (if (0 : Nat) + List.length b1_2 ≤ (140737488355328 / 16 : Nat) then some [(b1_0, b1_1, b1_2)] else none)) (if (0 : Nat) + List.length b1_2 ≤ (140737488355328 / 16 : Nat) then joinL (some [(b1_0, b1_1, b1_2)]) (some [(b1_0, b1_1, b1_2)]) else none))))
noncomputable def f_impl_copyBoard_g1i : Spec := Spec.mk [OSh.ro, OSh.box (53 : Nat) [Sh.int IntKind.i64, Sh.int IntKind.i64, Sh.snap (0 : Nat) (Ty.pair (Ty.int IntKind.i64) (Ty.int IntKind.i64))], OSh.box (53 : Nat) [Sh.int IntKind.i64, Sh.int IntKind.i64, Sh.sl (3 : Nat)], OSh.row true (79 : Nat) (Ty.pair (Ty.int IntKind.i64) (Ty.int IntKind.i64))] [((1 : Nat), TSh.at (Sh.ptr (1 : Nat) (0 : Nat))), ((2 : Nat), TSh.at (Sh.ptr (2 : Nat) (0 : Nat)))]
noncomputable def f_impl_copyBoard_g1o : Spec := Spec.mk [OSh.ro, OSh.box (53 : Nat) [Sh.int IntKind.i64, Sh.int IntKind.i64, Sh.sl (2 : Nat)], OSh.row true (79 : Nat) (Ty.pair (Ty.int IntKind.i64) (Ty.int IntKind.i64))] [((2 : Nat), TSh.at (Sh.ptr (1 : Nat) (0 : Nat)))]
noncomputable def f_impl_copyBoard_g1D : LoopDef (Tup r_impl_copyBoard × OutD) := .plain f_impl_copyBoard_g1i f_impl_copyBoard_g1o (Int × Int × List (Int × Int)) (fun k x => f_impl_copyBoard_g1 k x.1.2.1.1 x.1.2.1.2.1 x.1.2.1.2.2.1 x.1.2.2.1.1 x.1.2.2.1.2.1 x.1.2.2.2.1) (fun z => (((), (z.1, z.2.1, (), ()), z.2.2, ()), ((), ()))) (fun y => (y.1.2.1.1, y.1.2.1.2.1, y.1.2.2.1)) (fun _ => rfl)
theorem f_impl_copyBoard_g1j (k : Nat) (b1_0 : Int) (b1_1 : Int) (b1_2 : List (Int × Int)) (b2_0 : Int) (b2_1 : Int) (o3 : List (Int × Int)) : f_impl_copyBoard_g1A k b1_0 b1_1 b1_2 b2_0 b2_1 o3 = repl 12 (f_impl_copyBoard_g1 k b1_0 b1_1 b1_2 b2_0 b2_1 o3) := by
  first
  | (simp only [f_impl_copyBoard_g1A, f_impl_copyBoard_g1, repl_some, repl_ite, repl_ite0, repl_ite1, repl_bind, joinL_repl, if_true]; done)
  | (simp only [f_impl_copyBoard_g1A, f_impl_copyBoard_g1, repl_some, repl_ite, repl_ite0, repl_ite1, repl_bind, joinL_repl, if_true]; simp only [joinL_grdl, joinL_grdr, repl_grd, joinL_repl]; simp only [grd_and]; exact grd_congr ⟨fun h => by simp only [h, and_self], fun h => by simp only [h, and_self]⟩)
noncomputable def f_impl_copyBoard : Nat → Int × Int × List (Int × Int) → Option (Int × Int × List (Int × Int))
  | 0, _ => none
  | k + 1, p0 =>
    Option.bind (f_impl_copyBoard_g1 k (Prod.fst p0) (Prod.fst (Prod.snd p0)) (Prod.snd (Prod.snd p0)) (0 : Int) (0 : Int) []) fun z0 => some (Prod.fst z0, Prod.fst (Prod.snd z0), Prod.snd (Prod.snd z0))
noncomputable def d_impl_copyBoard : FnDef := .of q_impl_copyBoard r_impl_copyBoard (Int × Int × List (Int × Int)) (fun k x => f_impl_copyBoard k x.1) to_impl_copyBoard of_impl_copyBoard to_of_impl_copyBoard
noncomputable def c_impl_copyBoard : Code := Try.f127.body.getD .skip
noncomputable def x_impl_copyBoard : Ctx (Tup r_impl_copyBoard × OutD) := { T := T, G := [], mvs := [], no := 0, n := 12, res := resOf T q_impl_copyBoard r_impl_copyBoard Try.f127.results.toList, loops := [], regs := [(1, f_impl_copyBoard_g1D.E)], conds := [] }
theorem g_impl_copyBoard (k : Nat) : EnvOK Try.prog k x_impl_copyBoard.G := (EnvOK.nil mixed)
noncomputable def f_impl_copyBoard_g1O : Array Oper := (findReg 1 c_impl_copyBoard).getD #[]
theorem f_impl_copyBoard_g1e (k : Nat) (x : f_impl_copyBoard_g1i.D) : execD x_impl_copyBoard.T x_impl_copyBoard.G x_impl_copyBoard.mvs k f_impl_copyBoard_g1O (f_impl_copyBoard_g1D.inp.st x_impl_copyBoard.n x) (outK x_impl_copyBoard f_impl_copyBoard_g1D) = f_impl_copyBoard_g1A k x.1.2.1.1 x.1.2.1.2.1 x.1.2.1.2.2.1 x.1.2.2.1.1 x.1.2.2.1.2.1 x.1.2.2.2.1 := by kernel_rfl
theorem f_impl_copyBoard_g1ok (k : Nat) : EOK Try.prog x_impl_copyBoard k f_impl_copyBoard_g1D.E (.region 1 f_impl_copyBoard_g1O true) := reg_ok (D := f_impl_copyBoard_g1D) (m := 12) T_ok (g_impl_copyBoard k) (fun x => (f_impl_copyBoard_g1e k x).trans (f_impl_copyBoard_g1j k x.1.2.1.1 x.1.2.1.2.1 x.1.2.1.2.2.1 x.1.2.2.1.1 x.1.2.2.1.2.1 x.1.2.2.2.1))
theorem h_impl_copyBoard (k : Nat) (x : Tup d_impl_copyBoard.ps) : d_impl_copyBoard.f (k + 1) x = fnK d_impl_copyBoard x_impl_copyBoard c_impl_copyBoard k x := by kernel_rfl
theorem z_impl_copyBoard (x : Tup d_impl_copyBoard.ps) : d_impl_copyBoard.f 0 x = none := by kernel_rfl
theorem l_impl_copyBoard (k : Nat) : LOK Try.prog x_impl_copyBoard k c_impl_copyBoard := LOK.by [(f_impl_copyBoard_g1D.E, .region 1 f_impl_copyBoard_g1O true)] (by kernel_rfl) (AllOK.cons (f_impl_copyBoard_g1ok k) AllOK.nil)
theorem s_impl_copyBoard (k : Nat) : SoundAt Try.prog k 127 d_impl_copyBoard.E := @fn_all Try.prog d_impl_copyBoard x_impl_copyBoard 127 Try.f127 c_impl_copyBoard (by kernel_rfl) (by kernel_rfl) (by kernel_rfl) Try.func127 (by kernel_rfl) (by kernel_rfl) (by kernel_rfl) T_ok g_impl_copyBoard l_impl_copyBoard z_impl_copyBoard h_impl_copyBoard k
/-! function 129 -/
noncomputable def r_impl_faultsByCell : List PK := [PK.mk (Ty.slice (3 : Nat) (Ty.int IntKind.i64)) false none false none]
noncomputable def q_impl_faultsByCell : List PK := [PK.mk (Ty.pair (Ty.int IntKind.i64) (Ty.pair (Ty.int IntKind.i64) (Ty.slice (79 : Nat) (Ty.pair (Ty.int IntKind.i64) (Ty.int IntKind.i64))))) true none false none, PK.mk (Ty.slice (77 : Nat) (Ty.pair (Ty.int IntKind.i64) (Ty.pair (Ty.int IntKind.i64) (Ty.int IntKind.i64)))) false none false none]
noncomputable def to_impl_faultsByCell (r : List Int) : Tup r_impl_faultsByCell × OutD := ((r, ()), none)
noncomputable def of_impl_faultsByCell : Tup r_impl_faultsByCell × OutD → Option (List Int)
  | (a, none) => some (a.1)
  | _ => none
theorem to_of_impl_faultsByCell : ∀ b r, of_impl_faultsByCell b = some r → to_impl_faultsByCell r = b := by
  rintro ⟨a, o⟩ r h
  cases o with
  | none => injection h with h; subst h; rfl
  | some _ => cases h
noncomputable def f_impl_faultsByCell_0 : Nat → Int → Int → List (Int × Int) → List Int → List (Int × Int × Int) → Int → Int → Option (List Int)
  | 0, _, _, _, _, _, _, _ => none
  | k + 1, b1_0, b1_1, b1_2, o2, v12, v13, v14 =>
    if decide (v14 < v13) = true then if (0 : Int) ≤ v14 then if v14 < (↑(List.length v12) : Int) then if (0 : Int) ≤ wrap64 (wrap64 (Prod.fst (Prod.snd (List.getD v12 (Int.toNat v14) ((0 : Int), (0 : Int), (0 : Int)))) * b1_1) + Prod.snd (Prod.snd (List.getD v12 (Int.toNat v14) ((0 : Int), (0 : Int), (0 : Int))))) then if wrap64 (wrap64 (Prod.fst (Prod.snd (List.getD v12 (Int.toNat v14) ((0 : Int), (0 : Int), (0 : Int)))) * b1_1) + Prod.snd (Prod.snd (List.getD v12 (Int.toNat v14) ((0 : Int), (0 : Int), (0 : Int))))) < (↑(List.length o2) : Int) then f_impl_faultsByCell_0 k b1_0 b1_1 b1_2 (List.set o2 (Int.toNat (wrap64 (wrap64 (Prod.fst (Prod.snd (List.getD v12 (Int.toNat v14) ((0 : Int), (0 : Int), (0 : Int)))) * b1_1) + Prod.snd (Prod.snd (List.getD v12 (Int.toNat v14) ((0 : Int), (0 : Int), (0 : Int))))))) (Prod.fst (List.getD v12 (Int.toNat v14) ((0 : Int), (0 : Int), (0 : Int))))) v12 v13 (wrap64 (v14 + (1 : Int))) else none else none else none else none else some o2
noncomputable def f_impl_faultsByCell_0i : Spec := Spec.mk [OSh.ro, OSh.box (53 : Nat) [Sh.int IntKind.i64, Sh.int IntKind.i64, Sh.snap (0 : Nat) (Ty.pair (Ty.int IntKind.i64) (Ty.int IntKind.i64))], OSh.row true (3 : Nat) (Ty.int IntKind.i64)] [((2 : Nat), TSh.at (Sh.ptr (1 : Nat) (0 : Nat))), ((5 : Nat), TSh.at (Sh.sl (2 : Nat))), ((12 : Nat), TSh.at (Sh.snap (0 : Nat) (Ty.pair (Ty.int IntKind.i64) (Ty.pair (Ty.int IntKind.i64) (Ty.int IntKind.i64))))), ((13 : Nat), TSh.at (Sh.int IntKind.i64)), ((14 : Nat), TSh.at (Sh.int IntKind.i64))]
noncomputable def f_impl_faultsByCell_0o : Spec := Spec.mk [OSh.ro, OSh.row true (3 : Nat) (Ty.int IntKind.i64)] [((5 : Nat), TSh.at (Sh.sl (1 : Nat)))]
noncomputable def f_impl_faultsByCell_0D : LoopDef (Tup r_impl_faultsByCell × OutD) := .plain f_impl_faultsByCell_0i f_impl_faultsByCell_0o (List Int) (fun k x => f_impl_faultsByCell_0 k x.1.2.1.1 x.1.2.1.2.1 x.1.2.1.2.2.1 x.1.2.2.1 x.2.2.2.1 x.2.2.2.2.1 x.2.2.2.2.2.1) (fun z => (((), z, ()), ((), ()))) (fun y => (y.1.2.1)) (fun _ => rfl)
noncomputable def f_impl_faultsByCell : Nat → Int × Int × List (Int × Int) → List (Int × Int × Int) → Option (List Int)
  | 0, _, _ => none
  | k + 1, p0, p1 =>
    if Int.toNat (↑(List.length (Prod.snd (Prod.snd p0))) : Int) * (8 : Nat) ≤ (281474976710656 : Nat) then Option.bind (f_impl_faultsByCell_0 k (Prod.fst p0) (Prod.fst (Prod.snd p0)) (Prod.snd (Prod.snd p0)) (List.replicate (Int.toNat (↑(List.length (Prod.snd (Prod.snd p0))) : Int)) (0 : Int)) p1 (↑(List.length p1) : Int) (0 : Int)) fun z0 => some z0 else none
noncomputable def d_impl_faultsByCell : FnDef := .of q_impl_faultsByCell r_impl_faultsByCell (List Int) (fun k x => f_impl_faultsByCell k x.1 x.2.1) to_impl_faultsByCell of_impl_faultsByCell to_of_impl_faultsByCell
noncomputable def c_impl_faultsByCell : Code := Try.f129.body.getD .skip
noncomputable def x_impl_faultsByCell : Ctx (Tup r_impl_faultsByCell × OutD) := { T := T, G := [], mvs := [], no := 0, n := 32, res := resOf T q_impl_faultsByCell r_impl_faultsByCell Try.f129.results.toList, loops := [(0, f_impl_faultsByCell_0D.E)], regs := [], conds := [] }
theorem g_impl_faultsByCell (k : Nat) : EnvOK Try.prog k x_impl_faultsByCell.G := (EnvOK.nil mixed)
noncomputable def f_impl_faultsByCell_0B : Code := (findLoop 0 c_impl_faultsByCell).getD .skip
theorem f_impl_faultsByCell_0h (k : Nat) (x : f_impl_faultsByCell_0i.D) : f_impl_faultsByCell_0D.lp (k + 1) x = loopK x_impl_faultsByCell f_impl_faultsByCell_0D 0 f_impl_faultsByCell_0B k x := by kernel_rfl
theorem f_impl_faultsByCell_0l (k : Nat) : LOK Try.prog x_impl_faultsByCell k f_impl_faultsByCell_0B := LOK.by [] (by kernel_rfl) AllOK.nil
theorem f_impl_faultsByCell_0z (x : f_impl_faultsByCell_0i.D) : f_impl_faultsByCell_0D.lp 0 x = none := by kernel_rfl
theorem f_impl_faultsByCell_0ok (k : Nat) : EOK Try.prog x_impl_faultsByCell k f_impl_faultsByCell_0D.E (.block 0 (.loop f_impl_faultsByCell_0B)) := loop_ok T_ok g_impl_faultsByCell f_impl_faultsByCell_0z f_impl_faultsByCell_0h f_impl_faultsByCell_0l k
theorem h_impl_faultsByCell (k : Nat) (x : Tup d_impl_faultsByCell.ps) : d_impl_faultsByCell.f (k + 1) x = fnK d_impl_faultsByCell x_impl_faultsByCell c_impl_faultsByCell k x := by kernel_rfl
theorem z_impl_faultsByCell (x : Tup d_impl_faultsByCell.ps) : d_impl_faultsByCell.f 0 x = none := by kernel_rfl
theorem l_impl_faultsByCell (k : Nat) : LOK Try.prog x_impl_faultsByCell k c_impl_faultsByCell := LOK.by [(f_impl_faultsByCell_0D.E, .block 0 (.loop f_impl_faultsByCell_0B))] (by kernel_rfl) (AllOK.cons (f_impl_faultsByCell_0ok k) AllOK.nil)
theorem s_impl_faultsByCell (k : Nat) : SoundAt Try.prog k 129 d_impl_faultsByCell.E := @fn_all Try.prog d_impl_faultsByCell x_impl_faultsByCell 129 Try.f129 c_impl_faultsByCell (by kernel_rfl) (by kernel_rfl) (by kernel_rfl) Try.func129 (by kernel_rfl) (by kernel_rfl) (by kernel_rfl) T_ok g_impl_faultsByCell l_impl_faultsByCell z_impl_faultsByCell h_impl_faultsByCell k
/-! function 154 -/
/-! function 156 -/
/-! function 157 -/
/-! function 159 -/
/-! function 166 -/
/-! function 168 -/
/-! function 171 -/
/-! function 173 -/
/-! function 174 -/
/-! function 175 -/
noncomputable def r_spec_l1Cur_next : List PK := [PK.mk (Ty.int IntKind.i64) false none false none]
noncomputable def q_spec_l1Cur_next : List PK := [PK.mk (Ty.pair (Ty.slice (5 : Nat) (Ty.int IntKind.u8)) (Ty.pair (Ty.int IntKind.i64) (Ty.int IntKind.u64))) false none false (some (114 : Nat))]
noncomputable def to_spec_l1Cur_next (r : Int × Int × Int) : Tup r_spec_l1Cur_next × OutD := ((r.1, ()), some ⟨Ty.pair (Ty.slice (5 : Nat) (Ty.int IntKind.u8)) (Ty.pair (Ty.int IntKind.i64) (Ty.int IntKind.u64)), [([], r.2)]⟩)
noncomputable def of_spec_l1Cur_next : Tup r_spec_l1Cur_next × OutD → Option (Int × Int × Int)
  | (a, some ⟨u, ys⟩) => if h : u = Ty.pair (Ty.slice (5 : Nat) (Ty.int IntKind.u8)) (Ty.pair (Ty.int IntKind.i64) (Ty.int IntKind.u64)) then (match castU h ys with
    | [([], y)] => some (a.1, y)
    | _ => none) else none
  | _ => none
theorem to_of_spec_l1Cur_next : ∀ b r, of_spec_l1Cur_next b = some r → to_spec_l1Cur_next r = b := by
  rintro ⟨a, o⟩ r h
  cases o with
  | none => cases h
  | some s =>
    obtain ⟨u, ys⟩ := s
    simp only [of_spec_l1Cur_next] at h
    split at h
    · rename_i hu
      subst hu
      match ys, h with
      | [], h => cases (show (none : Option _) = some r from h)
      | [([], y)], h => injection (show some _ = some r from h) with h; subst h; rfl
      | [(_ :: _, y)], h => cases (show (none : Option _) = some r from h)
      | (h1, _) :: _ :: _, h => cases h1 <;> cases (show (none : Option _) = some r from h)
    · cases h
noncomputable def f_spec_l1Cur_next : Nat → List Int × Int × Int → Option (Int × Int × Int)
  | 0, _ => none
  | k + 1, p0 =>
    if decide (Prod.fst (Prod.snd p0) < (↑(List.length (Prod.fst p0)) : Int)) = true then if (0 : Int) ≤ Prod.fst (Prod.snd p0) then if Prod.fst (Prod.snd p0) < (↑(List.length (Prod.fst p0)) : Int) then if decide (wrap64 (Prod.fst (Prod.snd p0) + (1 : Int)) ≤ (↑(List.length (Prod.fst p0)) : Int)) = true then some (wrap64 (List.getD (Prod.fst p0) (Int.toNat (Prod.fst (Prod.snd p0))) (0 : Int)), wrap64 (Prod.fst (Prod.snd p0) + (1 : Int)), IntKind.wrap IntKind.u64 (IntKind.wrap IntKind.u64 (IntKind.wrap IntKind.u64 (Prod.snd (Prod.snd p0) * (6364136223846793005 : Int)) + IntKind.wrap IntKind.u64 (wrap64 (List.getD (Prod.fst p0) (Int.toNat (Prod.fst (Prod.snd p0))) (0 : Int)))) + (1442695040888963407 : Int))) else some (wrap64 (bits BinOp.and IntKind.u64 (Int.fdiv (IntKind.wrap IntKind.u64 (IntKind.wrap IntKind.u64 (IntKind.wrap IntKind.u64 (Prod.snd (Prod.snd p0) * (6364136223846793005 : Int)) + IntKind.wrap IntKind.u64 (wrap64 (List.getD (Prod.fst p0) (Int.toNat (Prod.fst (Prod.snd p0))) (0 : Int)))) + (1442695040888963407 : Int))) ((2 : Int) ^ min (Int.toNat (40 : Int)) (IntKind.bits IntKind.u64))) (255 : Int)), wrap64 (Prod.fst (Prod.snd p0) + (1 : Int)), IntKind.wrap IntKind.u64 (IntKind.wrap IntKind.u64 (IntKind.wrap IntKind.u64 (Prod.snd (Prod.snd p0) * (6364136223846793005 : Int)) + IntKind.wrap IntKind.u64 (wrap64 (List.getD (Prod.fst p0) (Int.toNat (Prod.fst (Prod.snd p0))) (0 : Int)))) + (1442695040888963407 : Int))) else none else none else if decide (wrap64 (Prod.fst (Prod.snd p0) + (1 : Int)) ≤ (↑(List.length (Prod.fst p0)) : Int)) = true then some ((0 : Int), wrap64 (Prod.fst (Prod.snd p0) + (1 : Int)), IntKind.wrap IntKind.u64 (IntKind.wrap IntKind.u64 (IntKind.wrap IntKind.u64 (Prod.snd (Prod.snd p0) * (6364136223846793005 : Int)) + IntKind.wrap IntKind.u64 (0 : Int)) + (1442695040888963407 : Int))) else some (wrap64 (bits BinOp.and IntKind.u64 (Int.fdiv (IntKind.wrap IntKind.u64 (IntKind.wrap IntKind.u64 (IntKind.wrap IntKind.u64 (Prod.snd (Prod.snd p0) * (6364136223846793005 : Int)) + IntKind.wrap IntKind.u64 (0 : Int)) + (1442695040888963407 : Int))) ((2 : Int) ^ min (Int.toNat (40 : Int)) (IntKind.bits IntKind.u64))) (255 : Int)), wrap64 (Prod.fst (Prod.snd p0) + (1 : Int)), IntKind.wrap IntKind.u64 (IntKind.wrap IntKind.u64 (IntKind.wrap IntKind.u64 (Prod.snd (Prod.snd p0) * (6364136223846793005 : Int)) + IntKind.wrap IntKind.u64 (0 : Int)) + (1442695040888963407 : Int)))
noncomputable def d_spec_l1Cur_next : FnDef := .of q_spec_l1Cur_next r_spec_l1Cur_next (Int × Int × Int) (fun k x => f_spec_l1Cur_next k x.1) to_spec_l1Cur_next of_spec_l1Cur_next to_of_spec_l1Cur_next
noncomputable def c_spec_l1Cur_next : Code := Try.f175.body.getD .skip
noncomputable def x_spec_l1Cur_next : Ctx (Tup r_spec_l1Cur_next × OutD) := { T := T, G := [], mvs := [], no := 2, n := 62, res := resOf T q_spec_l1Cur_next r_spec_l1Cur_next Try.f175.results.toList, loops := [], regs := [], conds := [] }
theorem g_spec_l1Cur_next (k : Nat) : EnvOK Try.prog k x_spec_l1Cur_next.G := (EnvOK.nil mixed)
theorem h_spec_l1Cur_next (k : Nat) (x : Tup d_spec_l1Cur_next.ps) : d_spec_l1Cur_next.f (k + 1) x = fnK d_spec_l1Cur_next x_spec_l1Cur_next c_spec_l1Cur_next k x := by kernel_rfl
theorem z_spec_l1Cur_next (x : Tup d_spec_l1Cur_next.ps) : d_spec_l1Cur_next.f 0 x = none := by kernel_rfl
theorem l_spec_l1Cur_next (k : Nat) : LOK Try.prog x_spec_l1Cur_next k c_spec_l1Cur_next := LOK.by [] (by kernel_rfl) AllOK.nil
theorem s_spec_l1Cur_next (k : Nat) : SoundAt Try.prog k 175 d_spec_l1Cur_next.E := @fn_all Try.prog d_spec_l1Cur_next x_spec_l1Cur_next 175 Try.f175 c_spec_l1Cur_next (by kernel_rfl) (by kernel_rfl) (by kernel_rfl) Try.func175 (by kernel_rfl) (by kernel_rfl) (by kernel_rfl) T_ok g_spec_l1Cur_next l_spec_l1Cur_next z_spec_l1Cur_next h_spec_l1Cur_next k
/-! function 176 -/
/-! function 183 -/
noncomputable def r_spec_boAt : List PK := [PK.mk (Ty.pair (Ty.int IntKind.i64) (Ty.int IntKind.i64)) true none false none]
noncomputable def q_spec_boAt : List PK := [PK.mk (Ty.pair (Ty.int IntKind.i64) (Ty.pair (Ty.int IntKind.i64) (Ty.slice (79 : Nat) (Ty.pair (Ty.int IntKind.i64) (Ty.int IntKind.i64))))) true none false none, PK.mk (Ty.int IntKind.i64) false none false none, PK.mk (Ty.int IntKind.i64) false none false none]
noncomputable def to_spec_boAt (r : Int × Int) : Tup r_spec_boAt × OutD := ((r, ()), none)
noncomputable def of_spec_boAt : Tup r_spec_boAt × OutD → Option (Int × Int)
  | (a, none) => some (a.1)
  | _ => none
theorem to_of_spec_boAt : ∀ b r, of_spec_boAt b = some r → to_spec_boAt r = b := by
  rintro ⟨a, o⟩ r h
  cases o with
  | none => injection h with h; subst h; rfl
  | some _ => cases h
noncomputable def f_spec_boAt : Nat → Int × Int × List (Int × Int) → Int → Int → Option (Int × Int)
  | 0, _, _, _ => none
  | k + 1, p0, p1, p2 =>
    if (0 : Int) ≤ wrap64 (wrap64 (p1 * Prod.fst (Prod.snd p0)) + p2) then if wrap64 (wrap64 (p1 * Prod.fst (Prod.snd p0)) + p2) < (↑(List.length (Prod.snd (Prod.snd p0))) : Int) then some (Prod.fst (List.getD (Prod.snd (Prod.snd p0)) (Int.toNat (wrap64 (wrap64 (p1 * Prod.fst (Prod.snd p0)) + p2))) ((0 : Int), (0 : Int))), Prod.snd (List.getD (Prod.snd (Prod.snd p0)) (Int.toNat (wrap64 (wrap64 (p1 * Prod.fst (Prod.snd p0)) + p2))) ((0 : Int), (0 : Int)))) else none else none
noncomputable def d_spec_boAt : FnDef := .of q_spec_boAt r_spec_boAt (Int × Int) (fun k x => f_spec_boAt k x.1 x.2.1 x.2.2.1) to_spec_boAt of_spec_boAt to_of_spec_boAt
noncomputable def c_spec_boAt : Code := Try.f183.body.getD .skip
noncomputable def x_spec_boAt : Ctx (Tup r_spec_boAt × OutD) := { T := T, G := [], mvs := [], no := 0, n := 17, res := resOf T q_spec_boAt r_spec_boAt Try.f183.results.toList, loops := [], regs := [], conds := [] }
theorem g_spec_boAt (k : Nat) : EnvOK Try.prog k x_spec_boAt.G := (EnvOK.nil mixed)
theorem h_spec_boAt (k : Nat) (x : Tup d_spec_boAt.ps) : d_spec_boAt.f (k + 1) x = fnK d_spec_boAt x_spec_boAt c_spec_boAt k x := by kernel_rfl
theorem z_spec_boAt (x : Tup d_spec_boAt.ps) : d_spec_boAt.f 0 x = none := by kernel_rfl
theorem l_spec_boAt (k : Nat) : LOK Try.prog x_spec_boAt k c_spec_boAt := LOK.by [] (by kernel_rfl) AllOK.nil
theorem s_spec_boAt (k : Nat) : SoundAt Try.prog k 183 d_spec_boAt.E := @fn_all Try.prog d_spec_boAt x_spec_boAt 183 Try.f183 c_spec_boAt (by kernel_rfl) (by kernel_rfl) (by kernel_rfl) Try.func183 (by kernel_rfl) (by kernel_rfl) (by kernel_rfl) T_ok g_spec_boAt l_spec_boAt z_spec_boAt h_spec_boAt k
/-! function 184 -/
noncomputable def r_spec_boOwn : List PK := [PK.mk (Ty.pair (Ty.int IntKind.i64) (Ty.pair (Ty.int IntKind.i64) (Ty.slice (79 : Nat) (Ty.pair (Ty.int IntKind.i64) (Ty.int IntKind.i64))))) true none false none]
noncomputable def q_spec_boOwn : List PK := [PK.mk (Ty.pair (Ty.int IntKind.i64) (Ty.pair (Ty.int IntKind.i64) (Ty.slice (79 : Nat) (Ty.pair (Ty.int IntKind.i64) (Ty.int IntKind.i64))))) true none false none]
noncomputable def to_spec_boOwn (r : Int × Int × List (Int × Int)) : Tup r_spec_boOwn × OutD := ((r, ()), none)
noncomputable def of_spec_boOwn : Tup r_spec_boOwn × OutD → Option (Int × Int × List (Int × Int))
  | (a, none) => some (a.1)
  | _ => none
theorem to_of_spec_boOwn : ∀ b r, of_spec_boOwn b = some r → to_spec_boOwn r = b := by
  rintro ⟨a, o⟩ r h
  cases o with
  | none => injection h with h; subst h; rfl
  | some _ => cases h
noncomputable def f_spec_boOwn_g1 : Nat → Int → Int → List (Int × Int) → Int → Int → List (Int × Int) → Option (Int × Int × List (Int × Int)) := fun k b1_0 b1_1 b1_2 b2_0 b2_1 o3 =>
    if (0 : Nat) + List.length b1_2 ≤ (140737488355328 / 16 : Nat) then some (b1_0, b1_1, b1_2) else none
noncomputable def f_spec_boOwn_g1A : Nat → Int → Int → List (Int × Int) → Int → Int → List (Int × Int) → Option (List (Int × Int × List (Int × Int))) := fun k b1_0 b1_1 b1_2 b2_0 b2_1 o3 =>
    joinL (joinL (if (0 : Nat) + List.length b1_2 ≤ (140737488355328 / 16 : Nat) then some [(b1_0, b1_1, b1_2)] else none) (joinL (if (0 : Nat) + List.length b1_2 ≤ (140737488355328 / 16 : Nat) then some [(b1_0, b1_1, b1_2)] else none) (if (0 : Nat) + List.length b1_2 ≤ (140737488355328 / 16 : Nat) then some [(b1_0, b1_1, b1_2)] else none))) (joinL (joinL (if (0 : Nat) + List.length b1_2 ≤ (140737488355328 / 16 : Nat) then some [(b1_0, b1_1, b1_2)] else none) (joinL (if (0 : Nat) + List.length b1_2 ≤ (140737488355328 / 16 : Nat) then some [(b1_0, b1_1, b1_2)] else none) (if (0 : Nat) + List.length b1_2 ≤ (140737488355328 / 16 : Nat) then some [(b1_0, b1_1, b1_2)] else none))) (joinL (joinL (if (0 : Nat) + List.length b1_2 ≤ (140737488355328 / 16 : Nat) then some [(b1_0, b1_1, b1_2)] else none) (if (0 : Nat) + List.length b1_2 ≤ (140737488355328 / 16 : Nat) then some [(b1_0, b1_1, b1_2)] else none)) (joinL (joinL (if (0 : Nat) + List.length b1_2 ≤ (140737488355328 / 16 : Nat) then some [(b1_0, b1_1, b1_2)] else none) (if (0 : Nat) + List.length b1_2 ≤ (140737488355328 / 16 : Nat) then some [(b1_0, b1_1, b1_2)] else none)) (if (0 : Nat) + List.length b1_2 ≤ (140737488355328 / 16 : Nat) then joinL (some [(b1_0, b1_1, b1_2)]) (some [(b1_0, b1_1, b1_2)]) else none))))
noncomputable def f_spec_boOwn_g1i : Spec := Spec.mk [OSh.ro, OSh.box (53 : Nat) [Sh.int IntKind.i64, Sh.int IntKind.i64, Sh.snap (0 : Nat) (Ty.pair (Ty.int IntKind.i64) (Ty.int IntKind.i64))], OSh.box (53 : Nat) [Sh.int IntKind.i64, Sh.int IntKind.i64, Sh.sl (3 : Nat)], OSh.row true (79 : Nat) (Ty.pair (Ty.int IntKind.i64) (Ty.int IntKind.i64))] [((1 : Nat), TSh.at (Sh.ptr (1 : Nat) (0 : Nat))), ((2 : Nat), TSh.at (Sh.ptr (2 : Nat) (0 : Nat)))]
noncomputable def f_spec_boOwn_g1o : Spec := Spec.mk [OSh.ro, OSh.box (53 : Nat) [Sh.int IntKind.i64, Sh.int IntKind.i64, Sh.sl (2 : Nat)], OSh.row true (79 : Nat) (Ty.pair (Ty.int IntKind.i64) (Ty.int IntKind.i64))] [((2 : Nat), TSh.at (Sh.ptr (1 : Nat) (0 : Nat)))]
noncomputable def f_spec_boOwn_g1D : LoopDef (Tup r_spec_boOwn × OutD) := .plain f_spec_boOwn_g1i f_spec_boOwn_g1o (Int × Int × List (Int × Int)) (fun k x => f_spec_boOwn_g1 k x.1.2.1.1 x.1.2.1.2.1 x.1.2.1.2.2.1 x.1.2.2.1.1 x.1.2.2.1.2.1 x.1.2.2.2.1) (fun z => (((), (z.1, z.2.1, (), ()), z.2.2, ()), ((), ()))) (fun y => (y.1.2.1.1, y.1.2.1.2.1, y.1.2.2.1)) (fun _ => rfl)
theorem f_spec_boOwn_g1j (k : Nat) (b1_0 : Int) (b1_1 : Int) (b1_2 : List (Int × Int)) (b2_0 : Int) (b2_1 : Int) (o3 : List (Int × Int)) : f_spec_boOwn_g1A k b1_0 b1_1 b1_2 b2_0 b2_1 o3 = repl 12 (f_spec_boOwn_g1 k b1_0 b1_1 b1_2 b2_0 b2_1 o3) := by
  first
  | (simp only [f_spec_boOwn_g1A, f_spec_boOwn_g1, repl_some, repl_ite, repl_ite0, repl_ite1, repl_bind, joinL_repl, if_true]; done)
  | (simp only [f_spec_boOwn_g1A, f_spec_boOwn_g1, repl_some, repl_ite, repl_ite0, repl_ite1, repl_bind, joinL_repl, if_true]; simp only [joinL_grdl, joinL_grdr, repl_grd, joinL_repl]; simp only [grd_and]; exact grd_congr ⟨fun h => by simp only [h, and_self], fun h => by simp only [h, and_self]⟩)
noncomputable def f_spec_boOwn : Nat → Int × Int × List (Int × Int) → Option (Int × Int × List (Int × Int))
  | 0, _ => none
  | k + 1, p0 =>
    Option.bind (f_spec_boOwn_g1 k (Prod.fst p0) (Prod.fst (Prod.snd p0)) (Prod.snd (Prod.snd p0)) (0 : Int) (0 : Int) []) fun z0 => some (Prod.fst z0, Prod.fst (Prod.snd z0), Prod.snd (Prod.snd z0))
noncomputable def d_spec_boOwn : FnDef := .of q_spec_boOwn r_spec_boOwn (Int × Int × List (Int × Int)) (fun k x => f_spec_boOwn k x.1) to_spec_boOwn of_spec_boOwn to_of_spec_boOwn
noncomputable def c_spec_boOwn : Code := Try.f184.body.getD .skip
noncomputable def x_spec_boOwn : Ctx (Tup r_spec_boOwn × OutD) := { T := T, G := [], mvs := [], no := 0, n := 12, res := resOf T q_spec_boOwn r_spec_boOwn Try.f184.results.toList, loops := [], regs := [(1, f_spec_boOwn_g1D.E)], conds := [] }
theorem g_spec_boOwn (k : Nat) : EnvOK Try.prog k x_spec_boOwn.G := (EnvOK.nil mixed)
noncomputable def f_spec_boOwn_g1O : Array Oper := (findReg 1 c_spec_boOwn).getD #[]
theorem f_spec_boOwn_g1e (k : Nat) (x : f_spec_boOwn_g1i.D) : execD x_spec_boOwn.T x_spec_boOwn.G x_spec_boOwn.mvs k f_spec_boOwn_g1O (f_spec_boOwn_g1D.inp.st x_spec_boOwn.n x) (outK x_spec_boOwn f_spec_boOwn_g1D) = f_spec_boOwn_g1A k x.1.2.1.1 x.1.2.1.2.1 x.1.2.1.2.2.1 x.1.2.2.1.1 x.1.2.2.1.2.1 x.1.2.2.2.1 := by kernel_rfl
theorem f_spec_boOwn_g1ok (k : Nat) : EOK Try.prog x_spec_boOwn k f_spec_boOwn_g1D.E (.region 1 f_spec_boOwn_g1O true) := reg_ok (D := f_spec_boOwn_g1D) (m := 12) T_ok (g_spec_boOwn k) (fun x => (f_spec_boOwn_g1e k x).trans (f_spec_boOwn_g1j k x.1.2.1.1 x.1.2.1.2.1 x.1.2.1.2.2.1 x.1.2.2.1.1 x.1.2.2.1.2.1 x.1.2.2.2.1))
theorem h_spec_boOwn (k : Nat) (x : Tup d_spec_boOwn.ps) : d_spec_boOwn.f (k + 1) x = fnK d_spec_boOwn x_spec_boOwn c_spec_boOwn k x := by kernel_rfl
theorem z_spec_boOwn (x : Tup d_spec_boOwn.ps) : d_spec_boOwn.f 0 x = none := by kernel_rfl
theorem l_spec_boOwn (k : Nat) : LOK Try.prog x_spec_boOwn k c_spec_boOwn := LOK.by [(f_spec_boOwn_g1D.E, .region 1 f_spec_boOwn_g1O true)] (by kernel_rfl) (AllOK.cons (f_spec_boOwn_g1ok k) AllOK.nil)
theorem s_spec_boOwn (k : Nat) : SoundAt Try.prog k 184 d_spec_boOwn.E := @fn_all Try.prog d_spec_boOwn x_spec_boOwn 184 Try.f184 c_spec_boOwn (by kernel_rfl) (by kernel_rfl) (by kernel_rfl) Try.func184 (by kernel_rfl) (by kernel_rfl) (by kernel_rfl) T_ok g_spec_boOwn l_spec_boOwn z_spec_boOwn h_spec_boOwn k
/-! function 189 -/
noncomputable def r_impl_turnFaulty : List PK := []
noncomputable def q_impl_turnFaulty : List PK := [PK.mk (Ty.pair (Ty.int IntKind.i64) (Ty.pair (Ty.int IntKind.i64) (Ty.slice (79 : Nat) (Ty.pair (Ty.int IntKind.i64) (Ty.int IntKind.i64))))) true (some ((2 : Nat), (79 : Nat), Ty.pair (Ty.int IntKind.i64) (Ty.int IntKind.i64))) false none, PK.mk (Ty.slice (3 : Nat) (Ty.int IntKind.i64)) false none false none, PK.mk (Ty.slice (3 : Nat) (Ty.int IntKind.i64)) false none false none, PK.mk (Ty.int IntKind.i64) false none false none]
noncomputable def to_impl_turnFaulty (r : List (Int × Int)) : Tup r_impl_turnFaulty × OutD := ((()), some ⟨Ty.pair (Ty.int IntKind.i64) (Ty.int IntKind.i64), r⟩)
noncomputable def of_impl_turnFaulty : Tup r_impl_turnFaulty × OutD → Option (List (Int × Int))
  | (a, some ⟨u, ys⟩) => if h : u = Ty.pair (Ty.int IntKind.i64) (Ty.int IntKind.i64) then some (castU h ys) else none
  | _ => none
theorem to_of_impl_turnFaulty : ∀ b r, of_impl_turnFaulty b = some r → to_impl_turnFaulty r = b := by
  rintro ⟨a, o⟩ r h
  cases o with
  | none => cases h
  | some s =>
    obtain ⟨u, ys⟩ := s
    simp only [of_impl_turnFaulty] at h
    split at h
    · rename_i hu; subst hu; injection h with h; subst h; rfl
    · cases h
noncomputable def f_impl_turnFaulty_0 : Nat → List (Int × Int) → Int → Int → List Int → List Int → Int → Int → Int → Option (List (Int × Int))
  | 0, _, _, _, _, _, _, _, _ => none
  | k + 1, o1, b2_0, b2_1, v1, v2, v3, v12, v13 =>
    if decide (v13 < v12) = true then if decide (v13 = v3) = true then if (0 : Int) ≤ v13 then if v13 < (↑(List.length v2) : Int) then if decide (List.getD v2 (Int.toNat v13) (0 : Int) ≠ (1 : Int)) = true then if (0 : Int) ≤ v13 then if v13 < (↑(List.length o1) : Int) then if (0 : Int) ≤ v13 then if v13 < (↑(List.length o1) : Int) then f_impl_turnFaulty_0 k (List.set o1 (Int.toNat v13) (Prod.fst (List.getD o1 (Int.toNat v13) ((0 : Int), (0 : Int))), wrap64 ((1 : Int) - Prod.snd (List.getD o1 (Int.toNat v13) ((0 : Int), (0 : Int)))))) b2_0 b2_1 v1 v2 v3 v12 (wrap64 (v13 + (1 : Int))) else none else none else none else none else f_impl_turnFaulty_0 k o1 b2_0 b2_1 v1 v2 v3 v12 (wrap64 (v13 + (1 : Int))) else none else none else if (0 : Int) ≤ v3 then if v3 < (↑(List.length o1) : Int) then if decide (Prod.fst (List.getD o1 (Int.toNat v3) ((0 : Int), (0 : Int))) = (6 : Int)) = true then if (0 : Int) ≤ v13 then if v13 < (↑(List.length o1) : Int) then if decide (Prod.fst (List.getD o1 (Int.toNat v13) ((0 : Int), (0 : Int))) = (6 : Int)) = true then if (0 : Int) ≤ v13 then if v13 < (↑(List.length v1) : Int) then if (0 : Int) ≤ v3 then if v3 < (↑(List.length v1) : Int) then if decide (List.getD v1 (Int.toNat v13) (0 : Int) = List.getD v1 (Int.toNat v3) (0 : Int)) = true then if (0 : Int) ≤ v13 then if v13 < (↑(List.length v2) : Int) then if decide (List.getD v2 (Int.toNat v13) (0 : Int) ≠ (1 : Int)) = true then if (0 : Int) ≤ v13 then if v13 < (↑(List.length o1) : Int) then if (0 : Int) ≤ v13 then if v13 < (↑(List.length o1) : Int) then f_impl_turnFaulty_0 k (List.set o1 (Int.toNat v13) (Prod.fst (List.getD o1 (Int.toNat v13) ((0 : Int), (0 : Int))), wrap64 ((1 : Int) - Prod.snd (List.getD o1 (Int.toNat v13) ((0 : Int), (0 : Int)))))) b2_0 b2_1 v1 v2 v3 v12 (wrap64 (v13 + (1 : Int))) else none else none else none else none else f_impl_turnFaulty_0 k o1 b2_0 b2_1 v1 v2 v3 v12 (wrap64 (v13 + (1 : Int))) else none else none else f_impl_turnFaulty_0 k o1 b2_0 b2_1 v1 v2 v3 v12 (wrap64 (v13 + (1 : Int))) else none else none else none else none else f_impl_turnFaulty_0 k o1 b2_0 b2_1 v1 v2 v3 v12 (wrap64 (v13 + (1 : Int))) else none else none else f_impl_turnFaulty_0 k o1 b2_0 b2_1 v1 v2 v3 v12 (wrap64 (v13 + (1 : Int))) else none else none else some o1
noncomputable def f_impl_turnFaulty_0i : Spec := Spec.mk [OSh.ro, OSh.row false (79 : Nat) (Ty.pair (Ty.int IntKind.i64) (Ty.int IntKind.i64)), OSh.box (53 : Nat) [Sh.int IntKind.i64, Sh.int IntKind.i64, Sh.sl (1 : Nat)]] [((1 : Nat), TSh.at (Sh.snap (0 : Nat) (Ty.int IntKind.i64))), ((2 : Nat), TSh.at (Sh.snap (0 : Nat) (Ty.int IntKind.i64))), ((3 : Nat), TSh.at (Sh.int IntKind.i64)), ((4 : Nat), TSh.at (Sh.ptr (2 : Nat) (0 : Nat))), ((12 : Nat), TSh.at (Sh.int IntKind.i64)), ((13 : Nat), TSh.at (Sh.int IntKind.i64))]
noncomputable def f_impl_turnFaulty_0o : Spec := Spec.mk [OSh.ro, OSh.row false (79 : Nat) (Ty.pair (Ty.int IntKind.i64) (Ty.int IntKind.i64))] []
noncomputable def f_impl_turnFaulty_0D : LoopDef (Tup r_impl_turnFaulty × OutD) := .plain f_impl_turnFaulty_0i f_impl_turnFaulty_0o (List (Int × Int)) (fun k x => f_impl_turnFaulty_0 k x.1.2.1 x.1.2.2.1.1 x.1.2.2.1.2.1 x.2.1 x.2.2.1 x.2.2.2.1 x.2.2.2.2.2.1 x.2.2.2.2.2.2.1) (fun z => (((), z, ()), (()))) (fun y => (y.1.2.1)) (fun _ => rfl)
noncomputable def f_impl_turnFaulty : Nat → Int × Int × List (Int × Int) → List Int → List Int → Int → Option (List (Int × Int))
  | 0, _, _, _, _ => none
  | k + 1, p0, p1, p2, p3 =>
    Option.bind (f_impl_turnFaulty_0 k (Prod.snd (Prod.snd p0)) (Prod.fst p0) (Prod.fst (Prod.snd p0)) p1 p2 p3 (↑(List.length (Prod.snd (Prod.snd p0))) : Int) (0 : Int)) fun z0 => some z0
noncomputable def d_impl_turnFaulty : FnDef := .of q_impl_turnFaulty r_impl_turnFaulty (List (Int × Int)) (fun k x => f_impl_turnFaulty k x.1 x.2.1 x.2.2.1 x.2.2.2.1) to_impl_turnFaulty of_impl_turnFaulty to_of_impl_turnFaulty
noncomputable def c_impl_turnFaulty : Code := Try.f189.body.getD .skip
noncomputable def x_impl_turnFaulty : Ctx (Tup r_impl_turnFaulty × OutD) := { T := T, G := [], mvs := [], no := 1, n := 69, res := resOf T q_impl_turnFaulty r_impl_turnFaulty Try.f189.results.toList, loops := [(0, f_impl_turnFaulty_0D.E)], regs := [], conds := [] }
theorem g_impl_turnFaulty (k : Nat) : EnvOK Try.prog k x_impl_turnFaulty.G := (EnvOK.nil mixed)
noncomputable def f_impl_turnFaulty_0B : Code := (findLoop 0 c_impl_turnFaulty).getD .skip
theorem f_impl_turnFaulty_0h (k : Nat) (x : f_impl_turnFaulty_0i.D) : f_impl_turnFaulty_0D.lp (k + 1) x = loopK x_impl_turnFaulty f_impl_turnFaulty_0D 0 f_impl_turnFaulty_0B k x := by kernel_rfl
theorem f_impl_turnFaulty_0l (k : Nat) : LOK Try.prog x_impl_turnFaulty k f_impl_turnFaulty_0B := LOK.by [] (by kernel_rfl) AllOK.nil
theorem f_impl_turnFaulty_0z (x : f_impl_turnFaulty_0i.D) : f_impl_turnFaulty_0D.lp 0 x = none := by kernel_rfl
theorem f_impl_turnFaulty_0ok (k : Nat) : EOK Try.prog x_impl_turnFaulty k f_impl_turnFaulty_0D.E (.block 0 (.loop f_impl_turnFaulty_0B)) := loop_ok T_ok g_impl_turnFaulty f_impl_turnFaulty_0z f_impl_turnFaulty_0h f_impl_turnFaulty_0l k
theorem h_impl_turnFaulty (k : Nat) (x : Tup d_impl_turnFaulty.ps) : d_impl_turnFaulty.f (k + 1) x = fnK d_impl_turnFaulty x_impl_turnFaulty c_impl_turnFaulty k x := by kernel_rfl
theorem z_impl_turnFaulty (x : Tup d_impl_turnFaulty.ps) : d_impl_turnFaulty.f 0 x = none := by kernel_rfl
theorem l_impl_turnFaulty (k : Nat) : LOK Try.prog x_impl_turnFaulty k c_impl_turnFaulty := LOK.by [(f_impl_turnFaulty_0D.E, .block 0 (.loop f_impl_turnFaulty_0B))] (by kernel_rfl) (AllOK.cons (f_impl_turnFaulty_0ok k) AllOK.nil)
theorem s_impl_turnFaulty (k : Nat) : SoundAt Try.prog k 189 d_impl_turnFaulty.E := @fn_all Try.prog d_impl_turnFaulty x_impl_turnFaulty 189 Try.f189 c_impl_turnFaulty (by kernel_rfl) (by kernel_rfl) (by kernel_rfl) Try.func189 (by kernel_rfl) (by kernel_rfl) (by kernel_rfl) T_ok g_impl_turnFaulty l_impl_turnFaulty z_impl_turnFaulty h_impl_turnFaulty k
/-! function 190 -/
noncomputable def r_impl_isGeared : List PK := [PK.mk Ty.bool false none false none]
noncomputable def q_impl_isGeared : List PK := [PK.mk (Ty.pair (Ty.int IntKind.i64) (Ty.int IntKind.i64)) true none false none]
noncomputable def to_impl_isGeared (r : Bool) : Tup r_impl_isGeared × OutD := ((r, ()), none)
noncomputable def of_impl_isGeared : Tup r_impl_isGeared × OutD → Option (Bool)
  | (a, none) => some (a.1)
  | _ => none
theorem to_of_impl_isGeared : ∀ b r, of_impl_isGeared b = some r → to_impl_isGeared r = b := by
  rintro ⟨a, o⟩ r h
  cases o with
  | none => injection h with h; subst h; rfl
  | some _ => cases h
noncomputable def f_impl_isGeared : Nat → Int × Int → Option Bool
  | 0, _ => none
  | k + 1, p0 =>
    if decide (Prod.fst p0 = (6 : Int)) = true then some true else some (decide (Prod.fst p0 = (7 : Int)))
noncomputable def d_impl_isGeared : FnDef := .of q_impl_isGeared r_impl_isGeared (Bool) (fun k x => f_impl_isGeared k x.1) to_impl_isGeared of_impl_isGeared to_of_impl_isGeared
noncomputable def c_impl_isGeared : Code := Try.f190.body.getD .skip
noncomputable def x_impl_isGeared : Ctx (Tup r_impl_isGeared × OutD) := { T := T, G := [], mvs := [], no := 0, n := 11, res := resOf T q_impl_isGeared r_impl_isGeared Try.f190.results.toList, loops := [], regs := [], conds := [] }
theorem g_impl_isGeared (k : Nat) : EnvOK Try.prog k x_impl_isGeared.G := (EnvOK.nil mixed)
theorem h_impl_isGeared (k : Nat) (x : Tup d_impl_isGeared.ps) : d_impl_isGeared.f (k + 1) x = fnK d_impl_isGeared x_impl_isGeared c_impl_isGeared k x := by kernel_rfl
theorem z_impl_isGeared (x : Tup d_impl_isGeared.ps) : d_impl_isGeared.f 0 x = none := by kernel_rfl
theorem l_impl_isGeared (k : Nat) : LOK Try.prog x_impl_isGeared k c_impl_isGeared := LOK.by [] (by kernel_rfl) AllOK.nil
theorem s_impl_isGeared (k : Nat) : SoundAt Try.prog k 190 d_impl_isGeared.E := @fn_all Try.prog d_impl_isGeared x_impl_isGeared 190 Try.f190 c_impl_isGeared (by kernel_rfl) (by kernel_rfl) (by kernel_rfl) Try.func190 (by kernel_rfl) (by kernel_rfl) (by kernel_rfl) T_ok g_impl_isGeared l_impl_isGeared z_impl_isGeared h_impl_isGeared k
/-! function 191 -/
noncomputable def r_impl_besideOf : List PK := [PK.mk (Ty.slice (3 : Nat) (Ty.int IntKind.i64)) false none false none]
noncomputable def q_impl_besideOf : List PK := [PK.mk (Ty.pair (Ty.int IntKind.i64) (Ty.pair (Ty.int IntKind.i64) (Ty.slice (79 : Nat) (Ty.pair (Ty.int IntKind.i64) (Ty.int IntKind.i64))))) true none false none, PK.mk (Ty.int IntKind.i64) false none false none]
noncomputable def to_impl_besideOf (r : List Int) : Tup r_impl_besideOf × OutD := ((r, ()), none)
noncomputable def of_impl_besideOf : Tup r_impl_besideOf × OutD → Option (List Int)
  | (a, none) => some (a.1)
  | _ => none
theorem to_of_impl_besideOf : ∀ b r, of_impl_besideOf b = some r → to_impl_besideOf r = b := by
  rintro ⟨a, o⟩ r h
  cases o with
  | none => injection h with h; subst h; rfl
  | some _ => cases h
noncomputable def f_impl_besideOf : Nat → Int × Int × List (Int × Int) → Int → Option (List Int)
  | 0, _, _ => none
  | k + 1, p0, p1 =>
    if Prod.fst (Prod.snd p0) = (0 : Int) then none else if Prod.fst (Prod.snd p0) = (0 : Int) then none else if decide (wrap64 (Int.tdiv p1 (Prod.fst (Prod.snd p0))) > (0 : Int)) = true then if decide (Int.tmod p1 (Prod.fst (Prod.snd p0)) > (0 : Int)) = true then if decide (wrap64 (Int.tmod p1 (Prod.fst (Prod.snd p0)) + (1 : Int)) < Prod.fst (Prod.snd p0)) = true then if decide (wrap64 (wrap64 (Int.tdiv p1 (Prod.fst (Prod.snd p0))) + (1 : Int)) < Prod.fst p0) = true then some ([wrap64 (p1 - Prod.fst (Prod.snd p0))] ++ [wrap64 (p1 - (1 : Int))] ++ [wrap64 (p1 + (1 : Int))] ++ [wrap64 (p1 + Prod.fst (Prod.snd p0))]) else some ([wrap64 (p1 - Prod.fst (Prod.snd p0))] ++ [wrap64 (p1 - (1 : Int))] ++ [wrap64 (p1 + (1 : Int))]) else if decide (wrap64 (wrap64 (Int.tdiv p1 (Prod.fst (Prod.snd p0))) + (1 : Int)) < Prod.fst p0) = true then some ([wrap64 (p1 - Prod.fst (Prod.snd p0))] ++ [wrap64 (p1 - (1 : Int))] ++ [wrap64 (p1 + Prod.fst (Prod.snd p0))]) else some ([wrap64 (p1 - Prod.fst (Prod.snd p0))] ++ [wrap64 (p1 - (1 : Int))]) else if decide (wrap64 (Int.tmod p1 (Prod.fst (Prod.snd p0)) + (1 : Int)) < Prod.fst (Prod.snd p0)) = true then if decide (wrap64 (wrap64 (Int.tdiv p1 (Prod.fst (Prod.snd p0))) + (1 : Int)) < Prod.fst p0) = true then some ([wrap64 (p1 - Prod.fst (Prod.snd p0))] ++ [wrap64 (p1 + (1 : Int))] ++ [wrap64 (p1 + Prod.fst (Prod.snd p0))]) else some ([wrap64 (p1 - Prod.fst (Prod.snd p0))] ++ [wrap64 (p1 + (1 : Int))]) else if decide (wrap64 (wrap64 (Int.tdiv p1 (Prod.fst (Prod.snd p0))) + (1 : Int)) < Prod.fst p0) = true then some ([wrap64 (p1 - Prod.fst (Prod.snd p0))] ++ [wrap64 (p1 + Prod.fst (Prod.snd p0))]) else some [wrap64 (p1 - Prod.fst (Prod.snd p0))] else if decide (Int.tmod p1 (Prod.fst (Prod.snd p0)) > (0 : Int)) = true then if decide (wrap64 (Int.tmod p1 (Prod.fst (Prod.snd p0)) + (1 : Int)) < Prod.fst (Prod.snd p0)) = true then if decide (wrap64 (wrap64 (Int.tdiv p1 (Prod.fst (Prod.snd p0))) + (1 : Int)) < Prod.fst p0) = true then some ([wrap64 (p1 - (1 : Int))] ++ [wrap64 (p1 + (1 : Int))] ++ [wrap64 (p1 + Prod.fst (Prod.snd p0))]) else some ([wrap64 (p1 - (1 : Int))] ++ [wrap64 (p1 + (1 : Int))]) else if decide (wrap64 (wrap64 (Int.tdiv p1 (Prod.fst (Prod.snd p0))) + (1 : Int)) < Prod.fst p0) = true then some ([wrap64 (p1 - (1 : Int))] ++ [wrap64 (p1 + Prod.fst (Prod.snd p0))]) else some [wrap64 (p1 - (1 : Int))] else if decide (wrap64 (Int.tmod p1 (Prod.fst (Prod.snd p0)) + (1 : Int)) < Prod.fst (Prod.snd p0)) = true then if decide (wrap64 (wrap64 (Int.tdiv p1 (Prod.fst (Prod.snd p0))) + (1 : Int)) < Prod.fst p0) = true then some ([wrap64 (p1 + (1 : Int))] ++ [wrap64 (p1 + Prod.fst (Prod.snd p0))]) else some [wrap64 (p1 + (1 : Int))] else if decide (wrap64 (wrap64 (Int.tdiv p1 (Prod.fst (Prod.snd p0))) + (1 : Int)) < Prod.fst p0) = true then some [wrap64 (p1 + Prod.fst (Prod.snd p0))] else some []
noncomputable def d_impl_besideOf : FnDef := .of q_impl_besideOf r_impl_besideOf (List Int) (fun k x => f_impl_besideOf k x.1 x.2.1) to_impl_besideOf of_impl_besideOf to_of_impl_besideOf
noncomputable def c_impl_besideOf : Code := Try.f191.body.getD .skip
noncomputable def x_impl_besideOf : Ctx (Tup r_impl_besideOf × OutD) := { T := T, G := [], mvs := [], no := 0, n := 56, res := resOf T q_impl_besideOf r_impl_besideOf Try.f191.results.toList, loops := [], regs := [], conds := [] }
theorem g_impl_besideOf (k : Nat) : EnvOK Try.prog k x_impl_besideOf.G := (EnvOK.nil mixed)
theorem h_impl_besideOf (k : Nat) (x : Tup d_impl_besideOf.ps) : d_impl_besideOf.f (k + 1) x = fnK d_impl_besideOf x_impl_besideOf c_impl_besideOf k x := by kernel_rfl
theorem z_impl_besideOf (x : Tup d_impl_besideOf.ps) : d_impl_besideOf.f 0 x = none := by kernel_rfl
theorem l_impl_besideOf (k : Nat) : LOK Try.prog x_impl_besideOf k c_impl_besideOf := LOK.by [] (by kernel_rfl) AllOK.nil
theorem s_impl_besideOf (k : Nat) : SoundAt Try.prog k 191 d_impl_besideOf.E := @fn_all Try.prog d_impl_besideOf x_impl_besideOf 191 Try.f191 c_impl_besideOf (by kernel_rfl) (by kernel_rfl) (by kernel_rfl) Try.func191 (by kernel_rfl) (by kernel_rfl) (by kernel_rfl) T_ok g_impl_besideOf l_impl_besideOf z_impl_besideOf h_impl_besideOf k
/-! function 199 -/
/-! function 207 -/
noncomputable def r_spec_paTurning : List PK := [PK.mk Ty.bool false none false none]
noncomputable def q_spec_paTurning : List PK := [PK.mk (Ty.pair (Ty.int IntKind.i64) (Ty.int IntKind.i64)) true none false none]
noncomputable def to_spec_paTurning (r : Bool) : Tup r_spec_paTurning × OutD := ((r, ()), none)
noncomputable def of_spec_paTurning : Tup r_spec_paTurning × OutD → Option (Bool)
  | (a, none) => some (a.1)
  | _ => none
theorem to_of_spec_paTurning : ∀ b r, of_spec_paTurning b = some r → to_spec_paTurning r = b := by
  rintro ⟨a, o⟩ r h
  cases o with
  | none => injection h with h; subst h; rfl
  | some _ => cases h
noncomputable def f_spec_paTurning : Nat → Int × Int → Option Bool
  | 0, _ => none
  | k + 1, p0 =>
    if decide (Prod.fst p0 = (3 : Int)) = true then some true else some (decide (Prod.fst p0 = (6 : Int)))
noncomputable def d_spec_paTurning : FnDef := .of q_spec_paTurning r_spec_paTurning (Bool) (fun k x => f_spec_paTurning k x.1) to_spec_paTurning of_spec_paTurning to_of_spec_paTurning
noncomputable def c_spec_paTurning : Code := Try.f207.body.getD .skip
noncomputable def x_spec_paTurning : Ctx (Tup r_spec_paTurning × OutD) := { T := T, G := [], mvs := [], no := 0, n := 11, res := resOf T q_spec_paTurning r_spec_paTurning Try.f207.results.toList, loops := [], regs := [], conds := [] }
theorem g_spec_paTurning (k : Nat) : EnvOK Try.prog k x_spec_paTurning.G := (EnvOK.nil mixed)
theorem h_spec_paTurning (k : Nat) (x : Tup d_spec_paTurning.ps) : d_spec_paTurning.f (k + 1) x = fnK d_spec_paTurning x_spec_paTurning c_spec_paTurning k x := by kernel_rfl
theorem z_spec_paTurning (x : Tup d_spec_paTurning.ps) : d_spec_paTurning.f 0 x = none := by kernel_rfl
theorem l_spec_paTurning (k : Nat) : LOK Try.prog x_spec_paTurning k c_spec_paTurning := LOK.by [] (by kernel_rfl) AllOK.nil
theorem s_spec_paTurning (k : Nat) : SoundAt Try.prog k 207 d_spec_paTurning.E := @fn_all Try.prog d_spec_paTurning x_spec_paTurning 207 Try.f207 c_spec_paTurning (by kernel_rfl) (by kernel_rfl) (by kernel_rfl) Try.func207 (by kernel_rfl) (by kernel_rfl) (by kernel_rfl) T_ok g_spec_paTurning l_spec_paTurning z_spec_paTurning h_spec_paTurning k
/-! function 208 -/
noncomputable def r_spec_ggGear : List PK := [PK.mk Ty.bool false none false none]
noncomputable def q_spec_ggGear : List PK := [PK.mk (Ty.pair (Ty.int IntKind.i64) (Ty.int IntKind.i64)) true none false none]
noncomputable def to_spec_ggGear (r : Bool) : Tup r_spec_ggGear × OutD := ((r, ()), none)
noncomputable def of_spec_ggGear : Tup r_spec_ggGear × OutD → Option (Bool)
  | (a, none) => some (a.1)
  | _ => none
theorem to_of_spec_ggGear : ∀ b r, of_spec_ggGear b = some r → to_spec_ggGear r = b := by
  rintro ⟨a, o⟩ r h
  cases o with
  | none => injection h with h; subst h; rfl
  | some _ => cases h
noncomputable def f_spec_ggGear : Nat → Int × Int → Option Bool
  | 0, _ => none
  | k + 1, p0 =>
    if decide (Prod.fst p0 = (6 : Int)) = true then some true else some (decide (Prod.fst p0 = (7 : Int)))
noncomputable def d_spec_ggGear : FnDef := .of q_spec_ggGear r_spec_ggGear (Bool) (fun k x => f_spec_ggGear k x.1) to_spec_ggGear of_spec_ggGear to_of_spec_ggGear
noncomputable def c_spec_ggGear : Code := Try.f208.body.getD .skip
noncomputable def x_spec_ggGear : Ctx (Tup r_spec_ggGear × OutD) := { T := T, G := [], mvs := [], no := 0, n := 11, res := resOf T q_spec_ggGear r_spec_ggGear Try.f208.results.toList, loops := [], regs := [], conds := [] }
theorem g_spec_ggGear (k : Nat) : EnvOK Try.prog k x_spec_ggGear.G := (EnvOK.nil mixed)
theorem h_spec_ggGear (k : Nat) (x : Tup d_spec_ggGear.ps) : d_spec_ggGear.f (k + 1) x = fnK d_spec_ggGear x_spec_ggGear c_spec_ggGear k x := by kernel_rfl
theorem z_spec_ggGear (x : Tup d_spec_ggGear.ps) : d_spec_ggGear.f 0 x = none := by kernel_rfl
theorem l_spec_ggGear (k : Nat) : LOK Try.prog x_spec_ggGear k c_spec_ggGear := LOK.by [] (by kernel_rfl) AllOK.nil
theorem s_spec_ggGear (k : Nat) : SoundAt Try.prog k 208 d_spec_ggGear.E := @fn_all Try.prog d_spec_ggGear x_spec_ggGear 208 Try.f208 c_spec_ggGear (by kernel_rfl) (by kernel_rfl) (by kernel_rfl) Try.func208 (by kernel_rfl) (by kernel_rfl) (by kernel_rfl) T_ok g_spec_ggGear l_spec_ggGear z_spec_ggGear h_spec_ggGear k
/-! function 209 -/
noncomputable def r_spec_ggNear : List PK := [PK.mk (Ty.slice (3 : Nat) (Ty.int IntKind.i64)) false none false none]
noncomputable def q_spec_ggNear : List PK := [PK.mk (Ty.pair (Ty.int IntKind.i64) (Ty.pair (Ty.int IntKind.i64) (Ty.slice (79 : Nat) (Ty.pair (Ty.int IntKind.i64) (Ty.int IntKind.i64))))) true none false none, PK.mk (Ty.int IntKind.i64) false none false none]
noncomputable def to_spec_ggNear (r : List Int) : Tup r_spec_ggNear × OutD := ((r, ()), none)
noncomputable def of_spec_ggNear : Tup r_spec_ggNear × OutD → Option (List Int)
  | (a, none) => some (a.1)
  | _ => none
theorem to_of_spec_ggNear : ∀ b r, of_spec_ggNear b = some r → to_spec_ggNear r = b := by
  rintro ⟨a, o⟩ r h
  cases o with
  | none => injection h with h; subst h; rfl
  | some _ => cases h
noncomputable def f_spec_ggNear : Nat → Int × Int × List (Int × Int) → Int → Option (List Int)
  | 0, _, _ => none
  | k + 1, p0, p1 =>
    if Prod.fst (Prod.snd p0) = (0 : Int) then none else if Prod.fst (Prod.snd p0) = (0 : Int) then none else if decide (wrap64 (Int.tdiv p1 (Prod.fst (Prod.snd p0))) > (0 : Int)) = true then if decide (Int.tmod p1 (Prod.fst (Prod.snd p0)) > (0 : Int)) = true then if decide (wrap64 (Int.tmod p1 (Prod.fst (Prod.snd p0)) + (1 : Int)) < Prod.fst (Prod.snd p0)) = true then if decide (wrap64 (wrap64 (Int.tdiv p1 (Prod.fst (Prod.snd p0))) + (1 : Int)) < Prod.fst p0) = true then some ([wrap64 (p1 - Prod.fst (Prod.snd p0))] ++ [wrap64 (p1 - (1 : Int))] ++ [wrap64 (p1 + (1 : Int))] ++ [wrap64 (p1 + Prod.fst (Prod.snd p0))]) else some ([wrap64 (p1 - Prod.fst (Prod.snd p0))] ++ [wrap64 (p1 - (1 : Int))] ++ [wrap64 (p1 + (1 : Int))]) else if decide (wrap64 (wrap64 (Int.tdiv p1 (Prod.fst (Prod.snd p0))) + (1 : Int)) < Prod.fst p0) = true then some ([wrap64 (p1 - Prod.fst (Prod.snd p0))] ++ [wrap64 (p1 - (1 : Int))] ++ [wrap64 (p1 + Prod.fst (Prod.snd p0))]) else some ([wrap64 (p1 - Prod.fst (Prod.snd p0))] ++ [wrap64 (p1 - (1 : Int))]) else if decide (wrap64 (Int.tmod p1 (Prod.fst (Prod.snd p0)) + (1 : Int)) < Prod.fst (Prod.snd p0)) = true then if decide (wrap64 (wrap64 (Int.tdiv p1 (Prod.fst (Prod.snd p0))) + (1 : Int)) < Prod.fst p0) = true then some ([wrap64 (p1 - Prod.fst (Prod.snd p0))] ++ [wrap64 (p1 + (1 : Int))] ++ [wrap64 (p1 + Prod.fst (Prod.snd p0))]) else some ([wrap64 (p1 - Prod.fst (Prod.snd p0))] ++ [wrap64 (p1 + (1 : Int))]) else if decide (wrap64 (wrap64 (Int.tdiv p1 (Prod.fst (Prod.snd p0))) + (1 : Int)) < Prod.fst p0) = true then some ([wrap64 (p1 - Prod.fst (Prod.snd p0))] ++ [wrap64 (p1 + Prod.fst (Prod.snd p0))]) else some [wrap64 (p1 - Prod.fst (Prod.snd p0))] else if decide (Int.tmod p1 (Prod.fst (Prod.snd p0)) > (0 : Int)) = true then if decide (wrap64 (Int.tmod p1 (Prod.fst (Prod.snd p0)) + (1 : Int)) < Prod.fst (Prod.snd p0)) = true then if decide (wrap64 (wrap64 (Int.tdiv p1 (Prod.fst (Prod.snd p0))) + (1 : Int)) < Prod.fst p0) = true then some ([wrap64 (p1 - (1 : Int))] ++ [wrap64 (p1 + (1 : Int))] ++ [wrap64 (p1 + Prod.fst (Prod.snd p0))]) else some ([wrap64 (p1 - (1 : Int))] ++ [wrap64 (p1 + (1 : Int))]) else if decide (wrap64 (wrap64 (Int.tdiv p1 (Prod.fst (Prod.snd p0))) + (1 : Int)) < Prod.fst p0) = true then some ([wrap64 (p1 - (1 : Int))] ++ [wrap64 (p1 + Prod.fst (Prod.snd p0))]) else some [wrap64 (p1 - (1 : Int))] else if decide (wrap64 (Int.tmod p1 (Prod.fst (Prod.snd p0)) + (1 : Int)) < Prod.fst (Prod.snd p0)) = true then if decide (wrap64 (wrap64 (Int.tdiv p1 (Prod.fst (Prod.snd p0))) + (1 : Int)) < Prod.fst p0) = true then some ([wrap64 (p1 + (1 : Int))] ++ [wrap64 (p1 + Prod.fst (Prod.snd p0))]) else some [wrap64 (p1 + (1 : Int))] else if decide (wrap64 (wrap64 (Int.tdiv p1 (Prod.fst (Prod.snd p0))) + (1 : Int)) < Prod.fst p0) = true then some [wrap64 (p1 + Prod.fst (Prod.snd p0))] else some []
noncomputable def d_spec_ggNear : FnDef := .of q_spec_ggNear r_spec_ggNear (List Int) (fun k x => f_spec_ggNear k x.1 x.2.1) to_spec_ggNear of_spec_ggNear to_of_spec_ggNear
noncomputable def c_spec_ggNear : Code := Try.f209.body.getD .skip
noncomputable def x_spec_ggNear : Ctx (Tup r_spec_ggNear × OutD) := { T := T, G := [], mvs := [], no := 0, n := 55, res := resOf T q_spec_ggNear r_spec_ggNear Try.f209.results.toList, loops := [], regs := [], conds := [] }
theorem g_spec_ggNear (k : Nat) : EnvOK Try.prog k x_spec_ggNear.G := (EnvOK.nil mixed)
theorem h_spec_ggNear (k : Nat) (x : Tup d_spec_ggNear.ps) : d_spec_ggNear.f (k + 1) x = fnK d_spec_ggNear x_spec_ggNear c_spec_ggNear k x := by kernel_rfl
theorem z_spec_ggNear (x : Tup d_spec_ggNear.ps) : d_spec_ggNear.f 0 x = none := by kernel_rfl
theorem l_spec_ggNear (k : Nat) : LOK Try.prog x_spec_ggNear k c_spec_ggNear := LOK.by [] (by kernel_rfl) AllOK.nil
theorem s_spec_ggNear (k : Nat) : SoundAt Try.prog k 209 d_spec_ggNear.E := @fn_all Try.prog d_spec_ggNear x_spec_ggNear 209 Try.f209 c_spec_ggNear (by kernel_rfl) (by kernel_rfl) (by kernel_rfl) Try.func209 (by kernel_rfl) (by kernel_rfl) (by kernel_rfl) T_ok g_spec_ggNear l_spec_ggNear z_spec_ggNear h_spec_ggNear k
/-! function 210 -/
noncomputable def r_spec_faAt : List PK := [PK.mk (Ty.int IntKind.i64) false none false none]
noncomputable def q_spec_faAt : List PK := [PK.mk (Ty.slice (77 : Nat) (Ty.pair (Ty.int IntKind.i64) (Ty.pair (Ty.int IntKind.i64) (Ty.int IntKind.i64)))) false none false none, PK.mk (Ty.int IntKind.i64) false none false none, PK.mk (Ty.int IntKind.i64) false none false none]
noncomputable def to_spec_faAt (r : Int) : Tup r_spec_faAt × OutD := ((r, ()), none)
noncomputable def of_spec_faAt : Tup r_spec_faAt × OutD → Option (Int)
  | (a, none) => some (a.1)
  | _ => none
theorem to_of_spec_faAt : ∀ b r, of_spec_faAt b = some r → to_spec_faAt r = b := by
  rintro ⟨a, o⟩ r h
  cases o with
  | none => injection h with h; subst h; rfl
  | some _ => cases h
noncomputable def f_spec_faAt_0 : Nat → Int → Int → List (Int × Int × Int) → Int → Int → Option (LR Unit Int)
  | 0, _, _, _, _, _ => none
  | k + 1, v1, v2, v9, v10, v11 =>
    if decide (v11 < v10) = true then if (0 : Int) ≤ v11 then if v11 < (↑(List.length v9) : Int) then if decide (Prod.fst (Prod.snd (List.getD v9 (Int.toNat v11) ((0 : Int), (0 : Int), (0 : Int)))) = v1) = true then if decide (Prod.snd (Prod.snd (List.getD v9 (Int.toNat v11) ((0 : Int), (0 : Int), (0 : Int)))) = v2) = true then some (LR.ret (Prod.fst (List.getD v9 (Int.toNat v11) ((0 : Int), (0 : Int), (0 : Int))))) else f_spec_faAt_0 k v1 v2 v9 v10 (wrap64 (v11 + (1 : Int))) else f_spec_faAt_0 k v1 v2 v9 v10 (wrap64 (v11 + (1 : Int))) else none else none else some (LR.go ())
noncomputable def f_spec_faAt_0i : Spec := Spec.mk [OSh.ro] [((1 : Nat), TSh.at (Sh.int IntKind.i64)), ((2 : Nat), TSh.at (Sh.int IntKind.i64)), ((9 : Nat), TSh.at (Sh.snap (0 : Nat) (Ty.pair (Ty.int IntKind.i64) (Ty.pair (Ty.int IntKind.i64) (Ty.int IntKind.i64))))), ((10 : Nat), TSh.at (Sh.int IntKind.i64)), ((11 : Nat), TSh.at (Sh.int IntKind.i64))]
noncomputable def f_spec_faAt_0o : Spec := Spec.mk [OSh.ro] []
noncomputable def f_spec_faAt_0D : LoopDef (Tup r_spec_faAt × OutD) := .rets f_spec_faAt_0i f_spec_faAt_0o (Unit) (Int) (fun k x => f_spec_faAt_0 k x.2.1 x.2.2.1 x.2.2.2.1 x.2.2.2.2.1 x.2.2.2.2.2.1) (fun z => (((), ()), (()))) (fun y => ()) (fun _ => rfl) to_spec_faAt of_spec_faAt to_of_spec_faAt
noncomputable def f_spec_faAt : Nat → List (Int × Int × Int) → Int → Int → Option Int
  | 0, _, _, _ => none
  | k + 1, p0, p1, p2 =>
    Option.bind (f_spec_faAt_0 k p1 p2 p0 (↑(List.length p0) : Int) (0 : Int)) fun z0 => LR.on z0 (fun y0 => some (0 : Int)) fun r0 => some r0
noncomputable def d_spec_faAt : FnDef := .of q_spec_faAt r_spec_faAt (Int) (fun k x => f_spec_faAt k x.1 x.2.1 x.2.2.1) to_spec_faAt of_spec_faAt to_of_spec_faAt
noncomputable def c_spec_faAt : Code := Try.f210.body.getD .skip
noncomputable def x_spec_faAt : Ctx (Tup r_spec_faAt × OutD) := { T := T, G := [], mvs := [], no := 0, n := 28, res := resOf T q_spec_faAt r_spec_faAt Try.f210.results.toList, loops := [(0, f_spec_faAt_0D.E)], regs := [], conds := [] }
theorem g_spec_faAt (k : Nat) : EnvOK Try.prog k x_spec_faAt.G := (EnvOK.nil mixed)
noncomputable def f_spec_faAt_0B : Code := (findLoop 0 c_spec_faAt).getD .skip
theorem f_spec_faAt_0h (k : Nat) (x : f_spec_faAt_0i.D) : f_spec_faAt_0D.lp (k + 1) x = loopK x_spec_faAt f_spec_faAt_0D 0 f_spec_faAt_0B k x := by kernel_rfl
theorem f_spec_faAt_0l (k : Nat) : LOK Try.prog x_spec_faAt k f_spec_faAt_0B := LOK.by [] (by kernel_rfl) AllOK.nil
theorem f_spec_faAt_0z (x : f_spec_faAt_0i.D) : f_spec_faAt_0D.lp 0 x = none := by kernel_rfl
theorem f_spec_faAt_0ok (k : Nat) : EOK Try.prog x_spec_faAt k f_spec_faAt_0D.E (.block 0 (.loop f_spec_faAt_0B)) := loop_ok T_ok g_spec_faAt f_spec_faAt_0z f_spec_faAt_0h f_spec_faAt_0l k
theorem h_spec_faAt (k : Nat) (x : Tup d_spec_faAt.ps) : d_spec_faAt.f (k + 1) x = fnK d_spec_faAt x_spec_faAt c_spec_faAt k x := by kernel_rfl
theorem z_spec_faAt (x : Tup d_spec_faAt.ps) : d_spec_faAt.f 0 x = none := by kernel_rfl
theorem l_spec_faAt (k : Nat) : LOK Try.prog x_spec_faAt k c_spec_faAt := LOK.by [(f_spec_faAt_0D.E, .block 0 (.loop f_spec_faAt_0B))] (by kernel_rfl) (AllOK.cons (f_spec_faAt_0ok k) AllOK.nil)
theorem s_spec_faAt (k : Nat) : SoundAt Try.prog k 210 d_spec_faAt.E := @fn_all Try.prog d_spec_faAt x_spec_faAt 210 Try.f210 c_spec_faAt (by kernel_rfl) (by kernel_rfl) (by kernel_rfl) Try.func210 (by kernel_rfl) (by kernel_rfl) (by kernel_rfl) T_ok g_spec_faAt l_spec_faAt z_spec_faAt h_spec_faAt k
/-! function 211 -/
noncomputable def r_spec_paGoes : List PK := [PK.mk (Ty.int IntKind.i64) false none false none]
noncomputable def q_spec_paGoes : List PK := [PK.mk (Ty.pair (Ty.int IntKind.i64) (Ty.int IntKind.i64)) true none false none, PK.mk (Ty.int IntKind.i64) false none false none]
noncomputable def to_spec_paGoes (r : Int) : Tup r_spec_paGoes × OutD := ((r, ()), none)
noncomputable def of_spec_paGoes : Tup r_spec_paGoes × OutD → Option (Int)
  | (a, none) => some (a.1)
  | _ => none
theorem to_of_spec_paGoes : ∀ b r, of_spec_paGoes b = some r → to_spec_paGoes r = b := by
  rintro ⟨a, o⟩ r h
  cases o with
  | none => injection h with h; subst h; rfl
  | some _ => cases h
noncomputable def f_spec_paGoes : Nat → Int × Int → Int → Option Int
  | 0, _, _ => none
  | k + 1, p0, p1 =>
    if decide (Prod.fst p0 = (1 : Int)) = true then some (-1 : Int) else if decide (Prod.fst p0 = (2 : Int)) = true then some (1 : Int) else if decide (Prod.fst p0 = (3 : Int)) = true then some (wrap64 (wrap64 ((2 : Int) * Prod.snd p0) - (1 : Int))) else if decide (Prod.fst p0 = (6 : Int)) = true then some (wrap64 (wrap64 ((2 : Int) * Prod.snd p0) - (1 : Int))) else if decide (Prod.fst p0 = (4 : Int)) = true then some (wrap64 ((0 : Int) - p1)) else some (0 : Int)
noncomputable def d_spec_paGoes : FnDef := .of q_spec_paGoes r_spec_paGoes (Int) (fun k x => f_spec_paGoes k x.1 x.2.1) to_spec_paGoes of_spec_paGoes to_of_spec_paGoes
noncomputable def c_spec_paGoes : Code := Try.f211.body.getD .skip
noncomputable def x_spec_paGoes : Ctx (Tup r_spec_paGoes × OutD) := { T := T, G := [], mvs := [], no := 0, n := 22, res := resOf T q_spec_paGoes r_spec_paGoes Try.f211.results.toList, loops := [], regs := [], conds := [] }
theorem g_spec_paGoes (k : Nat) : EnvOK Try.prog k x_spec_paGoes.G := (EnvOK.nil mixed)
theorem h_spec_paGoes (k : Nat) (x : Tup d_spec_paGoes.ps) : d_spec_paGoes.f (k + 1) x = fnK d_spec_paGoes x_spec_paGoes c_spec_paGoes k x := by kernel_rfl
theorem z_spec_paGoes (x : Tup d_spec_paGoes.ps) : d_spec_paGoes.f 0 x = none := by kernel_rfl
theorem l_spec_paGoes (k : Nat) : LOK Try.prog x_spec_paGoes k c_spec_paGoes := LOK.by [] (by kernel_rfl) AllOK.nil
theorem s_spec_paGoes (k : Nat) : SoundAt Try.prog k 211 d_spec_paGoes.E := @fn_all Try.prog d_spec_paGoes x_spec_paGoes 211 Try.f211 c_spec_paGoes (by kernel_rfl) (by kernel_rfl) (by kernel_rfl) Try.func211 (by kernel_rfl) (by kernel_rfl) (by kernel_rfl) T_ok g_spec_paGoes l_spec_paGoes z_spec_paGoes h_spec_paGoes k
/-! function 213 -/
noncomputable def r_impl_IsCell : List PK := [PK.mk Ty.bool false none false none]
noncomputable def q_impl_IsCell : List PK := [PK.mk (Ty.pair (Ty.int IntKind.i64) (Ty.int IntKind.i64)) true none false none]
noncomputable def to_impl_IsCell (r : Bool) : Tup r_impl_IsCell × OutD := ((r, ()), none)
noncomputable def of_impl_IsCell : Tup r_impl_IsCell × OutD → Option (Bool)
  | (a, none) => some (a.1)
  | _ => none
theorem to_of_impl_IsCell : ∀ b r, of_impl_IsCell b = some r → to_impl_IsCell r = b := by
  rintro ⟨a, o⟩ r h
  cases o with
  | none => injection h with h; subst h; rfl
  | some _ => cases h
noncomputable def f_impl_IsCell : Nat → Int × Int → Option Bool
  | 0, _ => none
  | k + 1, p0 =>
    if decide (Prod.fst p0 < (0 : Int)) = true then some false else if decide (Prod.fst p0 > (7 : Int)) = true then some false else if decide (Prod.snd p0 < (0 : Int)) = true then some false else if decide (Prod.snd p0 > (1 : Int)) = true then some false else if decide (Prod.snd p0 = (0 : Int)) = true then some true else if decide (Prod.fst p0 = (3 : Int)) = true then some true else some (decide (Prod.fst p0 = (6 : Int)))
noncomputable def d_impl_IsCell : FnDef := .of q_impl_IsCell r_impl_IsCell (Bool) (fun k x => f_impl_IsCell k x.1) to_impl_IsCell of_impl_IsCell to_of_impl_IsCell
noncomputable def c_impl_IsCell : Code := Try.f213.body.getD .skip
noncomputable def x_impl_IsCell : Ctx (Tup r_impl_IsCell × OutD) := { T := T, G := [], mvs := [], no := 0, n := 34, res := resOf T q_impl_IsCell r_impl_IsCell Try.f213.results.toList, loops := [], regs := [], conds := [] }
theorem g_impl_IsCell (k : Nat) : EnvOK Try.prog k x_impl_IsCell.G := (EnvOK.nil mixed)
theorem h_impl_IsCell (k : Nat) (x : Tup d_impl_IsCell.ps) : d_impl_IsCell.f (k + 1) x = fnK d_impl_IsCell x_impl_IsCell c_impl_IsCell k x := by kernel_rfl
theorem z_impl_IsCell (x : Tup d_impl_IsCell.ps) : d_impl_IsCell.f 0 x = none := by kernel_rfl
theorem l_impl_IsCell (k : Nat) : LOK Try.prog x_impl_IsCell k c_impl_IsCell := LOK.by [] (by kernel_rfl) AllOK.nil
theorem s_impl_IsCell (k : Nat) : SoundAt Try.prog k 213 d_impl_IsCell.E := @fn_all Try.prog d_impl_IsCell x_impl_IsCell 213 Try.f213 c_impl_IsCell (by kernel_rfl) (by kernel_rfl) (by kernel_rfl) Try.func213 (by kernel_rfl) (by kernel_rfl) (by kernel_rfl) T_ok g_impl_IsCell l_impl_IsCell z_impl_IsCell h_impl_IsCell k
/-! function 214 -/
/-! function 215 -/
noncomputable def r_spec_ttBit : List PK := [PK.mk (Ty.int IntKind.i64) false none false none]
noncomputable def q_spec_ttBit : List PK := [PK.mk (Ty.int IntKind.i64) false none false none, PK.mk (Ty.int IntKind.i64) false none false none]
noncomputable def to_spec_ttBit (r : Int) : Tup r_spec_ttBit × OutD := ((r, ()), none)
noncomputable def of_spec_ttBit : Tup r_spec_ttBit × OutD → Option (Int)
  | (a, none) => some (a.1)
  | _ => none
theorem to_of_spec_ttBit : ∀ b r, of_spec_ttBit b = some r → to_spec_ttBit r = b := by
  rintro ⟨a, o⟩ r h
  cases o with
  | none => injection h with h; subst h; rfl
  | some _ => cases h
noncomputable def f_spec_ttBit : Nat → Int → Int → Option Int
  | 0, _, _ => none
  | k + 1, p0, p1 =>
    if IntKind.wrap IntKind.u64 p1 < (0 : Int) then none else some (bits BinOp.and IntKind.i64 (Int.fdiv p0 ((2 : Int) ^ min (Int.toNat (IntKind.wrap IntKind.u64 p1)) (IntKind.bits IntKind.i64))) (1 : Int))
noncomputable def d_spec_ttBit : FnDef := .of q_spec_ttBit r_spec_ttBit (Int) (fun k x => f_spec_ttBit k x.1 x.2.1) to_spec_ttBit of_spec_ttBit to_of_spec_ttBit
noncomputable def c_spec_ttBit : Code := Try.f215.body.getD .skip
noncomputable def x_spec_ttBit : Ctx (Tup r_spec_ttBit × OutD) := { T := T, G := [], mvs := [], no := 0, n := 10, res := resOf T q_spec_ttBit r_spec_ttBit Try.f215.results.toList, loops := [], regs := [], conds := [] }
theorem g_spec_ttBit (k : Nat) : EnvOK Try.prog k x_spec_ttBit.G := (EnvOK.nil mixed)
theorem h_spec_ttBit (k : Nat) (x : Tup d_spec_ttBit.ps) : d_spec_ttBit.f (k + 1) x = fnK d_spec_ttBit x_spec_ttBit c_spec_ttBit k x := by kernel_rfl
theorem z_spec_ttBit (x : Tup d_spec_ttBit.ps) : d_spec_ttBit.f 0 x = none := by kernel_rfl
theorem l_spec_ttBit (k : Nat) : LOK Try.prog x_spec_ttBit k c_spec_ttBit := LOK.by [] (by kernel_rfl) AllOK.nil
theorem s_spec_ttBit (k : Nat) : SoundAt Try.prog k 215 d_spec_ttBit.E := @fn_all Try.prog d_spec_ttBit x_spec_ttBit 215 Try.f215 c_spec_ttBit (by kernel_rfl) (by kernel_rfl) (by kernel_rfl) Try.func215 (by kernel_rfl) (by kernel_rfl) (by kernel_rfl) T_ok g_spec_ttBit l_spec_ttBit z_spec_ttBit h_spec_ttBit k
/-! function 218 -/
noncomputable def r_spec_paTurn : List PK := [PK.mk (Ty.pair (Ty.int IntKind.i64) (Ty.int IntKind.i64)) true none false none]
noncomputable def q_spec_paTurn : List PK := [PK.mk (Ty.pair (Ty.int IntKind.i64) (Ty.int IntKind.i64)) true none false none]
noncomputable def to_spec_paTurn (r : Int × Int) : Tup r_spec_paTurn × OutD := ((r, ()), none)
noncomputable def of_spec_paTurn : Tup r_spec_paTurn × OutD → Option (Int × Int)
  | (a, none) => some (a.1)
  | _ => none
theorem to_of_spec_paTurn : ∀ b r, of_spec_paTurn b = some r → to_spec_paTurn r = b := by
  rintro ⟨a, o⟩ r h
  cases o with
  | none => injection h with h; subst h; rfl
  | some _ => cases h
noncomputable def f_spec_paTurn : Nat → Int × Int → Option (Int × Int)
  | 0, _ => none
  | k + 1, p0 =>
    some (Prod.fst p0, wrap64 ((1 : Int) - Prod.snd p0))
noncomputable def d_spec_paTurn : FnDef := .of q_spec_paTurn r_spec_paTurn (Int × Int) (fun k x => f_spec_paTurn k x.1) to_spec_paTurn of_spec_paTurn to_of_spec_paTurn
noncomputable def c_spec_paTurn : Code := Try.f218.body.getD .skip
noncomputable def x_spec_paTurn : Ctx (Tup r_spec_paTurn × OutD) := { T := T, G := [], mvs := [], no := 0, n := 9, res := resOf T q_spec_paTurn r_spec_paTurn Try.f218.results.toList, loops := [], regs := [], conds := [] }
theorem g_spec_paTurn (k : Nat) : EnvOK Try.prog k x_spec_paTurn.G := (EnvOK.nil mixed)
theorem h_spec_paTurn (k : Nat) (x : Tup d_spec_paTurn.ps) : d_spec_paTurn.f (k + 1) x = fnK d_spec_paTurn x_spec_paTurn c_spec_paTurn k x := by kernel_rfl
theorem z_spec_paTurn (x : Tup d_spec_paTurn.ps) : d_spec_paTurn.f 0 x = none := by kernel_rfl
theorem l_spec_paTurn (k : Nat) : LOK Try.prog x_spec_paTurn k c_spec_paTurn := LOK.by [] (by kernel_rfl) AllOK.nil
theorem s_spec_paTurn (k : Nat) : SoundAt Try.prog k 218 d_spec_paTurn.E := @fn_all Try.prog d_spec_paTurn x_spec_paTurn 218 Try.f218 c_spec_paTurn (by kernel_rfl) (by kernel_rfl) (by kernel_rfl) Try.func218 (by kernel_rfl) (by kernel_rfl) (by kernel_rfl) T_ok g_spec_paTurn l_spec_paTurn z_spec_paTurn h_spec_paTurn k
end
end Go.Proofs.Ytgjmhbjdhihgaaa.Vs

set_option maxRecDepth 100000
set_option maxHeartbeats 2000000
set_option linter.unusedVariables false
set_option linter.unusedSimpArgs false
namespace Go.Proofs.Ytgjmhbjdhihgaaa.Vs
open Go.RowKit
noncomputable section
/-! function 10 -/
/-! function 13 -/
/-! function 63 -/
/-! function 86 -/
/-! function 88 -/
/-! function 93 -/
/-! function 94 -/
/-! function 98 -/
/-! function 103 -/
/-! function 104 -/
/-! function 106 -/
/-! function 111 -/
noncomputable def r_spec_l1Cur_pick : List PK := [PK.mk (Ty.int IntKind.i64) false none false none]
noncomputable def q_spec_l1Cur_pick : List PK := [PK.mk (Ty.pair (Ty.slice (5 : Nat) (Ty.int IntKind.u8)) (Ty.pair (Ty.int IntKind.i64) (Ty.int IntKind.u64))) false none false (some (114 : Nat)), PK.mk (Ty.int IntKind.i64) false none false none]
noncomputable def to_spec_l1Cur_pick (r : Int × Int × Int) : Tup r_spec_l1Cur_pick × OutD := ((r.1, ()), some ⟨Ty.pair (Ty.slice (5 : Nat) (Ty.int IntKind.u8)) (Ty.pair (Ty.int IntKind.i64) (Ty.int IntKind.u64)), [([], r.2)]⟩)
noncomputable def of_spec_l1Cur_pick : Tup r_spec_l1Cur_pick × OutD → Option (Int × Int × Int)
  | (a, some ⟨u, ys⟩) => if h : u = Ty.pair (Ty.slice (5 : Nat) (Ty.int IntKind.u8)) (Ty.pair (Ty.int IntKind.i64) (Ty.int IntKind.u64)) then (match castU h ys with
    | [([], y)] => some (a.1, y)
    | _ => none) else none
  | _ => none
theorem to_of_spec_l1Cur_pick : ∀ b r, of_spec_l1Cur_pick b = some r → to_spec_l1Cur_pick r = b := by
  rintro ⟨a, o⟩ r h
  cases o with
  | none => cases h
  | some s =>
    obtain ⟨u, ys⟩ := s
    simp only [of_spec_l1Cur_pick] at h
    split at h
    · rename_i hu
      subst hu
      match ys, h with
      | [], h => cases (show (none : Option _) = some r from h)
      | [([], y)], h => injection (show some _ = some r from h) with h; subst h; rfl
      | [(_ :: _, y)], h => cases (show (none : Option _) = some r from h)
      | (h1, _) :: _ :: _, h => cases h1 <;> cases (show (none : Option _) = some r from h)
    · cases h
noncomputable def f_spec_l1Cur_pick : Nat → List Int × Int × Int → Int → Option (Int × Int × Int)
  | 0, _, _ => none
  | k + 1, p0, p1 =>
    if decide (p1 ≤ (1 : Int)) = true then some ((0 : Int), Prod.fst (Prod.snd p0), Prod.snd (Prod.snd p0)) else Option.bind (f_spec_l1Cur_next k (Prod.fst p0, Prod.fst (Prod.snd p0), Prod.snd (Prod.snd p0))) fun z0 => if decide (p1 > (200 : Int)) = true then Option.bind (f_spec_l1Cur_next k (Prod.fst p0, Prod.fst (Prod.snd z0), Prod.snd (Prod.snd z0))) fun z1 => if p1 = (0 : Int) then none else some (Int.tmod (wrap64 (wrap64 (Prod.fst z0 * (256 : Int)) + Prod.fst z1)) p1, Prod.fst (Prod.snd z1), Prod.snd (Prod.snd z1)) else if p1 = (0 : Int) then none else some (Int.tmod (Prod.fst z0) p1, Prod.fst (Prod.snd z0), Prod.snd (Prod.snd z0))
noncomputable def d_spec_l1Cur_pick : FnDef := .of q_spec_l1Cur_pick r_spec_l1Cur_pick (Int × Int × Int) (fun k x => f_spec_l1Cur_pick k x.1 x.2.1) to_spec_l1Cur_pick of_spec_l1Cur_pick to_of_spec_l1Cur_pick
noncomputable def c_spec_l1Cur_pick : Code := Try.f111.body.getD .skip
noncomputable def x_spec_l1Cur_pick : Ctx (Tup r_spec_l1Cur_pick × OutD) := { T := T, G := [(175, d_spec_l1Cur_next.E)], mvs := [], no := 2, n := 20, res := resOf T q_spec_l1Cur_pick r_spec_l1Cur_pick Try.f111.results.toList, loops := [], regs := [], conds := [] }
theorem g_spec_l1Cur_pick (k : Nat) : EnvOK Try.prog k x_spec_l1Cur_pick.G := (EnvOK.cons (s_spec_l1Cur_next k) (EnvOK.nil mixed))
theorem h_spec_l1Cur_pick (k : Nat) (x : Tup d_spec_l1Cur_pick.ps) : d_spec_l1Cur_pick.f (k + 1) x = fnK d_spec_l1Cur_pick x_spec_l1Cur_pick c_spec_l1Cur_pick k x := by kernel_rfl
theorem z_spec_l1Cur_pick (x : Tup d_spec_l1Cur_pick.ps) : d_spec_l1Cur_pick.f 0 x = none := by kernel_rfl
theorem l_spec_l1Cur_pick (k : Nat) : LOK Try.prog x_spec_l1Cur_pick k c_spec_l1Cur_pick := LOK.by [] (by kernel_rfl) AllOK.nil
theorem s_spec_l1Cur_pick (k : Nat) : SoundAt Try.prog k 111 d_spec_l1Cur_pick.E := @fn_all Try.prog d_spec_l1Cur_pick x_spec_l1Cur_pick 111 Try.f111 c_spec_l1Cur_pick (by kernel_rfl) (by kernel_rfl) (by kernel_rfl) Try.func111 (by kernel_rfl) (by kernel_rfl) (by kernel_rfl) T_ok g_spec_l1Cur_pick l_spec_l1Cur_pick z_spec_l1Cur_pick h_spec_l1Cur_pick k
/-! function 112 -/
/-! function 113 -/
noncomputable def r_spec_l1All : List PK := [PK.mk Ty.bool false none false none]
noncomputable def q_spec_l1All : List PK := [PK.mk (Ty.slice (3 : Nat) (Ty.int IntKind.i64)) false none false none, PK.mk (Ty.int IntKind.i64) false none false none, PK.mk (Ty.int IntKind.i64) false none false none]
noncomputable def to_spec_l1All (r : Bool) : Tup r_spec_l1All × OutD := ((r, ()), none)
noncomputable def of_spec_l1All : Tup r_spec_l1All × OutD → Option (Bool)
  | (a, none) => some (a.1)
  | _ => none
theorem to_of_spec_l1All : ∀ b r, of_spec_l1All b = some r → to_spec_l1All r = b := by
  rintro ⟨a, o⟩ r h
  cases o with
  | none => injection h with h; subst h; rfl
  | some _ => cases h
noncomputable def f_spec_l1All_0 : Nat → Int → Int → List Int → Int → Int → Option (LR Unit Bool)
  | 0, _, _, _, _, _ => none
  | k + 1, v1, v2, v9, v10, v11 =>
    if decide (v11 < v10) = true then if (0 : Int) ≤ v11 then if v11 < (↑(List.length v9) : Int) then Option.bind (f_spec_l1In k (List.getD v9 (Int.toNat v11) (0 : Int)) v1 v2) fun z0 => if (!z0) = true then some (LR.ret false) else f_spec_l1All_0 k v1 v2 v9 v10 (wrap64 (v11 + (1 : Int))) else none else none else some (LR.go ())
noncomputable def f_spec_l1All_0i : Spec := Spec.mk [OSh.ro] [((1 : Nat), TSh.at (Sh.int IntKind.i64)), ((2 : Nat), TSh.at (Sh.int IntKind.i64)), ((9 : Nat), TSh.at (Sh.snap (0 : Nat) (Ty.int IntKind.i64))), ((10 : Nat), TSh.at (Sh.int IntKind.i64)), ((11 : Nat), TSh.at (Sh.int IntKind.i64))]
noncomputable def f_spec_l1All_0o : Spec := Spec.mk [OSh.ro] []
noncomputable def f_spec_l1All_0D : LoopDef (Tup r_spec_l1All × OutD) := .rets f_spec_l1All_0i f_spec_l1All_0o (Unit) (Bool) (fun k x => f_spec_l1All_0 k x.2.1 x.2.2.1 x.2.2.2.1 x.2.2.2.2.1 x.2.2.2.2.2.1) (fun z => (((), ()), (()))) (fun y => ()) (fun _ => rfl) to_spec_l1All of_spec_l1All to_of_spec_l1All
noncomputable def f_spec_l1All : Nat → List Int → Int → Int → Option Bool
  | 0, _, _, _ => none
  | k + 1, p0, p1, p2 =>
    Option.bind (f_spec_l1All_0 k p1 p2 p0 (↑(List.length p0) : Int) (0 : Int)) fun z1 => LR.on z1 (fun y1 => some true) fun r1 => some r1
noncomputable def d_spec_l1All : FnDef := .of q_spec_l1All r_spec_l1All (Bool) (fun k x => f_spec_l1All k x.1 x.2.1 x.2.2.1) to_spec_l1All of_spec_l1All to_of_spec_l1All
noncomputable def c_spec_l1All : Code := Try.f113.body.getD .skip
noncomputable def x_spec_l1All : Ctx (Tup r_spec_l1All × OutD) := { T := T, G := [(96, d_spec_l1In.E)], mvs := [], no := 0, n := 21, res := resOf T q_spec_l1All r_spec_l1All Try.f113.results.toList, loops := [(0, f_spec_l1All_0D.E)], regs := [], conds := [] }
theorem g_spec_l1All (k : Nat) : EnvOK Try.prog k x_spec_l1All.G := (EnvOK.cons (s_spec_l1In k) (EnvOK.nil mixed))
noncomputable def f_spec_l1All_0B : Code := (findLoop 0 c_spec_l1All).getD .skip
theorem f_spec_l1All_0h (k : Nat) (x : f_spec_l1All_0i.D) : f_spec_l1All_0D.lp (k + 1) x = loopK x_spec_l1All f_spec_l1All_0D 0 f_spec_l1All_0B k x := by kernel_rfl
theorem f_spec_l1All_0l (k : Nat) : LOK Try.prog x_spec_l1All k f_spec_l1All_0B := LOK.by [] (by kernel_rfl) AllOK.nil
theorem f_spec_l1All_0z (x : f_spec_l1All_0i.D) : f_spec_l1All_0D.lp 0 x = none := by kernel_rfl
theorem f_spec_l1All_0ok (k : Nat) : EOK Try.prog x_spec_l1All k f_spec_l1All_0D.E (.block 0 (.loop f_spec_l1All_0B)) := loop_ok T_ok g_spec_l1All f_spec_l1All_0z f_spec_l1All_0h f_spec_l1All_0l k
theorem h_spec_l1All (k : Nat) (x : Tup d_spec_l1All.ps) : d_spec_l1All.f (k + 1) x = fnK d_spec_l1All x_spec_l1All c_spec_l1All k x := by kernel_rfl
theorem z_spec_l1All (x : Tup d_spec_l1All.ps) : d_spec_l1All.f 0 x = none := by kernel_rfl
theorem l_spec_l1All (k : Nat) : LOK Try.prog x_spec_l1All k c_spec_l1All := LOK.by [(f_spec_l1All_0D.E, .block 0 (.loop f_spec_l1All_0B))] (by kernel_rfl) (AllOK.cons (f_spec_l1All_0ok k) AllOK.nil)
theorem s_spec_l1All (k : Nat) : SoundAt Try.prog k 113 d_spec_l1All.E := @fn_all Try.prog d_spec_l1All x_spec_l1All 113 Try.f113 c_spec_l1All (by kernel_rfl) (by kernel_rfl) (by kernel_rfl) Try.func113 (by kernel_rfl) (by kernel_rfl) (by kernel_rfl) T_ok g_spec_l1All l_spec_l1All z_spec_l1All h_spec_l1All k
/-! function 128 -/
noncomputable def r_impl_groupNumbers : List PK := [PK.mk (Ty.slice (3 : Nat) (Ty.int IntKind.i64)) false none false none]
noncomputable def q_impl_groupNumbers : List PK := [PK.mk (Ty.pair (Ty.int IntKind.i64) (Ty.pair (Ty.int IntKind.i64) (Ty.slice (79 : Nat) (Ty.pair (Ty.int IntKind.i64) (Ty.int IntKind.i64))))) true none false none]
noncomputable def to_impl_groupNumbers (r : List Int) : Tup r_impl_groupNumbers × OutD := ((r, ()), none)
noncomputable def of_impl_groupNumbers : Tup r_impl_groupNumbers × OutD → Option (List Int)
  | (a, none) => some (a.1)
  | _ => none
theorem to_of_impl_groupNumbers : ∀ b r, of_impl_groupNumbers b = some r → to_impl_groupNumbers r = b := by
  rintro ⟨a, o⟩ r h
  cases o with
  | none => injection h with h; subst h; rfl
  | some _ => cases h
noncomputable def f_impl_groupNumbers_0 : Nat → Int → Int → List (Int × Int) → List Int → Int → Int → Option (Int × Int × List (Int × Int) × List Int)
  | 0, _, _, _, _, _, _ => none
  | k + 1, b1_0, b1_1, b1_2, o2, v17, v18 =>
    if decide (v18 < v17) = true then if (0 : Int) ≤ v18 then if v18 < (↑(List.length o2) : Int) then f_impl_groupNumbers_0 k b1_0 b1_1 b1_2 (List.set o2 (Int.toNat v18) (-1 : Int)) v17 (wrap64 (v18 + (1 : Int))) else none else none else some (b1_0, b1_1, b1_2, o2)
noncomputable def f_impl_groupNumbers_0i : Spec := Spec.mk [OSh.ro, OSh.box (53 : Nat) [Sh.int IntKind.i64, Sh.int IntKind.i64, Sh.snap (0 : Nat) (Ty.pair (Ty.int IntKind.i64) (Ty.int IntKind.i64))], OSh.row true (3 : Nat) (Ty.int IntKind.i64)] [((1 : Nat), TSh.at (Sh.ptr (1 : Nat) (0 : Nat))), ((3 : Nat), TSh.at (Sh.sl (2 : Nat))), ((17 : Nat), TSh.at (Sh.int IntKind.i64)), ((18 : Nat), TSh.at (Sh.int IntKind.i64))]
noncomputable def f_impl_groupNumbers_0o : Spec := Spec.mk [OSh.ro, OSh.box (53 : Nat) [Sh.int IntKind.i64, Sh.int IntKind.i64, Sh.snap (0 : Nat) (Ty.pair (Ty.int IntKind.i64) (Ty.int IntKind.i64))], OSh.row true (3 : Nat) (Ty.int IntKind.i64)] [((1 : Nat), TSh.at (Sh.ptr (1 : Nat) (0 : Nat))), ((3 : Nat), TSh.at (Sh.sl (2 : Nat)))]
noncomputable def f_impl_groupNumbers_0D : LoopDef (Tup r_impl_groupNumbers × OutD) := .plain f_impl_groupNumbers_0i f_impl_groupNumbers_0o (Int × Int × List (Int × Int) × List Int) (fun k x => f_impl_groupNumbers_0 k x.1.2.1.1 x.1.2.1.2.1 x.1.2.1.2.2.1 x.1.2.2.1 x.2.2.2.1 x.2.2.2.2.1) (fun z => (((), (z.1, z.2.1, z.2.2.1, ()), z.2.2.2, ()), ((), (), ()))) (fun y => (y.1.2.1.1, y.1.2.1.2.1, y.1.2.1.2.2.1, y.1.2.2.1)) (fun _ => rfl)
noncomputable def f_impl_groupNumbers_6 : Nat → Int → Int → List (Int × Int) → List Int → List Int → List Int → Int → List (Int × Int) → Int → Int → Int → Int → Option (Int × Int × List (Int × Int) × List Int × List Int × Int × List (Int × Int) × Int × Int)
  | 0, _, _, _, _, _, _, _, _, _, _, _, _ => none
  | k + 1, b1_0, b1_1, b1_2, o2, o3, o4, v5, v26, v27, v28, v60, v61 =>
    if decide (v61 < v60) = true then if (0 : Int) ≤ v61 then if v61 < (↑(List.length o4) : Int) then if (0 : Int) ≤ List.getD o4 (Int.toNat v61) (0 : Int) then if List.getD o4 (Int.toNat v61) (0 : Int) < (↑(List.length b1_2) : Int) then Option.bind (f_impl_isGeared k (Prod.fst (List.getD b1_2 (Int.toNat (List.getD o4 (Int.toNat v61) (0 : Int))) ((0 : Int), (0 : Int))), Prod.snd (List.getD b1_2 (Int.toNat (List.getD o4 (Int.toNat v61) (0 : Int))) ((0 : Int), (0 : Int))))) fun z3 => if z3 = true then if (0 : Int) ≤ List.getD o4 (Int.toNat v61) (0 : Int) then if List.getD o4 (Int.toNat v61) (0 : Int) < (↑(List.length o2) : Int) then if decide (List.getD o2 (Int.toNat (List.getD o4 (Int.toNat v61) (0 : Int))) (0 : Int) < (0 : Int)) = true then if (0 : Int) ≤ List.getD o4 (Int.toNat v61) (0 : Int) then if List.getD o4 (Int.toNat v61) (0 : Int) < (↑(List.length o2) : Int) then if List.length o3 + List.length [List.getD o4 (Int.toNat v61) (0 : Int)] ≤ (140737488355328 / 8 : Nat) then f_impl_groupNumbers_6 k b1_0 b1_1 b1_2 (List.set o2 (Int.toNat (List.getD o4 (Int.toNat v61) (0 : Int))) v5) (o3 ++ [List.getD o4 (Int.toNat v61) (0 : Int)]) o4 v5 v26 v27 v28 v60 (wrap64 (v61 + (1 : Int))) else none else none else none else f_impl_groupNumbers_6 k b1_0 b1_1 b1_2 o2 o3 o4 v5 v26 v27 v28 v60 (wrap64 (v61 + (1 : Int))) else none else none else f_impl_groupNumbers_6 k b1_0 b1_1 b1_2 o2 o3 o4 v5 v26 v27 v28 v60 (wrap64 (v61 + (1 : Int))) else none else none else none else none else some (b1_0, b1_1, b1_2, o2, o3, v5, v26, v27, v28)
noncomputable def f_impl_groupNumbers_6i : Spec := Spec.mk [OSh.ro, OSh.box (53 : Nat) [Sh.int IntKind.i64, Sh.int IntKind.i64, Sh.snap (0 : Nat) (Ty.pair (Ty.int IntKind.i64) (Ty.int IntKind.i64))], OSh.row true (3 : Nat) (Ty.int IntKind.i64), OSh.row true (3 : Nat) (Ty.int IntKind.i64), OSh.row true (3 : Nat) (Ty.int IntKind.i64)] [((1 : Nat), TSh.at (Sh.ptr (1 : Nat) (0 : Nat))), ((3 : Nat), TSh.at (Sh.sl (2 : Nat))), ((5 : Nat), TSh.at (Sh.int IntKind.i64)), ((8 : Nat), TSh.at (Sh.sl (3 : Nat))), ((26 : Nat), TSh.at (Sh.snap (0 : Nat) (Ty.pair (Ty.int IntKind.i64) (Ty.int IntKind.i64)))), ((27 : Nat), TSh.at (Sh.int IntKind.i64)), ((28 : Nat), TSh.at (Sh.int IntKind.i64)), ((59 : Nat), TSh.at (Sh.sl (4 : Nat))), ((60 : Nat), TSh.at (Sh.int IntKind.i64)), ((61 : Nat), TSh.at (Sh.int IntKind.i64))]
noncomputable def f_impl_groupNumbers_6o : Spec := Spec.mk [OSh.ro, OSh.box (53 : Nat) [Sh.int IntKind.i64, Sh.int IntKind.i64, Sh.snap (0 : Nat) (Ty.pair (Ty.int IntKind.i64) (Ty.int IntKind.i64))], OSh.row true (3 : Nat) (Ty.int IntKind.i64), OSh.row true (3 : Nat) (Ty.int IntKind.i64)] [((1 : Nat), TSh.at (Sh.ptr (1 : Nat) (0 : Nat))), ((3 : Nat), TSh.at (Sh.sl (2 : Nat))), ((5 : Nat), TSh.at (Sh.int IntKind.i64)), ((8 : Nat), TSh.at (Sh.sl (3 : Nat))), ((26 : Nat), TSh.at (Sh.snap (0 : Nat) (Ty.pair (Ty.int IntKind.i64) (Ty.int IntKind.i64)))), ((27 : Nat), TSh.at (Sh.int IntKind.i64)), ((28 : Nat), TSh.at (Sh.int IntKind.i64))]
noncomputable def f_impl_groupNumbers_6D : LoopDef (Tup r_impl_groupNumbers × OutD) := .plain f_impl_groupNumbers_6i f_impl_groupNumbers_6o (Int × Int × List (Int × Int) × List Int × List Int × Int × List (Int × Int) × Int × Int) (fun k x => f_impl_groupNumbers_6 k x.1.2.1.1 x.1.2.1.2.1 x.1.2.1.2.2.1 x.1.2.2.1 x.1.2.2.2.1 x.1.2.2.2.2.1 x.2.2.2.1 x.2.2.2.2.2.1 x.2.2.2.2.2.2.1 x.2.2.2.2.2.2.2.1 x.2.2.2.2.2.2.2.2.2.1 x.2.2.2.2.2.2.2.2.2.2.1) (fun z => (((), (z.1, z.2.1, z.2.2.1, ()), z.2.2.2.1, z.2.2.2.2.1, ()), ((), (), z.2.2.2.2.2.1, (), z.2.2.2.2.2.2.1, z.2.2.2.2.2.2.2.1, z.2.2.2.2.2.2.2.2, ()))) (fun y => (y.1.2.1.1, y.1.2.1.2.1, y.1.2.1.2.2.1, y.1.2.2.1, y.1.2.2.2.1, y.2.2.2.1, y.2.2.2.2.2.1, y.2.2.2.2.2.2.1, y.2.2.2.2.2.2.2.1)) (fun _ => rfl)
noncomputable def f_impl_groupNumbers_4 : Nat → Int → Int → List (Int × Int) → List Int → List Int → Int → List (Int × Int) → Int → Int → Option (Int × Int × List (Int × Int) × List Int × Int × List (Int × Int) × Int × Int)
  | 0, _, _, _, _, _, _, _, _, _ => none
  | k + 1, b1_0, b1_1, b1_2, o2, o3, v5, v26, v27, v28 =>
    if decide ((↑(List.length o3) : Int) > (0 : Int)) = true then if (0 : Int) < (↑(List.length o3) : Int) then if (1 : Int) ≤ (↑(List.length o3) : Int) then if (↑(List.length o3) : Int) ≤ (↑(List.length o3) : Int) then Option.bind (f_impl_besideOf k (b1_0, b1_1, b1_2) (List.getD o3 (Int.toNat (0 : Int)) (0 : Int))) fun z2 => Option.bind (f_impl_groupNumbers_6 k b1_0 b1_1 b1_2 o2 (List.drop (Int.toNat (1 : Int)) o3) z2 v5 v26 v27 v28 (↑(List.length z2) : Int) (0 : Int)) fun z4 => f_impl_groupNumbers_4 k (Prod.fst z4) (Prod.fst (Prod.snd z4)) (Prod.fst (Prod.snd (Prod.snd z4))) (Prod.fst (Prod.snd (Prod.snd (Prod.snd z4)))) (Prod.fst (Prod.snd (Prod.snd (Prod.snd (Prod.snd z4))))) (Prod.fst (Prod.snd (Prod.snd (Prod.snd (Prod.snd (Prod.snd z4)))))) (Prod.fst (Prod.snd (Prod.snd (Prod.snd (Prod.snd (Prod.snd (Prod.snd z4))))))) (Prod.fst (Prod.snd (Prod.snd (Prod.snd (Prod.snd (Prod.snd (Prod.snd (Prod.snd z4)))))))) (Prod.snd (Prod.snd (Prod.snd (Prod.snd (Prod.snd (Prod.snd (Prod.snd (Prod.snd z4)))))))) else none else none else none else some (b1_0, b1_1, b1_2, o2, v5, v26, v27, v28)
noncomputable def f_impl_groupNumbers_4i : Spec := Spec.mk [OSh.ro, OSh.box (53 : Nat) [Sh.int IntKind.i64, Sh.int IntKind.i64, Sh.snap (0 : Nat) (Ty.pair (Ty.int IntKind.i64) (Ty.int IntKind.i64))], OSh.row true (3 : Nat) (Ty.int IntKind.i64), OSh.row true (3 : Nat) (Ty.int IntKind.i64)] [((1 : Nat), TSh.at (Sh.ptr (1 : Nat) (0 : Nat))), ((3 : Nat), TSh.at (Sh.sl (2 : Nat))), ((5 : Nat), TSh.at (Sh.int IntKind.i64)), ((8 : Nat), TSh.at (Sh.sl (3 : Nat))), ((26 : Nat), TSh.at (Sh.snap (0 : Nat) (Ty.pair (Ty.int IntKind.i64) (Ty.int IntKind.i64)))), ((27 : Nat), TSh.at (Sh.int IntKind.i64)), ((28 : Nat), TSh.at (Sh.int IntKind.i64))]
noncomputable def f_impl_groupNumbers_4o : Spec := Spec.mk [OSh.ro, OSh.box (53 : Nat) [Sh.int IntKind.i64, Sh.int IntKind.i64, Sh.snap (0 : Nat) (Ty.pair (Ty.int IntKind.i64) (Ty.int IntKind.i64))], OSh.row true (3 : Nat) (Ty.int IntKind.i64)] [((1 : Nat), TSh.at (Sh.ptr (1 : Nat) (0 : Nat))), ((3 : Nat), TSh.at (Sh.sl (2 : Nat))), ((5 : Nat), TSh.at (Sh.int IntKind.i64)), ((26 : Nat), TSh.at (Sh.snap (0 : Nat) (Ty.pair (Ty.int IntKind.i64) (Ty.int IntKind.i64)))), ((27 : Nat), TSh.at (Sh.int IntKind.i64)), ((28 : Nat), TSh.at (Sh.int IntKind.i64))]
noncomputable def f_impl_groupNumbers_4D : LoopDef (Tup r_impl_groupNumbers × OutD) := .plain f_impl_groupNumbers_4i f_impl_groupNumbers_4o (Int × Int × List (Int × Int) × List Int × Int × List (Int × Int) × Int × Int) (fun k x => f_impl_groupNumbers_4 k x.1.2.1.1 x.1.2.1.2.1 x.1.2.1.2.2.1 x.1.2.2.1 x.1.2.2.2.1 x.2.2.2.1 x.2.2.2.2.2.1 x.2.2.2.2.2.2.1 x.2.2.2.2.2.2.2.1) (fun z => (((), (z.1, z.2.1, z.2.2.1, ()), z.2.2.2.1, ()), ((), (), z.2.2.2.2.1, z.2.2.2.2.2.1, z.2.2.2.2.2.2.1, z.2.2.2.2.2.2.2, ()))) (fun y => (y.1.2.1.1, y.1.2.1.2.1, y.1.2.1.2.2.1, y.1.2.2.1, y.2.2.2.1, y.2.2.2.2.1, y.2.2.2.2.2.1, y.2.2.2.2.2.2.1)) (fun _ => rfl)
noncomputable def f_impl_groupNumbers_2 : Nat → Int → Int → List (Int × Int) → List Int → Int → List (Int × Int) → Int → Int → Option (List Int)
  | 0, _, _, _, _, _, _, _, _ => none
  | k + 1, b1_0, b1_1, b1_2, o2, v5, v26, v27, v28 =>
    if decide (v28 < v27) = true then if (0 : Int) ≤ v28 then if v28 < (↑(List.length v26) : Int) then Option.bind (f_impl_isGeared k (Prod.fst (List.getD v26 (Int.toNat v28) ((0 : Int), (0 : Int))), Prod.snd (List.getD v26 (Int.toNat v28) ((0 : Int), (0 : Int))))) fun z1 => if (!z1) = true then f_impl_groupNumbers_2 k b1_0 b1_1 b1_2 o2 v5 v26 v27 (wrap64 (v28 + (1 : Int))) else if (0 : Int) ≤ v28 then if v28 < (↑(List.length o2) : Int) then if decide (List.getD o2 (Int.toNat v28) (0 : Int) ≥ (0 : Int)) = true then f_impl_groupNumbers_2 k b1_0 b1_1 b1_2 o2 v5 v26 v27 (wrap64 (v28 + (1 : Int))) else if (0 : Int) ≤ v28 then if v28 < (↑(List.length o2) : Int) then Option.bind (f_impl_groupNumbers_4 k b1_0 b1_1 b1_2 (List.set o2 (Int.toNat v28) v5) [v28] v5 v26 v27 v28) fun z5 => f_impl_groupNumbers_2 k (Prod.fst z5) (Prod.fst (Prod.snd z5)) (Prod.fst (Prod.snd (Prod.snd z5))) (Prod.fst (Prod.snd (Prod.snd (Prod.snd z5)))) (wrap64 (Prod.fst (Prod.snd (Prod.snd (Prod.snd (Prod.snd z5)))) + (1 : Int))) (Prod.fst (Prod.snd (Prod.snd (Prod.snd (Prod.snd (Prod.snd z5)))))) (Prod.fst (Prod.snd (Prod.snd (Prod.snd (Prod.snd (Prod.snd (Prod.snd z5))))))) (wrap64 (Prod.snd (Prod.snd (Prod.snd (Prod.snd (Prod.snd (Prod.snd (Prod.snd z5)))))) + (1 : Int))) else none else none else none else none else none else none else some o2
noncomputable def f_impl_groupNumbers_2i : Spec := Spec.mk [OSh.ro, OSh.box (53 : Nat) [Sh.int IntKind.i64, Sh.int IntKind.i64, Sh.snap (0 : Nat) (Ty.pair (Ty.int IntKind.i64) (Ty.int IntKind.i64))], OSh.row true (3 : Nat) (Ty.int IntKind.i64)] [((1 : Nat), TSh.at (Sh.ptr (1 : Nat) (0 : Nat))), ((3 : Nat), TSh.at (Sh.sl (2 : Nat))), ((5 : Nat), TSh.at (Sh.int IntKind.i64)), ((26 : Nat), TSh.at (Sh.snap (0 : Nat) (Ty.pair (Ty.int IntKind.i64) (Ty.int IntKind.i64)))), ((27 : Nat), TSh.at (Sh.int IntKind.i64)), ((28 : Nat), TSh.at (Sh.int IntKind.i64))]
noncomputable def f_impl_groupNumbers_2o : Spec := Spec.mk [OSh.ro, OSh.row true (3 : Nat) (Ty.int IntKind.i64)] [((3 : Nat), TSh.at (Sh.sl (1 : Nat)))]
noncomputable def f_impl_groupNumbers_2D : LoopDef (Tup r_impl_groupNumbers × OutD) := .plain f_impl_groupNumbers_2i f_impl_groupNumbers_2o (List Int) (fun k x => f_impl_groupNumbers_2 k x.1.2.1.1 x.1.2.1.2.1 x.1.2.1.2.2.1 x.1.2.2.1 x.2.2.2.1 x.2.2.2.2.1 x.2.2.2.2.2.1 x.2.2.2.2.2.2.1) (fun z => (((), z, ()), ((), ()))) (fun y => (y.1.2.1)) (fun _ => rfl)
noncomputable def f_impl_groupNumbers : Nat → Int × Int × List (Int × Int) → Option (List Int)
  | 0, _ => none
  | k + 1, p0 =>
    if Int.toNat (↑(List.length (Prod.snd (Prod.snd p0))) : Int) * (8 : Nat) ≤ (281474976710656 : Nat) then Option.bind (f_impl_groupNumbers_0 k (Prod.fst p0) (Prod.fst (Prod.snd p0)) (Prod.snd (Prod.snd p0)) (List.replicate (Int.toNat (↑(List.length (Prod.snd (Prod.snd p0))) : Int)) (0 : Int)) (↑(List.length (List.replicate (Int.toNat (↑(List.length (Prod.snd (Prod.snd p0))) : Int)) (0 : Int))) : Int) (0 : Int)) fun z0 => Option.bind (f_impl_groupNumbers_2 k (Prod.fst z0) (Prod.fst (Prod.snd z0)) (Prod.fst (Prod.snd (Prod.snd z0))) (Prod.snd (Prod.snd (Prod.snd z0))) (0 : Int) (Prod.fst (Prod.snd (Prod.snd z0))) (↑(List.length (Prod.fst (Prod.snd (Prod.snd z0)))) : Int) (0 : Int)) fun z6 => some z6 else none
noncomputable def d_impl_groupNumbers : FnDef := .of q_impl_groupNumbers r_impl_groupNumbers (List Int) (fun k x => f_impl_groupNumbers k x.1) to_impl_groupNumbers of_impl_groupNumbers to_of_impl_groupNumbers
noncomputable def c_impl_groupNumbers : Code := Try.f128.body.getD .skip
noncomputable def x_impl_groupNumbers : Ctx (Tup r_impl_groupNumbers × OutD) := { T := T, G := [(190, d_impl_isGeared.E), (191, d_impl_besideOf.E)], mvs := [56], no := 0, n := 91, res := resOf T q_impl_groupNumbers r_impl_groupNumbers Try.f128.results.toList, loops := [(0, f_impl_groupNumbers_0D.E), (6, f_impl_groupNumbers_6D.E), (4, f_impl_groupNumbers_4D.E), (2, f_impl_groupNumbers_2D.E)], regs := [], conds := [] }
theorem g_impl_groupNumbers (k : Nat) : EnvOK Try.prog k x_impl_groupNumbers.G := (EnvOK.cons (s_impl_isGeared k) (EnvOK.cons (s_impl_besideOf k) (EnvOK.nil mixed)))
noncomputable def f_impl_groupNumbers_0B : Code := (findLoop 0 c_impl_groupNumbers).getD .skip
theorem f_impl_groupNumbers_0h (k : Nat) (x : f_impl_groupNumbers_0i.D) : f_impl_groupNumbers_0D.lp (k + 1) x = loopK x_impl_groupNumbers f_impl_groupNumbers_0D 0 f_impl_groupNumbers_0B k x := by kernel_rfl
theorem f_impl_groupNumbers_0l (k : Nat) : LOK Try.prog x_impl_groupNumbers k f_impl_groupNumbers_0B := LOK.by [] (by kernel_rfl) AllOK.nil
theorem f_impl_groupNumbers_0z (x : f_impl_groupNumbers_0i.D) : f_impl_groupNumbers_0D.lp 0 x = none := by kernel_rfl
theorem f_impl_groupNumbers_0ok (k : Nat) : EOK Try.prog x_impl_groupNumbers k f_impl_groupNumbers_0D.E (.block 0 (.loop f_impl_groupNumbers_0B)) := loop_ok T_ok g_impl_groupNumbers f_impl_groupNumbers_0z f_impl_groupNumbers_0h f_impl_groupNumbers_0l k
noncomputable def f_impl_groupNumbers_6B : Code := (findLoop 6 c_impl_groupNumbers).getD .skip
theorem f_impl_groupNumbers_6h (k : Nat) (x : f_impl_groupNumbers_6i.D) : f_impl_groupNumbers_6D.lp (k + 1) x = loopK x_impl_groupNumbers f_impl_groupNumbers_6D 6 f_impl_groupNumbers_6B k x := by kernel_rfl
theorem f_impl_groupNumbers_6l (k : Nat) : LOK Try.prog x_impl_groupNumbers k f_impl_groupNumbers_6B := LOK.by [] (by kernel_rfl) AllOK.nil
theorem f_impl_groupNumbers_6z (x : f_impl_groupNumbers_6i.D) : f_impl_groupNumbers_6D.lp 0 x = none := by kernel_rfl
theorem f_impl_groupNumbers_6ok (k : Nat) : EOK Try.prog x_impl_groupNumbers k f_impl_groupNumbers_6D.E (.block 6 (.loop f_impl_groupNumbers_6B)) := loop_ok T_ok g_impl_groupNumbers f_impl_groupNumbers_6z f_impl_groupNumbers_6h f_impl_groupNumbers_6l k
noncomputable def f_impl_groupNumbers_4B : Code := (findLoop 4 c_impl_groupNumbers).getD .skip
theorem f_impl_groupNumbers_4h (k : Nat) (x : f_impl_groupNumbers_4i.D) : f_impl_groupNumbers_4D.lp (k + 1) x = loopK x_impl_groupNumbers f_impl_groupNumbers_4D 4 f_impl_groupNumbers_4B k x := by kernel_rfl
theorem f_impl_groupNumbers_4l (k : Nat) : LOK Try.prog x_impl_groupNumbers k f_impl_groupNumbers_4B := LOK.by [(f_impl_groupNumbers_6D.E, .block 6 (.loop f_impl_groupNumbers_6B))] (by kernel_rfl) (AllOK.cons (f_impl_groupNumbers_6ok k) AllOK.nil)
theorem f_impl_groupNumbers_4z (x : f_impl_groupNumbers_4i.D) : f_impl_groupNumbers_4D.lp 0 x = none := by kernel_rfl
theorem f_impl_groupNumbers_4ok (k : Nat) : EOK Try.prog x_impl_groupNumbers k f_impl_groupNumbers_4D.E (.block 4 (.loop f_impl_groupNumbers_4B)) := loop_ok T_ok g_impl_groupNumbers f_impl_groupNumbers_4z f_impl_groupNumbers_4h f_impl_groupNumbers_4l k
noncomputable def f_impl_groupNumbers_2B : Code := (findLoop 2 c_impl_groupNumbers).getD .skip
theorem f_impl_groupNumbers_2h (k : Nat) (x : f_impl_groupNumbers_2i.D) : f_impl_groupNumbers_2D.lp (k + 1) x = loopK x_impl_groupNumbers f_impl_groupNumbers_2D 2 f_impl_groupNumbers_2B k x := by kernel_rfl
theorem f_impl_groupNumbers_2l (k : Nat) : LOK Try.prog x_impl_groupNumbers k f_impl_groupNumbers_2B := LOK.by [(f_impl_groupNumbers_4D.E, .block 4 (.loop f_impl_groupNumbers_4B))] (by kernel_rfl) (AllOK.cons (f_impl_groupNumbers_4ok k) AllOK.nil)
theorem f_impl_groupNumbers_2z (x : f_impl_groupNumbers_2i.D) : f_impl_groupNumbers_2D.lp 0 x = none := by kernel_rfl
theorem f_impl_groupNumbers_2ok (k : Nat) : EOK Try.prog x_impl_groupNumbers k f_impl_groupNumbers_2D.E (.block 2 (.loop f_impl_groupNumbers_2B)) := loop_ok T_ok g_impl_groupNumbers f_impl_groupNumbers_2z f_impl_groupNumbers_2h f_impl_groupNumbers_2l k
theorem h_impl_groupNumbers (k : Nat) (x : Tup d_impl_groupNumbers.ps) : d_impl_groupNumbers.f (k + 1) x = fnK d_impl_groupNumbers x_impl_groupNumbers c_impl_groupNumbers k x := by kernel_rfl
theorem z_impl_groupNumbers (x : Tup d_impl_groupNumbers.ps) : d_impl_groupNumbers.f 0 x = none := by kernel_rfl
theorem l_impl_groupNumbers (k : Nat) : LOK Try.prog x_impl_groupNumbers k c_impl_groupNumbers := LOK.by [(f_impl_groupNumbers_0D.E, .block 0 (.loop f_impl_groupNumbers_0B)), (f_impl_groupNumbers_2D.E, .block 2 (.loop f_impl_groupNumbers_2B))] (by kernel_rfl) (AllOK.cons (f_impl_groupNumbers_0ok k) (AllOK.cons (f_impl_groupNumbers_2ok k) AllOK.nil))
theorem s_impl_groupNumbers (k : Nat) : SoundAt Try.prog k 128 d_impl_groupNumbers.E := @fn_all Try.prog d_impl_groupNumbers x_impl_groupNumbers 128 Try.f128 c_impl_groupNumbers (by kernel_rfl) (by kernel_rfl) (by kernel_rfl) Try.func128 (by kernel_rfl) (by kernel_rfl) (by kernel_rfl) T_ok g_impl_groupNumbers l_impl_groupNumbers z_impl_groupNumbers h_impl_groupNumbers k
/-! function 161 -/
/-! function 182 -/
noncomputable def r_spec_faFits : List PK := [PK.mk Ty.bool false none false none]
noncomputable def q_spec_faFits : List PK := [PK.mk (Ty.pair (Ty.int IntKind.i64) (Ty.int IntKind.i64)) true none false none, PK.mk (Ty.int IntKind.i64) false none false none]
noncomputable def to_spec_faFits (r : Bool) : Tup r_spec_faFits × OutD := ((r, ()), none)
noncomputable def of_spec_faFits : Tup r_spec_faFits × OutD → Option (Bool)
  | (a, none) => some (a.1)
  | _ => none
theorem to_of_spec_faFits : ∀ b r, of_spec_faFits b = some r → to_spec_faFits r = b := by
  rintro ⟨a, o⟩ r h
  cases o with
  | none => injection h with h; subst h; rfl
  | some _ => cases h
noncomputable def f_spec_faFits : Nat → Int × Int → Int → Option Bool
  | 0, _, _ => none
  | k + 1, p0, p1 =>
    if decide (p1 = (1 : Int)) = true then Option.bind (f_spec_paTurning k (Prod.fst p0, Prod.snd p0)) fun z0 => some z0 else if decide (p1 = (2 : Int)) = true then some true else if decide (p1 = (3 : Int)) = true then Option.bind (f_spec_paTurning k (Prod.fst p0, Prod.snd p0)) fun z1 => if z1 = true then some true else if decide (Prod.fst p0 = (1 : Int)) = true then some true else some (decide (Prod.fst p0 = (2 : Int))) else some false
noncomputable def d_spec_faFits : FnDef := .of q_spec_faFits r_spec_faFits (Bool) (fun k x => f_spec_faFits k x.1 x.2.1) to_spec_faFits of_spec_faFits to_of_spec_faFits
noncomputable def c_spec_faFits : Code := Try.f182.body.getD .skip
noncomputable def x_spec_faFits : Ctx (Tup r_spec_faFits × OutD) := { T := T, G := [(207, d_spec_paTurning.E)], mvs := [], no := 0, n := 26, res := resOf T q_spec_faFits r_spec_faFits Try.f182.results.toList, loops := [], regs := [], conds := [] }
theorem g_spec_faFits (k : Nat) : EnvOK Try.prog k x_spec_faFits.G := (EnvOK.cons (s_spec_paTurning k) (EnvOK.nil mixed))
theorem h_spec_faFits (k : Nat) (x : Tup d_spec_faFits.ps) : d_spec_faFits.f (k + 1) x = fnK d_spec_faFits x_spec_faFits c_spec_faFits k x := by kernel_rfl
theorem z_spec_faFits (x : Tup d_spec_faFits.ps) : d_spec_faFits.f 0 x = none := by kernel_rfl
theorem l_spec_faFits (k : Nat) : LOK Try.prog x_spec_faFits k c_spec_faFits := LOK.by [] (by kernel_rfl) AllOK.nil
theorem s_spec_faFits (k : Nat) : SoundAt Try.prog k 182 d_spec_faFits.E := @fn_all Try.prog d_spec_faFits x_spec_faFits 182 Try.f182 c_spec_faFits (by kernel_rfl) (by kernel_rfl) (by kernel_rfl) Try.func182 (by kernel_rfl) (by kernel_rfl) (by kernel_rfl) T_ok g_spec_faFits l_spec_faFits z_spec_faFits h_spec_faFits k
/-! function 185 -/
noncomputable def r_spec_ggGroups : List PK := [PK.mk (Ty.slice (3 : Nat) (Ty.int IntKind.i64)) false none false none]
noncomputable def q_spec_ggGroups : List PK := [PK.mk (Ty.pair (Ty.int IntKind.i64) (Ty.pair (Ty.int IntKind.i64) (Ty.slice (79 : Nat) (Ty.pair (Ty.int IntKind.i64) (Ty.int IntKind.i64))))) true none false none]
noncomputable def to_spec_ggGroups (r : List Int) : Tup r_spec_ggGroups × OutD := ((r, ()), none)
noncomputable def of_spec_ggGroups : Tup r_spec_ggGroups × OutD → Option (List Int)
  | (a, none) => some (a.1)
  | _ => none
theorem to_of_spec_ggGroups : ∀ b r, of_spec_ggGroups b = some r → to_spec_ggGroups r = b := by
  rintro ⟨a, o⟩ r h
  cases o with
  | none => injection h with h; subst h; rfl
  | some _ => cases h
noncomputable def f_spec_ggGroups_0 : Nat → Int → Int → List (Int × Int) → List Int → Int → Int → Option (Int × Int × List (Int × Int) × List Int)
  | 0, _, _, _, _, _, _ => none
  | k + 1, b1_0, b1_1, b1_2, o2, v17, v18 =>
    if decide (v18 < v17) = true then if (0 : Int) ≤ v18 then if v18 < (↑(List.length o2) : Int) then f_spec_ggGroups_0 k b1_0 b1_1 b1_2 (List.set o2 (Int.toNat v18) (-1 : Int)) v17 (wrap64 (v18 + (1 : Int))) else none else none else some (b1_0, b1_1, b1_2, o2)
noncomputable def f_spec_ggGroups_0i : Spec := Spec.mk [OSh.ro, OSh.box (53 : Nat) [Sh.int IntKind.i64, Sh.int IntKind.i64, Sh.snap (0 : Nat) (Ty.pair (Ty.int IntKind.i64) (Ty.int IntKind.i64))], OSh.row true (3 : Nat) (Ty.int IntKind.i64)] [((1 : Nat), TSh.at (Sh.ptr (1 : Nat) (0 : Nat))), ((3 : Nat), TSh.at (Sh.sl (2 : Nat))), ((17 : Nat), TSh.at (Sh.int IntKind.i64)), ((18 : Nat), TSh.at (Sh.int IntKind.i64))]
noncomputable def f_spec_ggGroups_0o : Spec := Spec.mk [OSh.ro, OSh.box (53 : Nat) [Sh.int IntKind.i64, Sh.int IntKind.i64, Sh.snap (0 : Nat) (Ty.pair (Ty.int IntKind.i64) (Ty.int IntKind.i64))], OSh.row true (3 : Nat) (Ty.int IntKind.i64)] [((1 : Nat), TSh.at (Sh.ptr (1 : Nat) (0 : Nat))), ((3 : Nat), TSh.at (Sh.sl (2 : Nat)))]
noncomputable def f_spec_ggGroups_0D : LoopDef (Tup r_spec_ggGroups × OutD) := .plain f_spec_ggGroups_0i f_spec_ggGroups_0o (Int × Int × List (Int × Int) × List Int) (fun k x => f_spec_ggGroups_0 k x.1.2.1.1 x.1.2.1.2.1 x.1.2.1.2.2.1 x.1.2.2.1 x.2.2.2.1 x.2.2.2.2.1) (fun z => (((), (z.1, z.2.1, z.2.2.1, ()), z.2.2.2, ()), ((), (), ()))) (fun y => (y.1.2.1.1, y.1.2.1.2.1, y.1.2.1.2.2.1, y.1.2.2.1)) (fun _ => rfl)
noncomputable def f_spec_ggGroups_6 : Nat → Int → Int → List (Int × Int) → List Int → List Int → List Int → Int → Int → List (Int × Int) → Int → Int → Int → Int → Option (Int × Int × List (Int × Int) × List Int × List Int × Int × Int × List (Int × Int) × Int × Int)
  | 0, _, _, _, _, _, _, _, _, _, _, _, _, _ => none
  | k + 1, b1_0, b1_1, b1_2, o2, o3, o4, v5, v9, v26, v27, v28, v61, v62 =>
    if decide (v62 < v61) = true then if (0 : Int) ≤ v62 then if v62 < (↑(List.length o4) : Int) then if (0 : Int) ≤ List.getD o4 (Int.toNat v62) (0 : Int) then if List.getD o4 (Int.toNat v62) (0 : Int) < (↑(List.length b1_2) : Int) then Option.bind (f_spec_ggGear k (Prod.fst (List.getD b1_2 (Int.toNat (List.getD o4 (Int.toNat v62) (0 : Int))) ((0 : Int), (0 : Int))), Prod.snd (List.getD b1_2 (Int.toNat (List.getD o4 (Int.toNat v62) (0 : Int))) ((0 : Int), (0 : Int))))) fun z3 => if z3 = true then if (0 : Int) ≤ List.getD o4 (Int.toNat v62) (0 : Int) then if List.getD o4 (Int.toNat v62) (0 : Int) < (↑(List.length o2) : Int) then if decide (List.getD o2 (Int.toNat (List.getD o4 (Int.toNat v62) (0 : Int))) (0 : Int) < (0 : Int)) = true then if (0 : Int) ≤ List.getD o4 (Int.toNat v62) (0 : Int) then if List.getD o4 (Int.toNat v62) (0 : Int) < (↑(List.length o2) : Int) then if List.length o3 + List.length [List.getD o4 (Int.toNat v62) (0 : Int)] ≤ (140737488355328 / 8 : Nat) then f_spec_ggGroups_6 k b1_0 b1_1 b1_2 (List.set o2 (Int.toNat (List.getD o4 (Int.toNat v62) (0 : Int))) v5) (o3 ++ [List.getD o4 (Int.toNat v62) (0 : Int)]) o4 v5 v9 v26 v27 v28 v61 (wrap64 (v62 + (1 : Int))) else none else none else none else f_spec_ggGroups_6 k b1_0 b1_1 b1_2 o2 o3 o4 v5 v9 v26 v27 v28 v61 (wrap64 (v62 + (1 : Int))) else none else none else f_spec_ggGroups_6 k b1_0 b1_1 b1_2 o2 o3 o4 v5 v9 v26 v27 v28 v61 (wrap64 (v62 + (1 : Int))) else none else none else none else none else some (b1_0, b1_1, b1_2, o2, o3, v5, v9, v26, v27, v28)
noncomputable def f_spec_ggGroups_6i : Spec := Spec.mk [OSh.ro, OSh.box (53 : Nat) [Sh.int IntKind.i64, Sh.int IntKind.i64, Sh.snap (0 : Nat) (Ty.pair (Ty.int IntKind.i64) (Ty.int IntKind.i64))], OSh.row true (3 : Nat) (Ty.int IntKind.i64), OSh.row true (3 : Nat) (Ty.int IntKind.i64), OSh.row true (3 : Nat) (Ty.int IntKind.i64)] [((1 : Nat), TSh.at (Sh.ptr (1 : Nat) (0 : Nat))), ((3 : Nat), TSh.at (Sh.sl (2 : Nat))), ((5 : Nat), TSh.at (Sh.int IntKind.i64)), ((8 : Nat), TSh.at (Sh.sl (3 : Nat))), ((9 : Nat), TSh.at (Sh.int IntKind.i64)), ((26 : Nat), TSh.at (Sh.snap (0 : Nat) (Ty.pair (Ty.int IntKind.i64) (Ty.int IntKind.i64)))), ((27 : Nat), TSh.at (Sh.int IntKind.i64)), ((28 : Nat), TSh.at (Sh.int IntKind.i64)), ((60 : Nat), TSh.at (Sh.sl (4 : Nat))), ((61 : Nat), TSh.at (Sh.int IntKind.i64)), ((62 : Nat), TSh.at (Sh.int IntKind.i64))]
noncomputable def f_spec_ggGroups_6o : Spec := Spec.mk [OSh.ro, OSh.box (53 : Nat) [Sh.int IntKind.i64, Sh.int IntKind.i64, Sh.snap (0 : Nat) (Ty.pair (Ty.int IntKind.i64) (Ty.int IntKind.i64))], OSh.row true (3 : Nat) (Ty.int IntKind.i64), OSh.row true (3 : Nat) (Ty.int IntKind.i64)] [((1 : Nat), TSh.at (Sh.ptr (1 : Nat) (0 : Nat))), ((3 : Nat), TSh.at (Sh.sl (2 : Nat))), ((5 : Nat), TSh.at (Sh.int IntKind.i64)), ((8 : Nat), TSh.at (Sh.sl (3 : Nat))), ((9 : Nat), TSh.at (Sh.int IntKind.i64)), ((26 : Nat), TSh.at (Sh.snap (0 : Nat) (Ty.pair (Ty.int IntKind.i64) (Ty.int IntKind.i64)))), ((27 : Nat), TSh.at (Sh.int IntKind.i64)), ((28 : Nat), TSh.at (Sh.int IntKind.i64))]
noncomputable def f_spec_ggGroups_6D : LoopDef (Tup r_spec_ggGroups × OutD) := .plain f_spec_ggGroups_6i f_spec_ggGroups_6o (Int × Int × List (Int × Int) × List Int × List Int × Int × Int × List (Int × Int) × Int × Int) (fun k x => f_spec_ggGroups_6 k x.1.2.1.1 x.1.2.1.2.1 x.1.2.1.2.2.1 x.1.2.2.1 x.1.2.2.2.1 x.1.2.2.2.2.1 x.2.2.2.1 x.2.2.2.2.2.1 x.2.2.2.2.2.2.1 x.2.2.2.2.2.2.2.1 x.2.2.2.2.2.2.2.2.1 x.2.2.2.2.2.2.2.2.2.2.1 x.2.2.2.2.2.2.2.2.2.2.2.1) (fun z => (((), (z.1, z.2.1, z.2.2.1, ()), z.2.2.2.1, z.2.2.2.2.1, ()), ((), (), z.2.2.2.2.2.1, (), z.2.2.2.2.2.2.1, z.2.2.2.2.2.2.2.1, z.2.2.2.2.2.2.2.2.1, z.2.2.2.2.2.2.2.2.2, ()))) (fun y => (y.1.2.1.1, y.1.2.1.2.1, y.1.2.1.2.2.1, y.1.2.2.1, y.1.2.2.2.1, y.2.2.2.1, y.2.2.2.2.2.1, y.2.2.2.2.2.2.1, y.2.2.2.2.2.2.2.1, y.2.2.2.2.2.2.2.2.1)) (fun _ => rfl)
noncomputable def f_spec_ggGroups_4 : Nat → Int → Int → List (Int × Int) → List Int → List Int → Int → Int → List (Int × Int) → Int → Int → Option (Int × Int × List (Int × Int) × List Int × Int × List (Int × Int) × Int × Int)
  | 0, _, _, _, _, _, _, _, _, _, _ => none
  | k + 1, b1_0, b1_1, b1_2, o2, o3, v5, v9, v26, v27, v28 =>
    if decide (v9 < (↑(List.length o3) : Int)) = true then if (0 : Int) ≤ v9 then if v9 < (↑(List.length o3) : Int) then Option.bind (f_spec_ggNear k (b1_0, b1_1, b1_2) (List.getD o3 (Int.toNat v9) (0 : Int))) fun z2 => Option.bind (f_spec_ggGroups_6 k b1_0 b1_1 b1_2 o2 o3 z2 v5 v9 v26 v27 v28 (↑(List.length z2) : Int) (0 : Int)) fun z4 => f_spec_ggGroups_4 k (Prod.fst z4) (Prod.fst (Prod.snd z4)) (Prod.fst (Prod.snd (Prod.snd z4))) (Prod.fst (Prod.snd (Prod.snd (Prod.snd z4)))) (Prod.fst (Prod.snd (Prod.snd (Prod.snd (Prod.snd z4))))) (Prod.fst (Prod.snd (Prod.snd (Prod.snd (Prod.snd (Prod.snd z4)))))) (wrap64 (Prod.fst (Prod.snd (Prod.snd (Prod.snd (Prod.snd (Prod.snd (Prod.snd z4)))))) + (1 : Int))) (Prod.fst (Prod.snd (Prod.snd (Prod.snd (Prod.snd (Prod.snd (Prod.snd (Prod.snd z4)))))))) (Prod.fst (Prod.snd (Prod.snd (Prod.snd (Prod.snd (Prod.snd (Prod.snd (Prod.snd (Prod.snd z4))))))))) (Prod.snd (Prod.snd (Prod.snd (Prod.snd (Prod.snd (Prod.snd (Prod.snd (Prod.snd (Prod.snd z4))))))))) else none else none else some (b1_0, b1_1, b1_2, o2, v5, v26, v27, v28)
noncomputable def f_spec_ggGroups_4i : Spec := Spec.mk [OSh.ro, OSh.box (53 : Nat) [Sh.int IntKind.i64, Sh.int IntKind.i64, Sh.snap (0 : Nat) (Ty.pair (Ty.int IntKind.i64) (Ty.int IntKind.i64))], OSh.row true (3 : Nat) (Ty.int IntKind.i64), OSh.row true (3 : Nat) (Ty.int IntKind.i64)] [((1 : Nat), TSh.at (Sh.ptr (1 : Nat) (0 : Nat))), ((3 : Nat), TSh.at (Sh.sl (2 : Nat))), ((5 : Nat), TSh.at (Sh.int IntKind.i64)), ((8 : Nat), TSh.at (Sh.sl (3 : Nat))), ((9 : Nat), TSh.at (Sh.int IntKind.i64)), ((26 : Nat), TSh.at (Sh.snap (0 : Nat) (Ty.pair (Ty.int IntKind.i64) (Ty.int IntKind.i64)))), ((27 : Nat), TSh.at (Sh.int IntKind.i64)), ((28 : Nat), TSh.at (Sh.int IntKind.i64))]
noncomputable def f_spec_ggGroups_4o : Spec := Spec.mk [OSh.ro, OSh.box (53 : Nat) [Sh.int IntKind.i64, Sh.int IntKind.i64, Sh.snap (0 : Nat) (Ty.pair (Ty.int IntKind.i64) (Ty.int IntKind.i64))], OSh.row true (3 : Nat) (Ty.int IntKind.i64)] [((1 : Nat), TSh.at (Sh.ptr (1 : Nat) (0 : Nat))), ((3 : Nat), TSh.at (Sh.sl (2 : Nat))), ((5 : Nat), TSh.at (Sh.int IntKind.i64)), ((26 : Nat), TSh.at (Sh.snap (0 : Nat) (Ty.pair (Ty.int IntKind.i64) (Ty.int IntKind.i64)))), ((27 : Nat), TSh.at (Sh.int IntKind.i64)), ((28 : Nat), TSh.at (Sh.int IntKind.i64))]
noncomputable def f_spec_ggGroups_4D : LoopDef (Tup r_spec_ggGroups × OutD) := .plain f_spec_ggGroups_4i f_spec_ggGroups_4o (Int × Int × List (Int × Int) × List Int × Int × List (Int × Int) × Int × Int) (fun k x => f_spec_ggGroups_4 k x.1.2.1.1 x.1.2.1.2.1 x.1.2.1.2.2.1 x.1.2.2.1 x.1.2.2.2.1 x.2.2.2.1 x.2.2.2.2.2.1 x.2.2.2.2.2.2.1 x.2.2.2.2.2.2.2.1 x.2.2.2.2.2.2.2.2.1) (fun z => (((), (z.1, z.2.1, z.2.2.1, ()), z.2.2.2.1, ()), ((), (), z.2.2.2.2.1, z.2.2.2.2.2.1, z.2.2.2.2.2.2.1, z.2.2.2.2.2.2.2, ()))) (fun y => (y.1.2.1.1, y.1.2.1.2.1, y.1.2.1.2.2.1, y.1.2.2.1, y.2.2.2.1, y.2.2.2.2.1, y.2.2.2.2.2.1, y.2.2.2.2.2.2.1)) (fun _ => rfl)
noncomputable def f_spec_ggGroups_2 : Nat → Int → Int → List (Int × Int) → List Int → Int → List (Int × Int) → Int → Int → Option (List Int)
  | 0, _, _, _, _, _, _, _, _ => none
  | k + 1, b1_0, b1_1, b1_2, o2, v5, v26, v27, v28 =>
    if decide (v28 < v27) = true then if (0 : Int) ≤ v28 then if v28 < (↑(List.length v26) : Int) then Option.bind (f_spec_ggGear k (Prod.fst (List.getD v26 (Int.toNat v28) ((0 : Int), (0 : Int))), Prod.snd (List.getD v26 (Int.toNat v28) ((0 : Int), (0 : Int))))) fun z1 => if (!z1) = true then f_spec_ggGroups_2 k b1_0 b1_1 b1_2 o2 v5 v26 v27 (wrap64 (v28 + (1 : Int))) else if (0 : Int) ≤ v28 then if v28 < (↑(List.length o2) : Int) then if decide (List.getD o2 (Int.toNat v28) (0 : Int) ≥ (0 : Int)) = true then f_spec_ggGroups_2 k b1_0 b1_1 b1_2 o2 v5 v26 v27 (wrap64 (v28 + (1 : Int))) else if (0 : Int) ≤ v28 then if v28 < (↑(List.length o2) : Int) then Option.bind (f_spec_ggGroups_4 k b1_0 b1_1 b1_2 (List.set o2 (Int.toNat v28) v5) [v28] v5 (0 : Int) v26 v27 v28) fun z5 => f_spec_ggGroups_2 k (Prod.fst z5) (Prod.fst (Prod.snd z5)) (Prod.fst (Prod.snd (Prod.snd z5))) (Prod.fst (Prod.snd (Prod.snd (Prod.snd z5)))) (wrap64 (Prod.fst (Prod.snd (Prod.snd (Prod.snd (Prod.snd z5)))) + (1 : Int))) (Prod.fst (Prod.snd (Prod.snd (Prod.snd (Prod.snd (Prod.snd z5)))))) (Prod.fst (Prod.snd (Prod.snd (Prod.snd (Prod.snd (Prod.snd (Prod.snd z5))))))) (wrap64 (Prod.snd (Prod.snd (Prod.snd (Prod.snd (Prod.snd (Prod.snd (Prod.snd z5)))))) + (1 : Int))) else none else none else none else none else none else none else some o2
noncomputable def f_spec_ggGroups_2i : Spec := Spec.mk [OSh.ro, OSh.box (53 : Nat) [Sh.int IntKind.i64, Sh.int IntKind.i64, Sh.snap (0 : Nat) (Ty.pair (Ty.int IntKind.i64) (Ty.int IntKind.i64))], OSh.row true (3 : Nat) (Ty.int IntKind.i64)] [((1 : Nat), TSh.at (Sh.ptr (1 : Nat) (0 : Nat))), ((3 : Nat), TSh.at (Sh.sl (2 : Nat))), ((5 : Nat), TSh.at (Sh.int IntKind.i64)), ((26 : Nat), TSh.at (Sh.snap (0 : Nat) (Ty.pair (Ty.int IntKind.i64) (Ty.int IntKind.i64)))), ((27 : Nat), TSh.at (Sh.int IntKind.i64)), ((28 : Nat), TSh.at (Sh.int IntKind.i64))]
noncomputable def f_spec_ggGroups_2o : Spec := Spec.mk [OSh.ro, OSh.row true (3 : Nat) (Ty.int IntKind.i64)] [((3 : Nat), TSh.at (Sh.sl (1 : Nat)))]
noncomputable def f_spec_ggGroups_2D : LoopDef (Tup r_spec_ggGroups × OutD) := .plain f_spec_ggGroups_2i f_spec_ggGroups_2o (List Int) (fun k x => f_spec_ggGroups_2 k x.1.2.1.1 x.1.2.1.2.1 x.1.2.1.2.2.1 x.1.2.2.1 x.2.2.2.1 x.2.2.2.2.1 x.2.2.2.2.2.1 x.2.2.2.2.2.2.1) (fun z => (((), z, ()), ((), ()))) (fun y => (y.1.2.1)) (fun _ => rfl)
noncomputable def f_spec_ggGroups : Nat → Int × Int × List (Int × Int) → Option (List Int)
  | 0, _ => none
  | k + 1, p0 =>
    if Int.toNat (↑(List.length (Prod.snd (Prod.snd p0))) : Int) * (8 : Nat) ≤ (281474976710656 : Nat) then Option.bind (f_spec_ggGroups_0 k (Prod.fst p0) (Prod.fst (Prod.snd p0)) (Prod.snd (Prod.snd p0)) (List.replicate (Int.toNat (↑(List.length (Prod.snd (Prod.snd p0))) : Int)) (0 : Int)) (↑(List.length (List.replicate (Int.toNat (↑(List.length (Prod.snd (Prod.snd p0))) : Int)) (0 : Int))) : Int) (0 : Int)) fun z0 => Option.bind (f_spec_ggGroups_2 k (Prod.fst z0) (Prod.fst (Prod.snd z0)) (Prod.fst (Prod.snd (Prod.snd z0))) (Prod.snd (Prod.snd (Prod.snd z0))) (0 : Int) (Prod.fst (Prod.snd (Prod.snd z0))) (↑(List.length (Prod.fst (Prod.snd (Prod.snd z0)))) : Int) (0 : Int)) fun z6 => some z6 else none
noncomputable def d_spec_ggGroups : FnDef := .of q_spec_ggGroups r_spec_ggGroups (List Int) (fun k x => f_spec_ggGroups k x.1) to_spec_ggGroups of_spec_ggGroups to_of_spec_ggGroups
noncomputable def c_spec_ggGroups : Code := Try.f185.body.getD .skip
noncomputable def x_spec_ggGroups : Ctx (Tup r_spec_ggGroups × OutD) := { T := T, G := [(208, d_spec_ggGear.E), (209, d_spec_ggNear.E)], mvs := [], no := 0, n := 92, res := resOf T q_spec_ggGroups r_spec_ggGroups Try.f185.results.toList, loops := [(0, f_spec_ggGroups_0D.E), (6, f_spec_ggGroups_6D.E), (4, f_spec_ggGroups_4D.E), (2, f_spec_ggGroups_2D.E)], regs := [], conds := [] }
theorem g_spec_ggGroups (k : Nat) : EnvOK Try.prog k x_spec_ggGroups.G := (EnvOK.cons (s_spec_ggGear k) (EnvOK.cons (s_spec_ggNear k) (EnvOK.nil mixed)))
noncomputable def f_spec_ggGroups_0B : Code := (findLoop 0 c_spec_ggGroups).getD .skip
theorem f_spec_ggGroups_0h (k : Nat) (x : f_spec_ggGroups_0i.D) : f_spec_ggGroups_0D.lp (k + 1) x = loopK x_spec_ggGroups f_spec_ggGroups_0D 0 f_spec_ggGroups_0B k x := by kernel_rfl
theorem f_spec_ggGroups_0l (k : Nat) : LOK Try.prog x_spec_ggGroups k f_spec_ggGroups_0B := LOK.by [] (by kernel_rfl) AllOK.nil
theorem f_spec_ggGroups_0z (x : f_spec_ggGroups_0i.D) : f_spec_ggGroups_0D.lp 0 x = none := by kernel_rfl
theorem f_spec_ggGroups_0ok (k : Nat) : EOK Try.prog x_spec_ggGroups k f_spec_ggGroups_0D.E (.block 0 (.loop f_spec_ggGroups_0B)) := loop_ok T_ok g_spec_ggGroups f_spec_ggGroups_0z f_spec_ggGroups_0h f_spec_ggGroups_0l k
noncomputable def f_spec_ggGroups_6B : Code := (findLoop 6 c_spec_ggGroups).getD .skip
theorem f_spec_ggGroups_6h (k : Nat) (x : f_spec_ggGroups_6i.D) : f_spec_ggGroups_6D.lp (k + 1) x = loopK x_spec_ggGroups f_spec_ggGroups_6D 6 f_spec_ggGroups_6B k x := by kernel_rfl
theorem f_spec_ggGroups_6l (k : Nat) : LOK Try.prog x_spec_ggGroups k f_spec_ggGroups_6B := LOK.by [] (by kernel_rfl) AllOK.nil
theorem f_spec_ggGroups_6z (x : f_spec_ggGroups_6i.D) : f_spec_ggGroups_6D.lp 0 x = none := by kernel_rfl
theorem f_spec_ggGroups_6ok (k : Nat) : EOK Try.prog x_spec_ggGroups k f_spec_ggGroups_6D.E (.block 6 (.loop f_spec_ggGroups_6B)) := loop_ok T_ok g_spec_ggGroups f_spec_ggGroups_6z f_spec_ggGroups_6h f_spec_ggGroups_6l k
noncomputable def f_spec_ggGroups_4B : Code := (findLoop 4 c_spec_ggGroups).getD .skip
theorem f_spec_ggGroups_4h (k : Nat) (x : f_spec_ggGroups_4i.D) : f_spec_ggGroups_4D.lp (k + 1) x = loopK x_spec_ggGroups f_spec_ggGroups_4D 4 f_spec_ggGroups_4B k x := by kernel_rfl
theorem f_spec_ggGroups_4l (k : Nat) : LOK Try.prog x_spec_ggGroups k f_spec_ggGroups_4B := LOK.by [(f_spec_ggGroups_6D.E, .block 6 (.loop f_spec_ggGroups_6B))] (by kernel_rfl) (AllOK.cons (f_spec_ggGroups_6ok k) AllOK.nil)
theorem f_spec_ggGroups_4z (x : f_spec_ggGroups_4i.D) : f_spec_ggGroups_4D.lp 0 x = none := by kernel_rfl
theorem f_spec_ggGroups_4ok (k : Nat) : EOK Try.prog x_spec_ggGroups k f_spec_ggGroups_4D.E (.block 4 (.loop f_spec_ggGroups_4B)) := loop_ok T_ok g_spec_ggGroups f_spec_ggGroups_4z f_spec_ggGroups_4h f_spec_ggGroups_4l k
noncomputable def f_spec_ggGroups_2B : Code := (findLoop 2 c_spec_ggGroups).getD .skip
theorem f_spec_ggGroups_2h (k : Nat) (x : f_spec_ggGroups_2i.D) : f_spec_ggGroups_2D.lp (k + 1) x = loopK x_spec_ggGroups f_spec_ggGroups_2D 2 f_spec_ggGroups_2B k x := by kernel_rfl
theorem f_spec_ggGroups_2l (k : Nat) : LOK Try.prog x_spec_ggGroups k f_spec_ggGroups_2B := LOK.by [(f_spec_ggGroups_4D.E, .block 4 (.loop f_spec_ggGroups_4B))] (by kernel_rfl) (AllOK.cons (f_spec_ggGroups_4ok k) AllOK.nil)
theorem f_spec_ggGroups_2z (x : f_spec_ggGroups_2i.D) : f_spec_ggGroups_2D.lp 0 x = none := by kernel_rfl
theorem f_spec_ggGroups_2ok (k : Nat) : EOK Try.prog x_spec_ggGroups k f_spec_ggGroups_2D.E (.block 2 (.loop f_spec_ggGroups_2B)) := loop_ok T_ok g_spec_ggGroups f_spec_ggGroups_2z f_spec_ggGroups_2h f_spec_ggGroups_2l k
theorem h_spec_ggGroups (k : Nat) (x : Tup d_spec_ggGroups.ps) : d_spec_ggGroups.f (k + 1) x = fnK d_spec_ggGroups x_spec_ggGroups c_spec_ggGroups k x := by kernel_rfl
theorem z_spec_ggGroups (x : Tup d_spec_ggGroups.ps) : d_spec_ggGroups.f 0 x = none := by kernel_rfl
theorem l_spec_ggGroups (k : Nat) : LOK Try.prog x_spec_ggGroups k c_spec_ggGroups := LOK.by [(f_spec_ggGroups_0D.E, .block 0 (.loop f_spec_ggGroups_0B)), (f_spec_ggGroups_2D.E, .block 2 (.loop f_spec_ggGroups_2B))] (by kernel_rfl) (AllOK.cons (f_spec_ggGroups_0ok k) (AllOK.cons (f_spec_ggGroups_2ok k) AllOK.nil))
theorem s_spec_ggGroups (k : Nat) : SoundAt Try.prog k 185 d_spec_ggGroups.E := @fn_all Try.prog d_spec_ggGroups x_spec_ggGroups 185 Try.f185 c_spec_ggGroups (by kernel_rfl) (by kernel_rfl) (by kernel_rfl) Try.func185 (by kernel_rfl) (by kernel_rfl) (by kernel_rfl) T_ok g_spec_ggGroups l_spec_ggGroups z_spec_ggGroups h_spec_ggGroups k
/-! function 187 -/
noncomputable def r_impl_GoesTo : List PK := [PK.mk (Ty.int IntKind.i64) false none false none, PK.mk Ty.bool false none false none]
noncomputable def q_impl_GoesTo : List PK := [PK.mk (Ty.pair (Ty.int IntKind.i64) (Ty.int IntKind.i64)) true none false none, PK.mk (Ty.int IntKind.i64) false none false none]
noncomputable def to_impl_GoesTo (r : Int × Bool) : Tup r_impl_GoesTo × OutD := ((r.1, r.2, ()), none)
noncomputable def of_impl_GoesTo : Tup r_impl_GoesTo × OutD → Option (Int × Bool)
  | (a, none) => some (a.1, a.2.1)
  | _ => none
theorem to_of_impl_GoesTo : ∀ b r, of_impl_GoesTo b = some r → to_impl_GoesTo r = b := by
  rintro ⟨a, o⟩ r h
  cases o with
  | none => injection h with h; subst h; rfl
  | some _ => cases h
noncomputable def f_impl_GoesTo : Nat → Int × Int → Int → Option (Int × Bool)
  | 0, _, _ => none
  | k + 1, p0, p1 =>
    Option.bind (f_impl_IsCell k (Prod.fst p0, Prod.snd p0)) fun z0 => if (!z0) = true then some ((0 : Int), false) else if decide (p1 < (-1 : Int)) = true then some ((0 : Int), false) else if decide (p1 > (1 : Int)) = true then some ((0 : Int), false) else if decide (Prod.fst p0 = (5 : Int)) = true then some ((0 : Int), false) else if decide (Prod.fst p0 = (1 : Int)) = true then some ((-1 : Int), true) else if decide (Prod.fst p0 = (2 : Int)) = true then some ((1 : Int), true) else if decide (Prod.fst p0 = (3 : Int)) = true then some (wrap64 (wrap64 ((2 : Int) * Prod.snd p0) - (1 : Int)), true) else if decide (Prod.fst p0 = (6 : Int)) = true then some (wrap64 (wrap64 ((2 : Int) * Prod.snd p0) - (1 : Int)), true) else if decide (Prod.fst p0 = (4 : Int)) = true then some (wrap64 ((0 : Int) - p1), true) else some ((0 : Int), true)
noncomputable def d_impl_GoesTo : FnDef := .of q_impl_GoesTo r_impl_GoesTo (Int × Bool) (fun k x => f_impl_GoesTo k x.1 x.2.1) to_impl_GoesTo of_impl_GoesTo to_of_impl_GoesTo
noncomputable def c_impl_GoesTo : Code := Try.f187.body.getD .skip
noncomputable def x_impl_GoesTo : Ctx (Tup r_impl_GoesTo × OutD) := { T := T, G := [(213, d_impl_IsCell.E)], mvs := [], no := 0, n := 39, res := resOf T q_impl_GoesTo r_impl_GoesTo Try.f187.results.toList, loops := [], regs := [], conds := [] }
theorem g_impl_GoesTo (k : Nat) : EnvOK Try.prog k x_impl_GoesTo.G := (EnvOK.cons (s_impl_IsCell k) (EnvOK.nil mixed))
theorem h_impl_GoesTo (k : Nat) (x : Tup d_impl_GoesTo.ps) : d_impl_GoesTo.f (k + 1) x = fnK d_impl_GoesTo x_impl_GoesTo c_impl_GoesTo k x := by kernel_rfl
theorem z_impl_GoesTo (x : Tup d_impl_GoesTo.ps) : d_impl_GoesTo.f 0 x = none := by kernel_rfl
theorem l_impl_GoesTo (k : Nat) : LOK Try.prog x_impl_GoesTo k c_impl_GoesTo := LOK.by [] (by kernel_rfl) AllOK.nil
theorem s_impl_GoesTo (k : Nat) : SoundAt Try.prog k 187 d_impl_GoesTo.E := @fn_all Try.prog d_impl_GoesTo x_impl_GoesTo 187 Try.f187 c_impl_GoesTo (by kernel_rfl) (by kernel_rfl) (by kernel_rfl) Try.func187 (by kernel_rfl) (by kernel_rfl) (by kernel_rfl) T_ok g_impl_GoesTo l_impl_GoesTo z_impl_GoesTo h_impl_GoesTo k
/-! function 188 -/
noncomputable def r_impl_IsTurning : List PK := [PK.mk Ty.bool false none false none]
noncomputable def q_impl_IsTurning : List PK := [PK.mk (Ty.pair (Ty.int IntKind.i64) (Ty.int IntKind.i64)) true none false none]
noncomputable def to_impl_IsTurning (r : Bool) : Tup r_impl_IsTurning × OutD := ((r, ()), none)
noncomputable def of_impl_IsTurning : Tup r_impl_IsTurning × OutD → Option (Bool)
  | (a, none) => some (a.1)
  | _ => none
theorem to_of_impl_IsTurning : ∀ b r, of_impl_IsTurning b = some r → to_impl_IsTurning r = b := by
  rintro ⟨a, o⟩ r h
  cases o with
  | none => injection h with h; subst h; rfl
  | some _ => cases h
noncomputable def f_impl_IsTurning : Nat → Int × Int → Option Bool
  | 0, _ => none
  | k + 1, p0 =>
    Option.bind (f_impl_IsCell k (Prod.fst p0, Prod.snd p0)) fun z0 => if z0 = true then if decide (Prod.fst p0 = (3 : Int)) = true then some true else some (decide (Prod.fst p0 = (6 : Int))) else some false
noncomputable def d_impl_IsTurning : FnDef := .of q_impl_IsTurning r_impl_IsTurning (Bool) (fun k x => f_impl_IsTurning k x.1) to_impl_IsTurning of_impl_IsTurning to_of_impl_IsTurning
noncomputable def c_impl_IsTurning : Code := Try.f188.body.getD .skip
noncomputable def x_impl_IsTurning : Ctx (Tup r_impl_IsTurning × OutD) := { T := T, G := [(213, d_impl_IsCell.E)], mvs := [], no := 0, n := 15, res := resOf T q_impl_IsTurning r_impl_IsTurning Try.f188.results.toList, loops := [], regs := [], conds := [] }
theorem g_impl_IsTurning (k : Nat) : EnvOK Try.prog k x_impl_IsTurning.G := (EnvOK.cons (s_impl_IsCell k) (EnvOK.nil mixed))
theorem h_impl_IsTurning (k : Nat) (x : Tup d_impl_IsTurning.ps) : d_impl_IsTurning.f (k + 1) x = fnK d_impl_IsTurning x_impl_IsTurning c_impl_IsTurning k x := by kernel_rfl
theorem z_impl_IsTurning (x : Tup d_impl_IsTurning.ps) : d_impl_IsTurning.f 0 x = none := by kernel_rfl
theorem l_impl_IsTurning (k : Nat) : LOK Try.prog x_impl_IsTurning k c_impl_IsTurning := LOK.by [] (by kernel_rfl) AllOK.nil
theorem s_impl_IsTurning (k : Nat) : SoundAt Try.prog k 188 d_impl_IsTurning.E := @fn_all Try.prog d_impl_IsTurning x_impl_IsTurning 188 Try.f188 c_impl_IsTurning (by kernel_rfl) (by kernel_rfl) (by kernel_rfl) Try.func188 (by kernel_rfl) (by kernel_rfl) (by kernel_rfl) T_ok g_impl_IsTurning l_impl_IsTurning z_impl_IsTurning h_impl_IsTurning k
/-! function 192 -/
noncomputable def r_impl_validCells : List PK := [PK.mk Ty.bool false none false none]
noncomputable def q_impl_validCells : List PK := [PK.mk (Ty.slice (79 : Nat) (Ty.pair (Ty.int IntKind.i64) (Ty.int IntKind.i64))) false none false none]
noncomputable def to_impl_validCells (r : Bool) : Tup r_impl_validCells × OutD := ((r, ()), none)
noncomputable def of_impl_validCells : Tup r_impl_validCells × OutD → Option (Bool)
  | (a, none) => some (a.1)
  | _ => none
theorem to_of_impl_validCells : ∀ b r, of_impl_validCells b = some r → to_impl_validCells r = b := by
  rintro ⟨a, o⟩ r h
  cases o with
  | none => injection h with h; subst h; rfl
  | some _ => cases h
noncomputable def f_impl_validCells_0 : Nat → List (Int × Int) → Int → Int → Option (LR Unit Bool)
  | 0, _, _, _ => none
  | k + 1, v8, v9, v10 =>
    if decide (v10 < v9) = true then if (0 : Int) ≤ v10 then if v10 < (↑(List.length v8) : Int) then Option.bind (f_impl_IsCell k (Prod.fst (List.getD v8 (Int.toNat v10) ((0 : Int), (0 : Int))), Prod.snd (List.getD v8 (Int.toNat v10) ((0 : Int), (0 : Int))))) fun z0 => if (!z0) = true then some (LR.ret false) else f_impl_validCells_0 k v8 v9 (wrap64 (v10 + (1 : Int))) else none else none else some (LR.go ())
noncomputable def f_impl_validCells_0i : Spec := Spec.mk [OSh.ro] [((8 : Nat), TSh.at (Sh.snap (0 : Nat) (Ty.pair (Ty.int IntKind.i64) (Ty.int IntKind.i64)))), ((9 : Nat), TSh.at (Sh.int IntKind.i64)), ((10 : Nat), TSh.at (Sh.int IntKind.i64))]
noncomputable def f_impl_validCells_0o : Spec := Spec.mk [OSh.ro] []
noncomputable def f_impl_validCells_0D : LoopDef (Tup r_impl_validCells × OutD) := .rets f_impl_validCells_0i f_impl_validCells_0o (Unit) (Bool) (fun k x => f_impl_validCells_0 k x.2.1 x.2.2.1 x.2.2.2.1) (fun z => (((), ()), (()))) (fun y => ()) (fun _ => rfl) to_impl_validCells of_impl_validCells to_of_impl_validCells
noncomputable def f_impl_validCells : Nat → List (Int × Int) → Option Bool
  | 0, _ => none
  | k + 1, p0 =>
    if decide ((↑(List.length p0) : Int) > (90 : Int)) = true then some false else Option.bind (f_impl_validCells_0 k p0 (↑(List.length p0) : Int) (0 : Int)) fun z1 => LR.on z1 (fun y1 => some true) fun r1 => some r1
noncomputable def d_impl_validCells : FnDef := .of q_impl_validCells r_impl_validCells (Bool) (fun k x => f_impl_validCells k x.1) to_impl_validCells of_impl_validCells to_of_impl_validCells
noncomputable def c_impl_validCells : Code := Try.f192.body.getD .skip
noncomputable def x_impl_validCells : Ctx (Tup r_impl_validCells × OutD) := { T := T, G := [(213, d_impl_IsCell.E)], mvs := [], no := 0, n := 18, res := resOf T q_impl_validCells r_impl_validCells Try.f192.results.toList, loops := [(0, f_impl_validCells_0D.E)], regs := [], conds := [] }
theorem g_impl_validCells (k : Nat) : EnvOK Try.prog k x_impl_validCells.G := (EnvOK.cons (s_impl_IsCell k) (EnvOK.nil mixed))
noncomputable def f_impl_validCells_0B : Code := (findLoop 0 c_impl_validCells).getD .skip
theorem f_impl_validCells_0h (k : Nat) (x : f_impl_validCells_0i.D) : f_impl_validCells_0D.lp (k + 1) x = loopK x_impl_validCells f_impl_validCells_0D 0 f_impl_validCells_0B k x := by kernel_rfl
theorem f_impl_validCells_0l (k : Nat) : LOK Try.prog x_impl_validCells k f_impl_validCells_0B := LOK.by [] (by kernel_rfl) AllOK.nil
theorem f_impl_validCells_0z (x : f_impl_validCells_0i.D) : f_impl_validCells_0D.lp 0 x = none := by kernel_rfl
theorem f_impl_validCells_0ok (k : Nat) : EOK Try.prog x_impl_validCells k f_impl_validCells_0D.E (.block 0 (.loop f_impl_validCells_0B)) := loop_ok T_ok g_impl_validCells f_impl_validCells_0z f_impl_validCells_0h f_impl_validCells_0l k
theorem h_impl_validCells (k : Nat) (x : Tup d_impl_validCells.ps) : d_impl_validCells.f (k + 1) x = fnK d_impl_validCells x_impl_validCells c_impl_validCells k x := by kernel_rfl
theorem z_impl_validCells (x : Tup d_impl_validCells.ps) : d_impl_validCells.f 0 x = none := by kernel_rfl
theorem l_impl_validCells (k : Nat) : LOK Try.prog x_impl_validCells k c_impl_validCells := LOK.by [(f_impl_validCells_0D.E, .block 0 (.loop f_impl_validCells_0B))] (by kernel_rfl) (AllOK.cons (f_impl_validCells_0ok k) AllOK.nil)
theorem s_impl_validCells (k : Nat) : SoundAt Try.prog k 192 d_impl_validCells.E := @fn_all Try.prog d_impl_validCells x_impl_validCells 192 Try.f192 c_impl_validCells (by kernel_rfl) (by kernel_rfl) (by kernel_rfl) Try.func192 (by kernel_rfl) (by kernel_rfl) (by kernel_rfl) T_ok g_impl_validCells l_impl_validCells z_impl_validCells h_impl_validCells k
/-! function 193 -/
noncomputable def r_spec_paGood : List PK := [PK.mk Ty.bool false none false none]
noncomputable def q_spec_paGood : List PK := [PK.mk (Ty.pair (Ty.int IntKind.i64) (Ty.int IntKind.i64)) true none false none]
noncomputable def to_spec_paGood (r : Bool) : Tup r_spec_paGood × OutD := ((r, ()), none)
noncomputable def of_spec_paGood : Tup r_spec_paGood × OutD → Option (Bool)
  | (a, none) => some (a.1)
  | _ => none
theorem to_of_spec_paGood : ∀ b r, of_spec_paGood b = some r → to_spec_paGood r = b := by
  rintro ⟨a, o⟩ r h
  cases o with
  | none => injection h with h; subst h; rfl
  | some _ => cases h
noncomputable def f_spec_paGood : Nat → Int × Int → Option Bool
  | 0, _ => none
  | k + 1, p0 =>
    Option.bind (f_spec_l1In k (Prod.fst p0) (0 : Int) (7 : Int)) fun z0 => if z0 = true then if decide (Prod.snd p0 = (0 : Int)) = true then some true else if decide (Prod.snd p0 = (1 : Int)) = true then Option.bind (f_spec_paTurning k (Prod.fst p0, Prod.snd p0)) fun z1 => some z1 else some false else some false
noncomputable def d_spec_paGood : FnDef := .of q_spec_paGood r_spec_paGood (Bool) (fun k x => f_spec_paGood k x.1) to_spec_paGood of_spec_paGood to_of_spec_paGood
noncomputable def c_spec_paGood : Code := Try.f193.body.getD .skip
noncomputable def x_spec_paGood : Ctx (Tup r_spec_paGood × OutD) := { T := T, G := [(96, d_spec_l1In.E), (207, d_spec_paTurning.E)], mvs := [], no := 0, n := 20, res := resOf T q_spec_paGood r_spec_paGood Try.f193.results.toList, loops := [], regs := [], conds := [] }
theorem g_spec_paGood (k : Nat) : EnvOK Try.prog k x_spec_paGood.G := (EnvOK.cons (s_spec_l1In k) (EnvOK.cons (s_spec_paTurning k) (EnvOK.nil mixed)))
theorem h_spec_paGood (k : Nat) (x : Tup d_spec_paGood.ps) : d_spec_paGood.f (k + 1) x = fnK d_spec_paGood x_spec_paGood c_spec_paGood k x := by kernel_rfl
theorem z_spec_paGood (x : Tup d_spec_paGood.ps) : d_spec_paGood.f 0 x = none := by kernel_rfl
theorem l_spec_paGood (k : Nat) : LOK Try.prog x_spec_paGood k c_spec_paGood := LOK.by [] (by kernel_rfl) AllOK.nil
theorem s_spec_paGood (k : Nat) : SoundAt Try.prog k 193 d_spec_paGood.E := @fn_all Try.prog d_spec_paGood x_spec_paGood 193 Try.f193 c_spec_paGood (by kernel_rfl) (by kernel_rfl) (by kernel_rfl) Try.func193 (by kernel_rfl) (by kernel_rfl) (by kernel_rfl) T_ok g_spec_paGood l_spec_paGood z_spec_paGood h_spec_paGood k
/-! function 198 -/
/-! function 201 -/
/-! function 204 -/
noncomputable def r_spec_bcBoard : List PK := [PK.mk (Ty.pair (Ty.int IntKind.i64) (Ty.pair (Ty.int IntKind.i64) (Ty.slice (79 : Nat) (Ty.pair (Ty.int IntKind.i64) (Ty.int IntKind.i64))))) true none false none]
noncomputable def q_spec_bcBoard : List PK := [PK.mk (Ty.int IntKind.i64) false none false none, PK.mk (Ty.int IntKind.i64) false none false none]
noncomputable def to_spec_bcBoard (r : Int × Int × List (Int × Int)) : Tup r_spec_bcBoard × OutD := ((r, ()), none)
noncomputable def of_spec_bcBoard : Tup r_spec_bcBoard × OutD → Option (Int × Int × List (Int × Int))
  | (a, none) => some (a.1)
  | _ => none
theorem to_of_spec_bcBoard : ∀ b r, of_spec_bcBoard b = some r → to_spec_bcBoard r = b := by
  rintro ⟨a, o⟩ r h
  cases o with
  | none => injection h with h; subst h; rfl
  | some _ => cases h
noncomputable def f_spec_bcBoard_0 : Nat → Int → Int → List (Int × Int) → Int → Int → List (Int × Int) → Int → Int → Int → Option (Int × Int × List (Int × Int) × Int × Int × List (Int × Int))
  | 0, _, _, _, _, _, _, _, _, _ => none
  | k + 1, b1_0, b1_1, o2, b3_0, b3_1, o4, v0, v1, v6 =>
    if decide (v6 < v0) = true then Option.bind (f_spec_ttBit k v1 v6) fun z0 => if (0 : Int) ≤ wrap64 (wrap64 ((6 : Int) * v6) + (1 : Int)) then if wrap64 (wrap64 ((6 : Int) * v6) + (1 : Int)) < (↑(List.length o4) : Int) then if (0 : Int) ≤ wrap64 (wrap64 ((6 : Int) * v6) + (5 : Int)) then if wrap64 (wrap64 ((6 : Int) * v6) + (5 : Int)) < (↑(List.length (List.set o4 (Int.toNat (wrap64 (wrap64 ((6 : Int) * v6) + (1 : Int)))) ((3 : Int), z0))) : Int) then f_spec_bcBoard_0 k b1_0 b1_1 o2 b3_0 b3_1 (List.set (List.set o4 (Int.toNat (wrap64 (wrap64 ((6 : Int) * v6) + (1 : Int)))) ((3 : Int), z0)) (Int.toNat (wrap64 (wrap64 ((6 : Int) * v6) + (5 : Int)))) ((1 : Int), (0 : Int))) v0 v1 (wrap64 (v6 + (1 : Int))) else none else none else none else none else some (b1_0, b1_1, o2, b3_0, b3_1, o4)
noncomputable def f_spec_bcBoard_0i : Spec := Spec.mk [OSh.ro, OSh.box (53 : Nat) [Sh.int IntKind.i64, Sh.int IntKind.i64, Sh.sl (2 : Nat)], OSh.row true (79 : Nat) (Ty.pair (Ty.int IntKind.i64) (Ty.int IntKind.i64)), OSh.box (53 : Nat) [Sh.int IntKind.i64, Sh.int IntKind.i64, Sh.sl (4 : Nat)], OSh.row true (79 : Nat) (Ty.pair (Ty.int IntKind.i64) (Ty.int IntKind.i64))] [((0 : Nat), TSh.at (Sh.int IntKind.i64)), ((1 : Nat), TSh.at (Sh.int IntKind.i64)), ((4 : Nat), TSh.at (Sh.ptr (1 : Nat) (0 : Nat))), ((5 : Nat), TSh.at (Sh.ptr (3 : Nat) (0 : Nat))), ((6 : Nat), TSh.at (Sh.int IntKind.i64))]
noncomputable def f_spec_bcBoard_0o : Spec := Spec.mk [OSh.ro, OSh.box (53 : Nat) [Sh.int IntKind.i64, Sh.int IntKind.i64, Sh.sl (2 : Nat)], OSh.row true (79 : Nat) (Ty.pair (Ty.int IntKind.i64) (Ty.int IntKind.i64)), OSh.box (53 : Nat) [Sh.int IntKind.i64, Sh.int IntKind.i64, Sh.sl (4 : Nat)], OSh.row true (79 : Nat) (Ty.pair (Ty.int IntKind.i64) (Ty.int IntKind.i64))] [((4 : Nat), TSh.at (Sh.ptr (1 : Nat) (0 : Nat))), ((5 : Nat), TSh.at (Sh.ptr (3 : Nat) (0 : Nat)))]
noncomputable def f_spec_bcBoard_0D : LoopDef (Tup r_spec_bcBoard × OutD) := .plain f_spec_bcBoard_0i f_spec_bcBoard_0o (Int × Int × List (Int × Int) × Int × Int × List (Int × Int)) (fun k x => f_spec_bcBoard_0 k x.1.2.1.1 x.1.2.1.2.1 x.1.2.2.1 x.1.2.2.2.1.1 x.1.2.2.2.1.2.1 x.1.2.2.2.2.1 x.2.1 x.2.2.1 x.2.2.2.2.2.1) (fun z => (((), (z.1, z.2.1, (), ()), z.2.2.1, (z.2.2.2.1, z.2.2.2.2.1, (), ()), z.2.2.2.2.2, ()), ((), (), ()))) (fun y => (y.1.2.1.1, y.1.2.1.2.1, y.1.2.2.1, y.1.2.2.2.1.1, y.1.2.2.2.1.2.1, y.1.2.2.2.2.1)) (fun _ => rfl)
noncomputable def f_spec_bcBoard : Nat → Int → Int → Option (Int × Int × List (Int × Int))
  | 0, _, _ => none
  | k + 1, p0, p1 =>
    if (0 : Int) ≤ wrap64 ((6 : Int) * p0) then if Int.toNat (wrap64 ((6 : Int) * p0)) * (16 : Nat) ≤ (281474976710656 : Nat) then Option.bind (f_spec_bcBoard_0 k (0 : Int) (0 : Int) [] (wrap64 ((2 : Int) * p0)) (3 : Int) (List.replicate (Int.toNat (wrap64 ((6 : Int) * p0))) ((0 : Int), (0 : Int))) p0 p1 (0 : Int)) fun z1 => some (Prod.fst (Prod.snd (Prod.snd (Prod.snd z1))), Prod.fst (Prod.snd (Prod.snd (Prod.snd (Prod.snd z1)))), Prod.snd (Prod.snd (Prod.snd (Prod.snd (Prod.snd z1))))) else none else none
noncomputable def d_spec_bcBoard : FnDef := .of q_spec_bcBoard r_spec_bcBoard (Int × Int × List (Int × Int)) (fun k x => f_spec_bcBoard k x.1 x.2.1) to_spec_bcBoard of_spec_bcBoard to_of_spec_bcBoard
noncomputable def c_spec_bcBoard : Code := Try.f204.body.getD .skip
noncomputable def x_spec_bcBoard : Ctx (Tup r_spec_bcBoard × OutD) := { T := T, G := [(215, d_spec_ttBit.E)], mvs := [], no := 0, n := 36, res := resOf T q_spec_bcBoard r_spec_bcBoard Try.f204.results.toList, loops := [(0, f_spec_bcBoard_0D.E)], regs := [], conds := [] }
theorem g_spec_bcBoard (k : Nat) : EnvOK Try.prog k x_spec_bcBoard.G := (EnvOK.cons (s_spec_ttBit k) (EnvOK.nil mixed))
noncomputable def f_spec_bcBoard_0B : Code := (findLoop 0 c_spec_bcBoard).getD .skip
theorem f_spec_bcBoard_0h (k : Nat) (x : f_spec_bcBoard_0i.D) : f_spec_bcBoard_0D.lp (k + 1) x = loopK x_spec_bcBoard f_spec_bcBoard_0D 0 f_spec_bcBoard_0B k x := by kernel_rfl
theorem f_spec_bcBoard_0l (k : Nat) : LOK Try.prog x_spec_bcBoard k f_spec_bcBoard_0B := LOK.by [] (by kernel_rfl) AllOK.nil
theorem f_spec_bcBoard_0z (x : f_spec_bcBoard_0i.D) : f_spec_bcBoard_0D.lp 0 x = none := by kernel_rfl
theorem f_spec_bcBoard_0ok (k : Nat) : EOK Try.prog x_spec_bcBoard k f_spec_bcBoard_0D.E (.block 0 (.loop f_spec_bcBoard_0B)) := loop_ok T_ok g_spec_bcBoard f_spec_bcBoard_0z f_spec_bcBoard_0h f_spec_bcBoard_0l k
theorem h_spec_bcBoard (k : Nat) (x : Tup d_spec_bcBoard.ps) : d_spec_bcBoard.f (k + 1) x = fnK d_spec_bcBoard x_spec_bcBoard c_spec_bcBoard k x := by kernel_rfl
theorem z_spec_bcBoard (x : Tup d_spec_bcBoard.ps) : d_spec_bcBoard.f 0 x = none := by kernel_rfl
theorem l_spec_bcBoard (k : Nat) : LOK Try.prog x_spec_bcBoard k c_spec_bcBoard := LOK.by [(f_spec_bcBoard_0D.E, .block 0 (.loop f_spec_bcBoard_0B))] (by kernel_rfl) (AllOK.cons (f_spec_bcBoard_0ok k) AllOK.nil)
theorem s_spec_bcBoard (k : Nat) : SoundAt Try.prog k 204 d_spec_bcBoard.E := @fn_all Try.prog d_spec_bcBoard x_spec_bcBoard 204 Try.f204 c_spec_bcBoard (by kernel_rfl) (by kernel_rfl) (by kernel_rfl) Try.func204 (by kernel_rfl) (by kernel_rfl) (by kernel_rfl) T_ok g_spec_bcBoard l_spec_bcBoard z_spec_bcBoard h_spec_bcBoard k
/-! function 212 -/
noncomputable def r_spec_flPass : List PK := []
noncomputable def q_spec_flPass : List PK := [PK.mk (Ty.pair (Ty.int IntKind.i64) (Ty.pair (Ty.int IntKind.i64) (Ty.slice (79 : Nat) (Ty.pair (Ty.int IntKind.i64) (Ty.int IntKind.i64))))) true (some ((2 : Nat), (79 : Nat), Ty.pair (Ty.int IntKind.i64) (Ty.int IntKind.i64))) false none, PK.mk (Ty.slice (3 : Nat) (Ty.int IntKind.i64)) false none false none, PK.mk (Ty.int IntKind.i64) false none false none]
noncomputable def to_spec_flPass (r : List (Int × Int)) : Tup r_spec_flPass × OutD := ((()), some ⟨Ty.pair (Ty.int IntKind.i64) (Ty.int IntKind.i64), r⟩)
noncomputable def of_spec_flPass : Tup r_spec_flPass × OutD → Option (List (Int × Int))
  | (a, some ⟨u, ys⟩) => if h : u = Ty.pair (Ty.int IntKind.i64) (Ty.int IntKind.i64) then some (castU h ys) else none
  | _ => none
theorem to_of_spec_flPass : ∀ b r, of_spec_flPass b = some r → to_spec_flPass r = b := by
  rintro ⟨a, o⟩ r h
  cases o with
  | none => cases h
  | some s =>
    obtain ⟨u, ys⟩ := s
    simp only [of_spec_flPass] at h
    split at h
    · rename_i hu; subst hu; injection h with h; subst h; rfl
    · cases h
noncomputable def f_spec_flPass_1 : Nat → List (Int × Int) → Int → Int → List Int → Int → Int → Int → Option (List (Int × Int))
  | 0, _, _, _, _, _, _, _ => none
  | k + 1, o1, b2_0, b2_1, v1, v2, v28, v29 =>
    if decide (v29 < v28) = true then if (0 : Int) ≤ v29 then if v29 < (↑(List.length o1) : Int) then if decide (Prod.fst (List.getD o1 (Int.toNat v29) ((0 : Int), (0 : Int))) = (6 : Int)) = true then if (0 : Int) ≤ v29 then if v29 < (↑(List.length v1) : Int) then if (0 : Int) ≤ v2 then if v2 < (↑(List.length v1) : Int) then if decide (List.getD v1 (Int.toNat v29) (0 : Int) = List.getD v1 (Int.toNat v2) (0 : Int)) = true then Option.bind (f_spec_paTurn k (Prod.fst (List.getD o1 (Int.toNat v29) ((0 : Int), (0 : Int))), Prod.snd (List.getD o1 (Int.toNat v29) ((0 : Int), (0 : Int))))) fun z1 => if (0 : Int) ≤ v29 then if v29 < (↑(List.length o1) : Int) then f_spec_flPass_1 k (List.set o1 (Int.toNat v29) (Prod.fst z1, Prod.snd z1)) b2_0 b2_1 v1 v2 v28 (wrap64 (v29 + (1 : Int))) else none else none else f_spec_flPass_1 k o1 b2_0 b2_1 v1 v2 v28 (wrap64 (v29 + (1 : Int))) else none else none else none else none else f_spec_flPass_1 k o1 b2_0 b2_1 v1 v2 v28 (wrap64 (v29 + (1 : Int))) else none else none else some o1
noncomputable def f_spec_flPass_1i : Spec := Spec.mk [OSh.ro, OSh.row false (79 : Nat) (Ty.pair (Ty.int IntKind.i64) (Ty.int IntKind.i64)), OSh.box (53 : Nat) [Sh.int IntKind.i64, Sh.int IntKind.i64, Sh.sl (1 : Nat)]] [((1 : Nat), TSh.at (Sh.snap (0 : Nat) (Ty.int IntKind.i64))), ((2 : Nat), TSh.at (Sh.int IntKind.i64)), ((3 : Nat), TSh.at (Sh.ptr (2 : Nat) (0 : Nat))), ((27 : Nat), TSh.at (Sh.sl (1 : Nat))), ((28 : Nat), TSh.at (Sh.int IntKind.i64)), ((29 : Nat), TSh.at (Sh.int IntKind.i64))]
noncomputable def f_spec_flPass_1o : Spec := Spec.mk [OSh.ro, OSh.row false (79 : Nat) (Ty.pair (Ty.int IntKind.i64) (Ty.int IntKind.i64))] []
noncomputable def f_spec_flPass_1D : LoopDef (Tup r_spec_flPass × OutD) := .plain f_spec_flPass_1i f_spec_flPass_1o (List (Int × Int)) (fun k x => f_spec_flPass_1 k x.1.2.1 x.1.2.2.1.1 x.1.2.2.1.2.1 x.2.1 x.2.2.1 x.2.2.2.2.2.1 x.2.2.2.2.2.2.1) (fun z => (((), z, ()), (()))) (fun y => (y.1.2.1)) (fun _ => rfl)
noncomputable def f_spec_flPass : Nat → Int × Int × List (Int × Int) → List Int → Int → Option (List (Int × Int))
  | 0, _, _, _ => none
  | k + 1, p0, p1, p2 =>
    if (0 : Int) ≤ p2 then if p2 < (↑(List.length (Prod.snd (Prod.snd p0))) : Int) then if decide (Prod.fst (List.getD (Prod.snd (Prod.snd p0)) (Int.toNat p2) ((0 : Int), (0 : Int))) = (3 : Int)) = true then Option.bind (f_spec_paTurn k (Prod.fst (List.getD (Prod.snd (Prod.snd p0)) (Int.toNat p2) ((0 : Int), (0 : Int))), Prod.snd (List.getD (Prod.snd (Prod.snd p0)) (Int.toNat p2) ((0 : Int), (0 : Int))))) fun z0 => if (0 : Int) ≤ p2 then if p2 < (↑(List.length (Prod.snd (Prod.snd p0))) : Int) then some (List.set (Prod.snd (Prod.snd p0)) (Int.toNat p2) (Prod.fst z0, Prod.snd z0)) else none else none else if decide (Prod.fst (List.getD (Prod.snd (Prod.snd p0)) (Int.toNat p2) ((0 : Int), (0 : Int))) = (6 : Int)) = true then Option.bind (f_spec_flPass_1 k (Prod.snd (Prod.snd p0)) (Prod.fst p0) (Prod.fst (Prod.snd p0)) p1 p2 (↑(List.length (Prod.snd (Prod.snd p0))) : Int) (0 : Int)) fun z2 => some z2 else some (Prod.snd (Prod.snd p0)) else none else none
noncomputable def d_spec_flPass : FnDef := .of q_spec_flPass r_spec_flPass (List (Int × Int)) (fun k x => f_spec_flPass k x.1 x.2.1 x.2.2.1) to_spec_flPass of_spec_flPass to_of_spec_flPass
noncomputable def c_spec_flPass : Code := Try.f212.body.getD .skip
noncomputable def x_spec_flPass : Ctx (Tup r_spec_flPass × OutD) := { T := T, G := [(218, d_spec_paTurn.E)], mvs := [], no := 1, n := 55, res := resOf T q_spec_flPass r_spec_flPass Try.f212.results.toList, loops := [(1, f_spec_flPass_1D.E)], regs := [], conds := [] }
theorem g_spec_flPass (k : Nat) : EnvOK Try.prog k x_spec_flPass.G := (EnvOK.cons (s_spec_paTurn k) (EnvOK.nil mixed))
noncomputable def f_spec_flPass_1B : Code := (findLoop 1 c_spec_flPass).getD .skip
theorem f_spec_flPass_1h (k : Nat) (x : f_spec_flPass_1i.D) : f_spec_flPass_1D.lp (k + 1) x = loopK x_spec_flPass f_spec_flPass_1D 1 f_spec_flPass_1B k x := by kernel_rfl
theorem f_spec_flPass_1l (k : Nat) : LOK Try.prog x_spec_flPass k f_spec_flPass_1B := LOK.by [] (by kernel_rfl) AllOK.nil
theorem f_spec_flPass_1z (x : f_spec_flPass_1i.D) : f_spec_flPass_1D.lp 0 x = none := by kernel_rfl
theorem f_spec_flPass_1ok (k : Nat) : EOK Try.prog x_spec_flPass k f_spec_flPass_1D.E (.block 1 (.loop f_spec_flPass_1B)) := loop_ok T_ok g_spec_flPass f_spec_flPass_1z f_spec_flPass_1h f_spec_flPass_1l k
theorem h_spec_flPass (k : Nat) (x : Tup d_spec_flPass.ps) : d_spec_flPass.f (k + 1) x = fnK d_spec_flPass x_spec_flPass c_spec_flPass k x := by kernel_rfl
theorem z_spec_flPass (x : Tup d_spec_flPass.ps) : d_spec_flPass.f 0 x = none := by kernel_rfl
theorem l_spec_flPass (k : Nat) : LOK Try.prog x_spec_flPass k c_spec_flPass := LOK.by [(f_spec_flPass_1D.E, .block 1 (.loop f_spec_flPass_1B))] (by kernel_rfl) (AllOK.cons (f_spec_flPass_1ok k) AllOK.nil)
theorem s_spec_flPass (k : Nat) : SoundAt Try.prog k 212 d_spec_flPass.E := @fn_all Try.prog d_spec_flPass x_spec_flPass 212 Try.f212 c_spec_flPass (by kernel_rfl) (by kernel_rfl) (by kernel_rfl) Try.func212 (by kernel_rfl) (by kernel_rfl) (by kernel_rfl) T_ok g_spec_flPass l_spec_flPass z_spec_flPass h_spec_flPass k
/-! function 216 -/
noncomputable def r_spec_paAll : List PK := [PK.mk (Ty.slice (79 : Nat) (Ty.pair (Ty.int IntKind.i64) (Ty.int IntKind.i64))) false none false none]
noncomputable def q_spec_paAll : List PK := []
noncomputable def to_spec_paAll (r : List (Int × Int)) : Tup r_spec_paAll × OutD := ((r, ()), none)
noncomputable def of_spec_paAll : Tup r_spec_paAll × OutD → Option (List (Int × Int))
  | (a, none) => some (a.1)
  | _ => none
theorem to_of_spec_paAll : ∀ b r, of_spec_paAll b = some r → to_spec_paAll r = b := by
  rintro ⟨a, o⟩ r h
  cases o with
  | none => injection h with h; subst h; rfl
  | some _ => cases h
noncomputable def f_spec_paAll_0 : Nat → List (Int × Int) → Int → Option (List (Int × Int))
  | 0, _, _ => none
  | k + 1, o1, v2 =>
    if decide (v2 ≤ (7 : Int)) = true then if List.length o1 + List.length [(v2, (0 : Int))] ≤ (140737488355328 / 16 : Nat) then Option.bind (f_spec_paTurning k (v2, (1 : Int))) fun z0 => if z0 = true then if List.length (o1 ++ [(v2, (0 : Int))]) + List.length [(v2, (1 : Int))] ≤ (140737488355328 / 16 : Nat) then f_spec_paAll_0 k (o1 ++ [(v2, (0 : Int))] ++ [(v2, (1 : Int))]) (wrap64 (v2 + (1 : Int))) else none else f_spec_paAll_0 k (o1 ++ [(v2, (0 : Int))]) (wrap64 (v2 + (1 : Int))) else none else some o1
noncomputable def f_spec_paAll_0i : Spec := Spec.mk [OSh.ro, OSh.row true (79 : Nat) (Ty.pair (Ty.int IntKind.i64) (Ty.int IntKind.i64))] [((1 : Nat), TSh.at (Sh.sl (1 : Nat))), ((2 : Nat), TSh.at (Sh.int IntKind.i64))]
noncomputable def f_spec_paAll_0o : Spec := Spec.mk [OSh.ro, OSh.row true (79 : Nat) (Ty.pair (Ty.int IntKind.i64) (Ty.int IntKind.i64))] [((1 : Nat), TSh.at (Sh.sl (1 : Nat)))]
noncomputable def f_spec_paAll_0D : LoopDef (Tup r_spec_paAll × OutD) := .plain f_spec_paAll_0i f_spec_paAll_0o (List (Int × Int)) (fun k x => f_spec_paAll_0 k x.1.2.1 x.2.2.1) (fun z => (((), z, ()), ((), ()))) (fun y => (y.1.2.1)) (fun _ => rfl)
noncomputable def f_spec_paAll : Nat → Option (List (Int × Int))
  | 0 => none
  | k + 1 =>
    Option.bind (f_spec_paAll_0 k [] (0 : Int)) fun z1 => some z1
noncomputable def d_spec_paAll : FnDef := .of q_spec_paAll r_spec_paAll (List (Int × Int)) (fun k x => f_spec_paAll k) to_spec_paAll of_spec_paAll to_of_spec_paAll
noncomputable def c_spec_paAll : Code := Try.f216.body.getD .skip
noncomputable def x_spec_paAll : Ctx (Tup r_spec_paAll × OutD) := { T := T, G := [(207, d_spec_paTurning.E)], mvs := [], no := 0, n := 22, res := resOf T q_spec_paAll r_spec_paAll Try.f216.results.toList, loops := [(0, f_spec_paAll_0D.E)], regs := [], conds := [] }
theorem g_spec_paAll (k : Nat) : EnvOK Try.prog k x_spec_paAll.G := (EnvOK.cons (s_spec_paTurning k) (EnvOK.nil mixed))
noncomputable def f_spec_paAll_0B : Code := (findLoop 0 c_spec_paAll).getD .skip
theorem f_spec_paAll_0h (k : Nat) (x : f_spec_paAll_0i.D) : f_spec_paAll_0D.lp (k + 1) x = loopK x_spec_paAll f_spec_paAll_0D 0 f_spec_paAll_0B k x := by kernel_rfl
theorem f_spec_paAll_0l (k : Nat) : LOK Try.prog x_spec_paAll k f_spec_paAll_0B := LOK.by [] (by kernel_rfl) AllOK.nil
theorem f_spec_paAll_0z (x : f_spec_paAll_0i.D) : f_spec_paAll_0D.lp 0 x = none := by kernel_rfl
theorem f_spec_paAll_0ok (k : Nat) : EOK Try.prog x_spec_paAll k f_spec_paAll_0D.E (.block 0 (.loop f_spec_paAll_0B)) := loop_ok T_ok g_spec_paAll f_spec_paAll_0z f_spec_paAll_0h f_spec_paAll_0l k
theorem h_spec_paAll (k : Nat) (x : Tup d_spec_paAll.ps) : d_spec_paAll.f (k + 1) x = fnK d_spec_paAll x_spec_paAll c_spec_paAll k x := by kernel_rfl
theorem z_spec_paAll (x : Tup d_spec_paAll.ps) : d_spec_paAll.f 0 x = none := by kernel_rfl
theorem l_spec_paAll (k : Nat) : LOK Try.prog x_spec_paAll k c_spec_paAll := LOK.by [(f_spec_paAll_0D.E, .block 0 (.loop f_spec_paAll_0B))] (by kernel_rfl) (AllOK.cons (f_spec_paAll_0ok k) AllOK.nil)
theorem s_spec_paAll (k : Nat) : SoundAt Try.prog k 216 d_spec_paAll.E := @fn_all Try.prog d_spec_paAll x_spec_paAll 216 Try.f216 c_spec_paAll (by kernel_rfl) (by kernel_rfl) (by kernel_rfl) Try.func216 (by kernel_rfl) (by kernel_rfl) (by kernel_rfl) T_ok g_spec_paAll l_spec_paAll z_spec_paAll h_spec_paAll k
/-! function 217 -/
noncomputable def r_spec_paMirror : List PK := [PK.mk (Ty.pair (Ty.int IntKind.i64) (Ty.int IntKind.i64)) true none false none]
noncomputable def q_spec_paMirror : List PK := [PK.mk (Ty.pair (Ty.int IntKind.i64) (Ty.int IntKind.i64)) true none false none]
noncomputable def to_spec_paMirror (r : Int × Int) : Tup r_spec_paMirror × OutD := ((r, ()), none)
noncomputable def of_spec_paMirror : Tup r_spec_paMirror × OutD → Option (Int × Int)
  | (a, none) => some (a.1)
  | _ => none
theorem to_of_spec_paMirror : ∀ b r, of_spec_paMirror b = some r → to_spec_paMirror r = b := by
  rintro ⟨a, o⟩ r h
  cases o with
  | none => injection h with h; subst h; rfl
  | some _ => cases h
noncomputable def f_spec_paMirror : Nat → Int × Int → Option (Int × Int)
  | 0, _ => none
  | k + 1, p0 =>
    if decide (Prod.fst p0 = (1 : Int)) = true then some ((2 : Int), (0 : Int)) else if decide (Prod.fst p0 = (2 : Int)) = true then some ((1 : Int), (0 : Int)) else if decide (Prod.fst p0 = (3 : Int)) = true then Option.bind (f_spec_paTurn k (Prod.fst p0, Prod.snd p0)) fun z0 => some (Prod.fst z0, Prod.snd z0) else if decide (Prod.fst p0 = (6 : Int)) = true then Option.bind (f_spec_paTurn k (Prod.fst p0, Prod.snd p0)) fun z1 => some (Prod.fst z1, Prod.snd z1) else some (Prod.fst p0, Prod.snd p0)
noncomputable def d_spec_paMirror : FnDef := .of q_spec_paMirror r_spec_paMirror (Int × Int) (fun k x => f_spec_paMirror k x.1) to_spec_paMirror of_spec_paMirror to_of_spec_paMirror
noncomputable def c_spec_paMirror : Code := Try.f217.body.getD .skip
noncomputable def x_spec_paMirror : Ctx (Tup r_spec_paMirror × OutD) := { T := T, G := [(218, d_spec_paTurn.E)], mvs := [], no := 0, n := 17, res := resOf T q_spec_paMirror r_spec_paMirror Try.f217.results.toList, loops := [], regs := [], conds := [] }
theorem g_spec_paMirror (k : Nat) : EnvOK Try.prog k x_spec_paMirror.G := (EnvOK.cons (s_spec_paTurn k) (EnvOK.nil mixed))
theorem h_spec_paMirror (k : Nat) (x : Tup d_spec_paMirror.ps) : d_spec_paMirror.f (k + 1) x = fnK d_spec_paMirror x_spec_paMirror c_spec_paMirror k x := by kernel_rfl
theorem z_spec_paMirror (x : Tup d_spec_paMirror.ps) : d_spec_paMirror.f 0 x = none := by kernel_rfl
theorem l_spec_paMirror (k : Nat) : LOK Try.prog x_spec_paMirror k c_spec_paMirror := LOK.by [] (by kernel_rfl) AllOK.nil
theorem s_spec_paMirror (k : Nat) : SoundAt Try.prog k 217 d_spec_paMirror.E := @fn_all Try.prog d_spec_paMirror x_spec_paMirror 217 Try.f217 c_spec_paMirror (by kernel_rfl) (by kernel_rfl) (by kernel_rfl) Try.func217 (by kernel_rfl) (by kernel_rfl) (by kernel_rfl) T_ok g_spec_paMirror l_spec_paMirror z_spec_paMirror h_spec_paMirror k
end
end Go.Proofs.Ytgjmhbjdhihgaaa.Vs
