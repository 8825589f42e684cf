/- Functions of the program by plain functions, each with its contract. -/
import Derived.Test.YtcmndffpmjinlaaVsT
import Derived.Test.YtcmndffpmjinlaaVg0
import Derived.Test.YtcmndffpmjinlaaVg1
set_option maxRecDepth 100000
set_option linter.unusedVariables false
set_option linter.unusedSimpArgs false
namespace Go.Proofs.Ytcmndffpmjinlaa.Vs
open Go.RowKit
noncomputable section
/-! function 15 -/
noncomputable def r_spec_Tolerated : List PK := [{ t := Ty.int IntKind.i64 }, { t := Ty.bool }]
noncomputable def q_spec_Tolerated : List PK := [{ t := Ty.int IntKind.i64 }]
noncomputable def to_spec_Tolerated (r : Int × Bool) : Tup r_spec_Tolerated × OutD := ((r.1, r.2, ()), none)
noncomputable def of_spec_Tolerated : Tup r_spec_Tolerated × OutD → Option (Int × Bool)
  | (a, none) => some (a.1, a.2.1)
  | _ => none
theorem to_of_spec_Tolerated : ∀ b r, of_spec_Tolerated b = some r → to_spec_Tolerated r = b := by
  rintro ⟨a, o⟩ r h
  cases o with
  | none => injection h with h; subst h; rfl
  | some _ => cases h
noncomputable def f_spec_Tolerated : Nat → Int → Option (Int × Bool)
  | 0, _ => none
  | k + 1, p0 =>
    Option.bind (f_spec_voCopies k p0) fun z0 => if (!z0) = true then some ((0 : Int), false) else some (wrap64 (Int.tdiv (wrap64 (p0 - (1 : Int))) (2 : Int)), true)
noncomputable def d_spec_Tolerated : FnDef := .of q_spec_Tolerated r_spec_Tolerated (Int × Bool) (fun k x => f_spec_Tolerated k x.1) to_spec_Tolerated of_spec_Tolerated to_of_spec_Tolerated
noncomputable def c_spec_Tolerated : Code := Try.f15.body.getD .skip
noncomputable def x_spec_Tolerated : Ctx (Tup r_spec_Tolerated × OutD) := { T := T, G := [(53, d_spec_voCopies.E)], mvs := [], no := 0, n := 10, res := resOf T q_spec_Tolerated r_spec_Tolerated Try.f15.results.toList, loops := [], regs := [], conds := [] }
theorem g_spec_Tolerated (k : Nat) : EnvOK Try.prog k x_spec_Tolerated.G := (EnvOK.cons (s_spec_voCopies k) (EnvOK.nil mixed))
theorem h_spec_Tolerated (k : Nat) (x : Tup d_spec_Tolerated.ps) : d_spec_Tolerated.f (k + 1) x = fnK d_spec_Tolerated x_spec_Tolerated c_spec_Tolerated k x := by kernel_rfl
theorem z_spec_Tolerated (x : Tup d_spec_Tolerated.ps) : d_spec_Tolerated.f 0 x = none := by kernel_rfl
theorem l_spec_Tolerated (k : Nat) : LOK Try.prog x_spec_Tolerated k c_spec_Tolerated := LOK.by [] (by kernel_rfl) AllOK.nil
theorem s_spec_Tolerated (k : Nat) : SoundAt Try.prog k 15 d_spec_Tolerated.E := @fn_all Try.prog d_spec_Tolerated x_spec_Tolerated 15 Try.f15 c_spec_Tolerated (by kernel_rfl) (by kernel_rfl) (by kernel_rfl) Try.func15 (by kernel_rfl) (by kernel_rfl) (by kernel_rfl) T_ok g_spec_Tolerated l_spec_Tolerated z_spec_Tolerated h_spec_Tolerated k
/-! function 19 -/
noncomputable def r_impl_FlipsToWin : List PK := [{ t := Ty.int IntKind.i64 }, { t := Ty.bool }]
noncomputable def q_impl_FlipsToWin : List PK := [{ t := Ty.slice (3 : Nat) (Ty.int IntKind.i64) }, { t := Ty.int IntKind.i64 }]
noncomputable def to_impl_FlipsToWin (r : Int × Bool) : Tup r_impl_FlipsToWin × OutD := ((r.1, r.2, ()), none)
noncomputable def of_impl_FlipsToWin : Tup r_impl_FlipsToWin × OutD → Option (Int × Bool)
  | (a, none) => some (a.1, a.2.1)
  | _ => none
theorem to_of_impl_FlipsToWin : ∀ b r, of_impl_FlipsToWin b = some r → to_impl_FlipsToWin r = b := by
  rintro ⟨a, o⟩ r h
  cases o with
  | none => injection h with h; subst h; rfl
  | some _ => cases h
noncomputable def f_impl_FlipsToWin_0 : Nat → List Int → Int → Int → List Int → Int → Int → Option (List Int × Int)
  | 0, _, _, _, _, _, _ => none
  | k + 1, v0, v1, v6, v20, v21, v22 =>
    if decide (v22 < v21) = true then if (0 : Int) ≤ v22 then if v22 < (↑(List.length v20) : Int) then if decide (List.getD v20 (Int.toNat v22) (0 : Int) = v1) = true then f_impl_FlipsToWin_0 k v0 v1 (wrap64 (v6 + (1 : Int))) v20 v21 (wrap64 (v22 + (1 : Int))) else f_impl_FlipsToWin_0 k v0 v1 v6 v20 v21 (wrap64 (v22 + (1 : Int))) else none else none else some (v0, v6)
noncomputable def f_impl_FlipsToWin_0i : Spec := { objs := [OSh.ro], tmps := [((0 : Nat), TSh.at (Sh.snap (0 : Nat) (Ty.int IntKind.i64))), ((1 : Nat), TSh.at (Sh.int IntKind.i64)), ((6 : Nat), TSh.at (Sh.int IntKind.i64)), ((20 : Nat), TSh.at (Sh.snap (0 : Nat) (Ty.int IntKind.i64))), ((21 : Nat), TSh.at (Sh.int IntKind.i64)), ((22 : Nat), TSh.at (Sh.int IntKind.i64))] }
noncomputable def f_impl_FlipsToWin_0o : Spec := { objs := [OSh.ro], tmps := [((0 : Nat), TSh.at (Sh.snap (0 : Nat) (Ty.int IntKind.i64))), ((6 : Nat), TSh.at (Sh.int IntKind.i64))] }
noncomputable def f_impl_FlipsToWin_0D : LoopDef (Tup r_impl_FlipsToWin × OutD) := .plain f_impl_FlipsToWin_0i f_impl_FlipsToWin_0o (List Int × Int) (fun k x => f_impl_FlipsToWin_0 k x.2.1 x.2.2.1 x.2.2.2.1 x.2.2.2.2.1 x.2.2.2.2.2.1 x.2.2.2.2.2.2.1) (fun z => (((), ()), (z.1, z.2, ()))) (fun y => (y.2.1, y.2.2.1)) (fun _ => rfl)
noncomputable def f_impl_FlipsToWin : Nat → List Int → Int → Option (Int × Bool)
  | 0, _, _ => none
  | k + 1, p0, p1 =>
    Option.bind (f_impl_areVotes k p0) fun z0 => if (!z0) = true then some ((0 : Int), false) else if decide (p1 < (0 : Int)) = true then some ((0 : Int), false) else if decide (p1 > (9 : Int)) = true then some ((0 : Int), false) else Option.bind (f_impl_FlipsToWin_0 k p0 p1 (0 : Int) p0 (↑(List.length p0) : Int) (0 : Int)) fun z1 => none
noncomputable def d_impl_FlipsToWin : FnDef := .of q_impl_FlipsToWin r_impl_FlipsToWin (Int × Bool) (fun k x => f_impl_FlipsToWin k x.1 x.2.1) to_impl_FlipsToWin of_impl_FlipsToWin to_of_impl_FlipsToWin
noncomputable def c_impl_FlipsToWin : Code := Try.f19.body.getD .skip
noncomputable def x_impl_FlipsToWin : Ctx (Tup r_impl_FlipsToWin × OutD) := { T := T, G := [(57, d_impl_areVotes.E)], mvs := [], no := 0, n := 39, res := resOf T q_impl_FlipsToWin r_impl_FlipsToWin Try.f19.results.toList, loops := [(0, f_impl_FlipsToWin_0D.E)], regs := [], conds := [] }
theorem g_impl_FlipsToWin (k : Nat) : EnvOK Try.prog k x_impl_FlipsToWin.G := (EnvOK.cons (s_impl_areVotes k) (EnvOK.nil mixed))
noncomputable def f_impl_FlipsToWin_0B : Code := (findLoop 0 c_impl_FlipsToWin).getD .skip
theorem f_impl_FlipsToWin_0h (k : Nat) (x : f_impl_FlipsToWin_0i.D) : f_impl_FlipsToWin_0D.lp (k + 1) x = loopK x_impl_FlipsToWin f_impl_FlipsToWin_0D 0 f_impl_FlipsToWin_0B k x := by kernel_rfl
theorem f_impl_FlipsToWin_0l (k : Nat) : LOK Try.prog x_impl_FlipsToWin k f_impl_FlipsToWin_0B := LOK.by [] (by kernel_rfl) AllOK.nil
theorem f_impl_FlipsToWin_0z (x : f_impl_FlipsToWin_0i.D) : f_impl_FlipsToWin_0D.lp 0 x = none := by kernel_rfl
theorem f_impl_FlipsToWin_0ok (k : Nat) : EOK Try.prog x_impl_FlipsToWin k f_impl_FlipsToWin_0D.E (.block 0 (.loop f_impl_FlipsToWin_0B)) := loop_ok T_ok g_impl_FlipsToWin f_impl_FlipsToWin_0z f_impl_FlipsToWin_0h f_impl_FlipsToWin_0l k
theorem h_impl_FlipsToWin (k : Nat) (x : Tup d_impl_FlipsToWin.ps) : d_impl_FlipsToWin.f (k + 1) x = fnK d_impl_FlipsToWin x_impl_FlipsToWin c_impl_FlipsToWin k x := by kernel_rfl
theorem z_impl_FlipsToWin (x : Tup d_impl_FlipsToWin.ps) : d_impl_FlipsToWin.f 0 x = none := by kernel_rfl
theorem l_impl_FlipsToWin (k : Nat) : LOK Try.prog x_impl_FlipsToWin k c_impl_FlipsToWin := LOK.by [(f_impl_FlipsToWin_0D.E, .block 0 (.loop f_impl_FlipsToWin_0B))] (by kernel_rfl) (AllOK.cons (f_impl_FlipsToWin_0ok k) AllOK.nil)
theorem s_impl_FlipsToWin (k : Nat) : SoundAt Try.prog k 19 d_impl_FlipsToWin.E := @fn_all Try.prog d_impl_FlipsToWin x_impl_FlipsToWin 19 Try.f19 c_impl_FlipsToWin (by kernel_rfl) (by kernel_rfl) (by kernel_rfl) Try.func19 (by kernel_rfl) (by kernel_rfl) (by kernel_rfl) T_ok g_impl_FlipsToWin l_impl_FlipsToWin z_impl_FlipsToWin h_impl_FlipsToWin k
/-! function 33 -/
noncomputable def r_laws_toShop : List PK := [{ t := Ty.pair (Ty.slice (3 : Nat) (Ty.int IntKind.i64)) (Ty.slice (81 : Nat) (Ty.pair (Ty.int IntKind.i64) (Ty.pair (Ty.int IntKind.i64) (Ty.pair (Ty.int IntKind.i64) (Ty.int IntKind.i64))))), agg := true }]
noncomputable def q_laws_toShop : List PK := [{ t := Ty.pair (Ty.slice (3 : Nat) (Ty.int IntKind.i64)) (Ty.slice (95 : Nat) (Ty.pair (Ty.int IntKind.i64) (Ty.pair (Ty.int IntKind.i64) (Ty.pair (Ty.int IntKind.i64) (Ty.int IntKind.i64))))), agg := true }]
noncomputable def to_laws_toShop (r : List Int × List (Int × Int × Int × Int)) : Tup r_laws_toShop × OutD := ((r, ()), none)
noncomputable def of_laws_toShop : Tup r_laws_toShop × OutD → Option (List Int × List (Int × Int × Int × Int))
  | (a, none) => some (a.1)
  | _ => none
theorem to_of_laws_toShop : ∀ b r, of_laws_toShop b = some r → to_laws_toShop r = b := by
  rintro ⟨a, o⟩ r h
  cases o with
  | none => injection h with h; subst h; rfl
  | some _ => cases h
noncomputable def f_laws_toShop : Nat → List Int × List (Int × Int × Int × Int) → Option (List Int × List (Int × Int × Int × Int))
  | 0, _ => none
  | k + 1, p0 =>
    Option.bind (f_laws_toIntS k (Prod.fst p0)) fun z0 => Option.bind (f_laws_toLoanS k (Prod.snd p0)) fun z1 => some (z0, z1)
noncomputable def d_laws_toShop : FnDef := .of q_laws_toShop r_laws_toShop (List Int × List (Int × Int × Int × Int)) (fun k x => f_laws_toShop k x.1) to_laws_toShop of_laws_toShop to_of_laws_toShop
noncomputable def c_laws_toShop : Code := Try.f33.body.getD .skip
noncomputable def x_laws_toShop : Ctx (Tup r_laws_toShop × OutD) := { T := T, G := [(18, d_laws_toIntS.E), (69, d_laws_toLoanS.E)], mvs := [], no := 0, n := 13, res := resOf T q_laws_toShop r_laws_toShop Try.f33.results.toList, loops := [], regs := [], conds := [] }
theorem g_laws_toShop (k : Nat) : EnvOK Try.prog k x_laws_toShop.G := (EnvOK.cons (s_laws_toIntS k) (EnvOK.cons (s_laws_toLoanS k) (EnvOK.nil mixed)))
theorem h_laws_toShop (k : Nat) (x : Tup d_laws_toShop.ps) : d_laws_toShop.f (k + 1) x = fnK d_laws_toShop x_laws_toShop c_laws_toShop k x := by kernel_rfl
theorem z_laws_toShop (x : Tup d_laws_toShop.ps) : d_laws_toShop.f 0 x = none := by kernel_rfl
theorem l_laws_toShop (k : Nat) : LOK Try.prog x_laws_toShop k c_laws_toShop := LOK.by [] (by kernel_rfl) AllOK.nil
theorem s_laws_toShop (k : Nat) : SoundAt Try.prog k 33 d_laws_toShop.E := @fn_all Try.prog d_laws_toShop x_laws_toShop 33 Try.f33 c_laws_toShop (by kernel_rfl) (by kernel_rfl) (by kernel_rfl) Try.func33 (by kernel_rfl) (by kernel_rfl) (by kernel_rfl) T_ok g_laws_toShop l_laws_toShop z_laws_toShop h_laws_toShop k
/-! function 34 -/
noncomputable def r_impl_IsShop : List PK := [{ t := Ty.bool }]
noncomputable def q_impl_IsShop : List PK := [{ t := Ty.pair (Ty.slice (3 : Nat) (Ty.int IntKind.i64)) (Ty.slice (81 : Nat) (Ty.pair (Ty.int IntKind.i64) (Ty.pair (Ty.int IntKind.i64) (Ty.pair (Ty.int IntKind.i64) (Ty.int IntKind.i64))))), agg := true }]
noncomputable def to_impl_IsShop (r : Bool) : Tup r_impl_IsShop × OutD := ((r, ()), none)
noncomputable def of_impl_IsShop : Tup r_impl_IsShop × OutD → Option (Bool)
  | (a, none) => some (a.1)
  | _ => none
theorem to_of_impl_IsShop : ∀ b r, of_impl_IsShop b = some r → to_impl_IsShop r = b := by
  rintro ⟨a, o⟩ r h
  cases o with
  | none => injection h with h; subst h; rfl
  | some _ => cases h
noncomputable def f_impl_IsShop_0 : Nat → List Int → List (Int × Int × Int × Int) → List Int → Int → Int → Option (LR (List Int × List (Int × Int × Int × Int)) Bool)
  | 0, _, _, _, _, _ => none
  | k + 1, b1_0, b1_1, v25, v26, v27 =>
    if decide (v27 < v26) = true then if (0 : Int) ≤ v27 then if v27 < (↑(List.length v25) : Int) then if decide (List.getD v25 (Int.toNat v27) (0 : Int) < (0 : Int)) = true then some (LR.ret false) else if decide (List.getD v25 (Int.toNat v27) (0 : Int) > (999 : Int)) = true then some (LR.ret false) else f_impl_IsShop_0 k b1_0 b1_1 v25 v26 (wrap64 (v27 + (1 : Int))) else none else none else some (LR.go (b1_0, b1_1))
noncomputable def f_impl_IsShop_0i : Spec := { objs := [OSh.ro, OSh.box (46 : Nat) [Sh.snap (0 : Nat) (Ty.int IntKind.i64), Sh.snap (0 : Nat) (Ty.pair (Ty.int IntKind.i64) (Ty.pair (Ty.int IntKind.i64) (Ty.pair (Ty.int IntKind.i64) (Ty.int IntKind.i64))))]], tmps := [((1 : Nat), TSh.at (Sh.ptr (1 : Nat) (0 : Nat))), ((25 : Nat), TSh.at (Sh.snap (0 : Nat) (Ty.int IntKind.i64))), ((26 : Nat), TSh.at (Sh.int IntKind.i64)), ((27 : Nat), TSh.at (Sh.int IntKind.i64))] }
noncomputable def f_impl_IsShop_0o : Spec := { objs := [OSh.ro, OSh.box (46 : Nat) [Sh.snap (0 : Nat) (Ty.int IntKind.i64), Sh.snap (0 : Nat) (Ty.pair (Ty.int IntKind.i64) (Ty.pair (Ty.int IntKind.i64) (Ty.pair (Ty.int IntKind.i64) (Ty.int IntKind.i64))))]], tmps := [((1 : Nat), TSh.at (Sh.ptr (1 : Nat) (0 : Nat)))] }
noncomputable def f_impl_IsShop_0D : LoopDef (Tup r_impl_IsShop × OutD) := .rets f_impl_IsShop_0i f_impl_IsShop_0o (List Int × List (Int × Int × Int × Int)) (Bool) (fun k x => f_impl_IsShop_0 k x.1.2.1.1 x.1.2.1.2.1 x.2.2.1 x.2.2.2.1 x.2.2.2.2.1) (fun z => (((), (z.1, z.2, ()), ()), ((), ()))) (fun y => (y.1.2.1.1, y.1.2.1.2.1)) (fun _ => rfl) to_impl_IsShop of_impl_IsShop to_of_impl_IsShop
noncomputable def f_impl_IsShop_2 : Nat → List Int → List (Int × Int × Int × Int) → List (Int × Int × Int × Int) → Int → Int → Option (LR Unit Bool)
  | 0, _, _, _, _, _ => none
  | k + 1, b1_0, b1_1, v39, v40, v41 =>
    if decide (v41 < v40) = true then if (0 : Int) ≤ v41 then if v41 < (↑(List.length v39) : Int) then Option.bind (f_impl_isLoan k (Prod.fst (List.getD v39 (Int.toNat v41) ((0 : Int), (0 : Int), (0 : Int), (0 : Int))), Prod.fst (Prod.snd (List.getD v39 (Int.toNat v41) ((0 : Int), (0 : Int), (0 : Int), (0 : Int)))), Prod.fst (Prod.snd (Prod.snd (List.getD v39 (Int.toNat v41) ((0 : Int), (0 : Int), (0 : Int), (0 : Int))))), Prod.snd (Prod.snd (Prod.snd (List.getD v39 (Int.toNat v41) ((0 : Int), (0 : Int), (0 : Int), (0 : Int))))))) fun z1 => if (!z1) = true then some (LR.ret false) else if (0 : Int) ≤ v41 then if v41 ≤ (↑(List.length b1_1) : Int) then Option.bind (f_impl_sameLoan k (List.take (Int.toNat v41 - Int.toNat (0 : Int)) (List.drop (Int.toNat (0 : Int)) b1_1)) (Prod.fst (List.getD v39 (Int.toNat v41) ((0 : Int), (0 : Int), (0 : Int), (0 : Int))), Prod.fst (Prod.snd (List.getD v39 (Int.toNat v41) ((0 : Int), (0 : Int), (0 : Int), (0 : Int)))), Prod.fst (Prod.snd (Prod.snd (List.getD v39 (Int.toNat v41) ((0 : Int), (0 : Int), (0 : Int), (0 : Int))))), Prod.snd (Prod.snd (Prod.snd (List.getD v39 (Int.toNat v41) ((0 : Int), (0 : Int), (0 : Int), (0 : Int))))))) fun z2 => if decide (z2 ≥ (0 : Int)) = true then some (LR.ret false) else f_impl_IsShop_2 k b1_0 b1_1 v39 v40 (wrap64 (v41 + (1 : Int))) else none else none else none else none else some (LR.go ())
noncomputable def f_impl_IsShop_2i : Spec := { objs := [OSh.ro, OSh.box (46 : Nat) [Sh.snap (0 : Nat) (Ty.int IntKind.i64), Sh.snap (0 : Nat) (Ty.pair (Ty.int IntKind.i64) (Ty.pair (Ty.int IntKind.i64) (Ty.pair (Ty.int IntKind.i64) (Ty.int IntKind.i64))))]], tmps := [((1 : Nat), TSh.at (Sh.ptr (1 : Nat) (0 : Nat))), ((39 : Nat), TSh.at (Sh.snap (0 : Nat) (Ty.pair (Ty.int IntKind.i64) (Ty.pair (Ty.int IntKind.i64) (Ty.pair (Ty.int IntKind.i64) (Ty.int IntKind.i64)))))), ((40 : Nat), TSh.at (Sh.int IntKind.i64)), ((41 : Nat), TSh.at (Sh.int IntKind.i64))] }
noncomputable def f_impl_IsShop_2o : Spec := { objs := [OSh.ro], tmps := [] }
noncomputable def f_impl_IsShop_2D : LoopDef (Tup r_impl_IsShop × OutD) := .rets f_impl_IsShop_2i f_impl_IsShop_2o (Unit) (Bool) (fun k x => f_impl_IsShop_2 k x.1.2.1.1 x.1.2.1.2.1 x.2.2.1 x.2.2.2.1 x.2.2.2.2.1) (fun z => (((), ()), (()))) (fun y => ()) (fun _ => rfl) to_impl_IsShop of_impl_IsShop to_of_impl_IsShop
noncomputable def f_impl_IsShop : Nat → List Int × List (Int × Int × Int × Int) → Option Bool
  | 0, _ => none
  | k + 1, p0 =>
    if decide ((↑(List.length (Prod.fst p0)) : Int) ≠ (8 : Int)) = true then some false else if (0 : Int) < (↑(List.length (Prod.fst p0)) : Int) then if decide (List.getD (Prod.fst p0) (Int.toNat (0 : Int)) (0 : Int) ≠ (0 : Int)) = true then some false else if decide ((↑(List.length (Prod.snd p0)) : Int) > (20 : Int)) = true then some false else Option.bind (f_impl_IsShop_0 k (Prod.fst p0) (Prod.snd p0) (Prod.fst p0) (↑(List.length (Prod.fst p0)) : Int) (0 : Int)) fun z0 => LR.on z0 (fun y0 => Option.bind (f_impl_IsShop_2 k (Prod.fst y0) (Prod.snd y0) (Prod.snd y0) (↑(List.length (Prod.snd y0)) : Int) (0 : Int)) fun z3 => LR.on z3 (fun y3 => some true) fun r3 => some r3) fun r0 => some r0 else none
noncomputable def d_impl_IsShop : FnDef := .of q_impl_IsShop r_impl_IsShop (Bool) (fun k x => f_impl_IsShop k x.1) to_impl_IsShop of_impl_IsShop to_of_impl_IsShop
noncomputable def c_impl_IsShop : Code := Try.f34.body.getD .skip
noncomputable def x_impl_IsShop : Ctx (Tup r_impl_IsShop × OutD) := { T := T, G := [(70, d_impl_isLoan.E), (71, d_impl_sameLoan.E)], mvs := [], no := 0, n := 59, res := resOf T q_impl_IsShop r_impl_IsShop Try.f34.results.toList, loops := [(0, f_impl_IsShop_0D.E), (2, f_impl_IsShop_2D.E)], regs := [], conds := [] }
theorem g_impl_IsShop (k : Nat) : EnvOK Try.prog k x_impl_IsShop.G := (EnvOK.cons (s_impl_isLoan k) (EnvOK.cons (s_impl_sameLoan k) (EnvOK.nil mixed)))
noncomputable def f_impl_IsShop_0B : Code := (findLoop 0 c_impl_IsShop).getD .skip
theorem f_impl_IsShop_0h (k : Nat) (x : f_impl_IsShop_0i.D) : f_impl_IsShop_0D.lp (k + 1) x = loopK x_impl_IsShop f_impl_IsShop_0D 0 f_impl_IsShop_0B k x := by kernel_rfl
theorem f_impl_IsShop_0l (k : Nat) : LOK Try.prog x_impl_IsShop k f_impl_IsShop_0B := LOK.by [] (by kernel_rfl) AllOK.nil
theorem f_impl_IsShop_0z (x : f_impl_IsShop_0i.D) : f_impl_IsShop_0D.lp 0 x = none := by kernel_rfl
theorem f_impl_IsShop_0ok (k : Nat) : EOK Try.prog x_impl_IsShop k f_impl_IsShop_0D.E (.block 0 (.loop f_impl_IsShop_0B)) := loop_ok T_ok g_impl_IsShop f_impl_IsShop_0z f_impl_IsShop_0h f_impl_IsShop_0l k
noncomputable def f_impl_IsShop_2B : Code := (findLoop 2 c_impl_IsShop).getD .skip
theorem f_impl_IsShop_2h (k : Nat) (x : f_impl_IsShop_2i.D) : f_impl_IsShop_2D.lp (k + 1) x = loopK x_impl_IsShop f_impl_IsShop_2D 2 f_impl_IsShop_2B k x := by kernel_rfl
theorem f_impl_IsShop_2l (k : Nat) : LOK Try.prog x_impl_IsShop k f_impl_IsShop_2B := LOK.by [] (by kernel_rfl) AllOK.nil
theorem f_impl_IsShop_2z (x : f_impl_IsShop_2i.D) : f_impl_IsShop_2D.lp 0 x = none := by kernel_rfl
theorem f_impl_IsShop_2ok (k : Nat) : EOK Try.prog x_impl_IsShop k f_impl_IsShop_2D.E (.block 2 (.loop f_impl_IsShop_2B)) := loop_ok T_ok g_impl_IsShop f_impl_IsShop_2z f_impl_IsShop_2h f_impl_IsShop_2l k
theorem h_impl_IsShop (k : Nat) (x : Tup d_impl_IsShop.ps) : d_impl_IsShop.f (k + 1) x = fnK d_impl_IsShop x_impl_IsShop c_impl_IsShop k x := by kernel_rfl
theorem z_impl_IsShop (x : Tup d_impl_IsShop.ps) : d_impl_IsShop.f 0 x = none := by kernel_rfl
theorem l_impl_IsShop (k : Nat) : LOK Try.prog x_impl_IsShop k c_impl_IsShop := LOK.by [(f_impl_IsShop_0D.E, .block 0 (.loop f_impl_IsShop_0B)), (f_impl_IsShop_2D.E, .block 2 (.loop f_impl_IsShop_2B))] (by kernel_rfl) (AllOK.cons (f_impl_IsShop_0ok k) (AllOK.cons (f_impl_IsShop_2ok k) AllOK.nil))
theorem s_impl_IsShop (k : Nat) : SoundAt Try.prog k 34 d_impl_IsShop.E := @fn_all Try.prog d_impl_IsShop x_impl_IsShop 34 Try.f34 c_impl_IsShop (by kernel_rfl) (by kernel_rfl) (by kernel_rfl) Try.func34 (by kernel_rfl) (by kernel_rfl) (by kernel_rfl) T_ok g_impl_IsShop l_impl_IsShop z_impl_IsShop h_impl_IsShop k
/-! function 35 -/
noncomputable def r_laws_eqShop : List PK := [{ t := Ty.bool }]
noncomputable def q_laws_eqShop : List PK := [{ t := Ty.pair (Ty.slice (3 : Nat) (Ty.int IntKind.i64)) (Ty.slice (81 : Nat) (Ty.pair (Ty.int IntKind.i64) (Ty.pair (Ty.int IntKind.i64) (Ty.pair (Ty.int IntKind.i64) (Ty.int IntKind.i64))))), agg := true }, { t := Ty.pair (Ty.slice (3 : Nat) (Ty.int IntKind.i64)) (Ty.slice (81 : Nat) (Ty.pair (Ty.int IntKind.i64) (Ty.pair (Ty.int IntKind.i64) (Ty.pair (Ty.int IntKind.i64) (Ty.int IntKind.i64))))), agg := true }]
noncomputable def to_laws_eqShop (r : Bool) : Tup r_laws_eqShop × OutD := ((r, ()), none)
noncomputable def of_laws_eqShop : Tup r_laws_eqShop × OutD → Option (Bool)
  | (a, none) => some (a.1)
  | _ => none
theorem to_of_laws_eqShop : ∀ b r, of_laws_eqShop b = some r → to_laws_eqShop r = b := by
  rintro ⟨a, o⟩ r h
  cases o with
  | none => injection h with h; subst h; rfl
  | some _ => cases h
noncomputable def f_laws_eqShop : Nat → List Int × List (Int × Int × Int × Int) → List Int × List (Int × Int × Int × Int) → Option Bool
  | 0, _, _ => none
  | k + 1, p0, p1 =>
    Option.bind (f_laws_eqIntS k (Prod.fst p0) (Prod.fst p1)) fun z0 => if (!z0) = true then some false else Option.bind (f_laws_eqLoanS k (Prod.snd p0) (Prod.snd p1)) fun z1 => if (!z1) = true then some false else some true
noncomputable def d_laws_eqShop : FnDef := .of q_laws_eqShop r_laws_eqShop (Bool) (fun k x => f_laws_eqShop k x.1 x.2.1) to_laws_eqShop of_laws_eqShop to_of_laws_eqShop
noncomputable def c_laws_eqShop : Code := Try.f35.body.getD .skip
noncomputable def x_laws_eqShop : Ctx (Tup r_laws_eqShop × OutD) := { T := T, G := [(20, d_laws_eqIntS.E), (72, d_laws_eqLoanS.E)], mvs := [], no := 0, n := 17, res := resOf T q_laws_eqShop r_laws_eqShop Try.f35.results.toList, loops := [], regs := [], conds := [] }
theorem g_laws_eqShop (k : Nat) : EnvOK Try.prog k x_laws_eqShop.G := (EnvOK.cons (s_laws_eqIntS k) (EnvOK.cons (s_laws_eqLoanS k) (EnvOK.nil mixed)))
theorem h_laws_eqShop (k : Nat) (x : Tup d_laws_eqShop.ps) : d_laws_eqShop.f (k + 1) x = fnK d_laws_eqShop x_laws_eqShop c_laws_eqShop k x := by kernel_rfl
theorem z_laws_eqShop (x : Tup d_laws_eqShop.ps) : d_laws_eqShop.f 0 x = none := by kernel_rfl
theorem l_laws_eqShop (k : Nat) : LOK Try.prog x_laws_eqShop k c_laws_eqShop := LOK.by [] (by kernel_rfl) AllOK.nil
theorem s_laws_eqShop (k : Nat) : SoundAt Try.prog k 35 d_laws_eqShop.E := @fn_all Try.prog d_laws_eqShop x_laws_eqShop 35 Try.f35 c_laws_eqShop (by kernel_rfl) (by kernel_rfl) (by kernel_rfl) Try.func35 (by kernel_rfl) (by kernel_rfl) (by kernel_rfl) T_ok g_laws_eqShop l_laws_eqShop z_laws_eqShop h_laws_eqShop k
/-! function 50 -/
noncomputable def r_laws_toBoard : List PK := [{ t := Ty.pair (Ty.int IntKind.i64) (Ty.pair (Ty.int IntKind.i64) (Ty.slice (98 : Nat) (Ty.pair (Ty.int IntKind.i64) (Ty.int IntKind.i64)))), agg := true }]
noncomputable def q_laws_toBoard : List PK := [{ t := Ty.pair (Ty.int IntKind.i64) (Ty.pair (Ty.int IntKind.i64) (Ty.slice (100 : Nat) (Ty.pair (Ty.int IntKind.i64) (Ty.int IntKind.i64)))), agg := true }]
noncomputable def to_laws_toBoard (r : Int × Int × List (Int × Int)) : Tup r_laws_toBoard × OutD := ((r, ()), none)
noncomputable def of_laws_toBoard : Tup r_laws_toBoard × OutD → Option (Int × Int × List (Int × Int))
  | (a, none) => some (a.1)
  | _ => none
theorem to_of_laws_toBoard : ∀ b r, of_laws_toBoard b = some r → to_laws_toBoard r = b := by
  rintro ⟨a, o⟩ r h
  cases o with
  | none => injection h with h; subst h; rfl
  | some _ => cases h
noncomputable def f_laws_toBoard : Nat → Int × Int × List (Int × Int) → Option (Int × Int × List (Int × Int))
  | 0, _ => none
  | k + 1, p0 =>
    Option.bind (f_laws_toCellS k (Prod.snd (Prod.snd p0))) fun z0 => some (Prod.fst p0, Prod.fst (Prod.snd p0), z0)
noncomputable def d_laws_toBoard : FnDef := .of q_laws_toBoard r_laws_toBoard (Int × Int × List (Int × Int)) (fun k x => f_laws_toBoard k x.1) to_laws_toBoard of_laws_toBoard to_of_laws_toBoard
noncomputable def c_laws_toBoard : Code := Try.f50.body.getD .skip
noncomputable def x_laws_toBoard : Ctx (Tup r_laws_toBoard × OutD) := { T := T, G := [(84, d_laws_toCellS.E)], mvs := [], no := 0, n := 15, res := resOf T q_laws_toBoard r_laws_toBoard Try.f50.results.toList, loops := [], regs := [], conds := [] }
theorem g_laws_toBoard (k : Nat) : EnvOK Try.prog k x_laws_toBoard.G := (EnvOK.cons (s_laws_toCellS k) (EnvOK.nil mixed))
theorem h_laws_toBoard (k : Nat) (x : Tup d_laws_toBoard.ps) : d_laws_toBoard.f (k + 1) x = fnK d_laws_toBoard x_laws_toBoard c_laws_toBoard k x := by kernel_rfl
theorem z_laws_toBoard (x : Tup d_laws_toBoard.ps) : d_laws_toBoard.f 0 x = none := by kernel_rfl
theorem l_laws_toBoard (k : Nat) : LOK Try.prog x_laws_toBoard k c_laws_toBoard := LOK.by [] (by kernel_rfl) AllOK.nil
theorem s_laws_toBoard (k : Nat) : SoundAt Try.prog k 50 d_laws_toBoard.E := @fn_all Try.prog d_laws_toBoard x_laws_toBoard 50 Try.f50 c_laws_toBoard (by kernel_rfl) (by kernel_rfl) (by kernel_rfl) Try.func50 (by kernel_rfl) (by kernel_rfl) (by kernel_rfl) T_ok g_laws_toBoard l_laws_toBoard z_laws_toBoard h_laws_toBoard k
/-! function 52 -/
noncomputable def r_laws_eqBoard : List PK := [{ t := Ty.bool }]
noncomputable def q_laws_eqBoard : List PK := [{ t := Ty.pair (Ty.int IntKind.i64) (Ty.pair (Ty.int IntKind.i64) (Ty.slice (98 : Nat) (Ty.pair (Ty.int IntKind.i64) (Ty.int IntKind.i64)))), agg := true }, { t := Ty.pair (Ty.int IntKind.i64) (Ty.pair (Ty.int IntKind.i64) (Ty.slice (98 : Nat) (Ty.pair (Ty.int IntKind.i64) (Ty.int IntKind.i64)))), agg := true }]
noncomputable def to_laws_eqBoard (r : Bool) : Tup r_laws_eqBoard × OutD := ((r, ()), none)
noncomputable def of_laws_eqBoard : Tup r_laws_eqBoard × OutD → Option (Bool)
  | (a, none) => some (a.1)
  | _ => none
theorem to_of_laws_eqBoard : ∀ b r, of_laws_eqBoard b = some r → to_laws_eqBoard r = b := by
  rintro ⟨a, o⟩ r h
  cases o with
  | none => injection h with h; subst h; rfl
  | some _ => cases h
noncomputable def f_laws_eqBoard : Nat → Int × Int × List (Int × Int) → Int × Int × List (Int × Int) → Option Bool
  | 0, _, _ => none
  | k + 1, p0, p1 =>
    if decide (Prod.fst p0 ≠ Prod.fst p1) = true then some false else if decide (Prod.fst (Prod.snd p0) ≠ Prod.fst (Prod.snd p1)) = true then some false else Option.bind (f_laws_eqCellS k (Prod.snd (Prod.snd p0)) (Prod.snd (Prod.snd p1))) fun z0 => if (!z0) = true then some false else some true
noncomputable def d_laws_eqBoard : FnDef := .of q_laws_eqBoard r_laws_eqBoard (Bool) (fun k x => f_laws_eqBoard k x.1 x.2.1) to_laws_eqBoard of_laws_eqBoard to_of_laws_eqBoard
noncomputable def c_laws_eqBoard : Code := Try.f52.body.getD .skip
noncomputable def x_laws_eqBoard : Ctx (Tup r_laws_eqBoard × OutD) := { T := T, G := [(87, d_laws_eqCellS.E)], mvs := [], no := 0, n := 21, res := resOf T q_laws_eqBoard r_laws_eqBoard Try.f52.results.toList, loops := [], regs := [], conds := [] }
theorem g_laws_eqBoard (k : Nat) : EnvOK Try.prog k x_laws_eqBoard.G := (EnvOK.cons (s_laws_eqCellS k) (EnvOK.nil mixed))
theorem h_laws_eqBoard (k : Nat) (x : Tup d_laws_eqBoard.ps) : d_laws_eqBoard.f (k + 1) x = fnK d_laws_eqBoard x_laws_eqBoard c_laws_eqBoard k x := by kernel_rfl
theorem z_laws_eqBoard (x : Tup d_laws_eqBoard.ps) : d_laws_eqBoard.f 0 x = none := by kernel_rfl
theorem l_laws_eqBoard (k : Nat) : LOK Try.prog x_laws_eqBoard k c_laws_eqBoard := LOK.by [] (by kernel_rfl) AllOK.nil
theorem s_laws_eqBoard (k : Nat) : SoundAt Try.prog k 52 d_laws_eqBoard.E := @fn_all Try.prog d_laws_eqBoard x_laws_eqBoard 52 Try.f52 c_laws_eqBoard (by kernel_rfl) (by kernel_rfl) (by kernel_rfl) Try.func52 (by kernel_rfl) (by kernel_rfl) (by kernel_rfl) T_ok g_laws_eqBoard l_laws_eqBoard z_laws_eqBoard h_laws_eqBoard k
/-! function 54 -/
noncomputable def r_spec_voVotes : List PK := [{ t := Ty.bool }]
noncomputable def q_spec_voVotes : List PK := [{ t := Ty.slice (3 : Nat) (Ty.int IntKind.i64) }]
noncomputable def to_spec_voVotes (r : Bool) : Tup r_spec_voVotes × OutD := ((r, ()), none)
noncomputable def of_spec_voVotes : Tup r_spec_voVotes × OutD → Option (Bool)
  | (a, none) => some (a.1)
  | _ => none
theorem to_of_spec_voVotes : ∀ b r, of_spec_voVotes b = some r → to_spec_voVotes r = b := by
  rintro ⟨a, o⟩ r h
  cases o with
  | none => injection h with h; subst h; rfl
  | some _ => cases h
noncomputable def f_spec_voVotes : Nat → List Int → Option Bool
  | 0, _ => none
  | k + 1, p0 =>
    Option.bind (f_spec_l1In k (↑(List.length p0) : Int) (1 : Int) (9 : Int)) fun z0 => if z0 = true then Option.bind (f_spec_l1All k p0 (0 : Int) (9 : Int)) fun z1 => some z1 else some false
noncomputable def d_spec_voVotes : FnDef := .of q_spec_voVotes r_spec_voVotes (Bool) (fun k x => f_spec_voVotes k x.1) to_spec_voVotes of_spec_voVotes to_of_spec_voVotes
noncomputable def c_spec_voVotes : Code := Try.f54.body.getD .skip
noncomputable def x_spec_voVotes : Ctx (Tup r_spec_voVotes × OutD) := { T := T, G := [(55, d_spec_l1In.E), (63, d_spec_l1All.E)], mvs := [], no := 0, n := 10, res := resOf T q_spec_voVotes r_spec_voVotes Try.f54.results.toList, loops := [], regs := [], conds := [] }
theorem g_spec_voVotes (k : Nat) : EnvOK Try.prog k x_spec_voVotes.G := (EnvOK.cons (s_spec_l1In k) (EnvOK.cons (s_spec_l1All k) (EnvOK.nil mixed)))
theorem h_spec_voVotes (k : Nat) (x : Tup d_spec_voVotes.ps) : d_spec_voVotes.f (k + 1) x = fnK d_spec_voVotes x_spec_voVotes c_spec_voVotes k x := by kernel_rfl
theorem z_spec_voVotes (x : Tup d_spec_voVotes.ps) : d_spec_voVotes.f 0 x = none := by kernel_rfl
theorem l_spec_voVotes (k : Nat) : LOK Try.prog x_spec_voVotes k c_spec_voVotes := LOK.by [] (by kernel_rfl) AllOK.nil
theorem s_spec_voVotes (k : Nat) : SoundAt Try.prog k 54 d_spec_voVotes.E := @fn_all Try.prog d_spec_voVotes x_spec_voVotes 54 Try.f54 c_spec_voVotes (by kernel_rfl) (by kernel_rfl) (by kernel_rfl) Try.func54 (by kernel_rfl) (by kernel_rfl) (by kernel_rfl) T_ok g_spec_voVotes l_spec_voVotes z_spec_voVotes h_spec_voVotes k
/-! function 68 -/
noncomputable def r_spec_psGood : List PK := [{ t := Ty.bool }]
noncomputable def q_spec_psGood : List PK := [{ t := Ty.pair (Ty.slice (3 : Nat) (Ty.int IntKind.i64)) (Ty.slice (81 : Nat) (Ty.pair (Ty.int IntKind.i64) (Ty.pair (Ty.int IntKind.i64) (Ty.pair (Ty.int IntKind.i64) (Ty.int IntKind.i64))))), agg := true }]
noncomputable def to_spec_psGood (r : Bool) : Tup r_spec_psGood × OutD := ((r, ()), none)
noncomputable def of_spec_psGood : Tup r_spec_psGood × OutD → Option (Bool)
  | (a, none) => some (a.1)
  | _ => none
theorem to_of_spec_psGood : ∀ b r, of_spec_psGood b = some r → to_spec_psGood r = b := by
  rintro ⟨a, o⟩ r h
  cases o with
  | none => injection h with h; subst h; rfl
  | some _ => cases h
noncomputable def f_spec_psGood_0 : Nat → List Int → List (Int × Int × Int × Int) → List (Int × Int × Int × Int) → Int → Int → Option (LR (List Int × List (Int × Int × Int × Int)) Bool)
  | 0, _, _, _, _, _ => none
  | k + 1, b1_0, b1_1, v6, v7, v8 =>
    if decide (v8 < v7) = true then if (0 : Int) ≤ v8 then if v8 < (↑(List.length v6) : Int) then Option.bind (f_spec_psLoan k (Prod.fst (List.getD v6 (Int.toNat v8) ((0 : Int), (0 : Int), (0 : Int), (0 : Int))), Prod.fst (Prod.snd (List.getD v6 (Int.toNat v8) ((0 : Int), (0 : Int), (0 : Int), (0 : Int)))), Prod.fst (Prod.snd (Prod.snd (List.getD v6 (Int.toNat v8) ((0 : Int), (0 : Int), (0 : Int), (0 : Int))))), Prod.snd (Prod.snd (Prod.snd (List.getD v6 (Int.toNat v8) ((0 : Int), (0 : Int), (0 : Int), (0 : Int))))))) fun z0 => if (!z0) = true then some (LR.ret false) else Option.bind (f_spec_psSame k (b1_0, b1_1) (Prod.fst (List.getD v6 (Int.toNat v8) ((0 : Int), (0 : Int), (0 : Int), (0 : Int))), Prod.fst (Prod.snd (List.getD v6 (Int.toNat v8) ((0 : Int), (0 : Int), (0 : Int), (0 : Int)))), Prod.fst (Prod.snd (Prod.snd (List.getD v6 (Int.toNat v8) ((0 : Int), (0 : Int), (0 : Int), (0 : Int))))), Prod.snd (Prod.snd (Prod.snd (List.getD v6 (Int.toNat v8) ((0 : Int), (0 : Int), (0 : Int), (0 : Int))))))) fun z1 => if decide (z1 ≠ v8) = true then some (LR.ret false) else f_spec_psGood_0 k b1_0 b1_1 v6 v7 (wrap64 (v8 + (1 : Int))) else none else none else some (LR.go (b1_0, b1_1))
noncomputable def f_spec_psGood_0i : Spec := { objs := [OSh.ro, OSh.box (46 : Nat) [Sh.snap (0 : Nat) (Ty.int IntKind.i64), Sh.snap (0 : Nat) (Ty.pair (Ty.int IntKind.i64) (Ty.pair (Ty.int IntKind.i64) (Ty.pair (Ty.int IntKind.i64) (Ty.int IntKind.i64))))]], tmps := [((1 : Nat), TSh.at (Sh.ptr (1 : Nat) (0 : Nat))), ((6 : Nat), TSh.at (Sh.snap (0 : Nat) (Ty.pair (Ty.int IntKind.i64) (Ty.pair (Ty.int IntKind.i64) (Ty.pair (Ty.int IntKind.i64) (Ty.int IntKind.i64)))))), ((7 : Nat), TSh.at (Sh.int IntKind.i64)), ((8 : Nat), TSh.at (Sh.int IntKind.i64))] }
noncomputable def f_spec_psGood_0o : Spec := { objs := [OSh.ro, OSh.box (46 : Nat) [Sh.snap (0 : Nat) (Ty.int IntKind.i64), Sh.snap (0 : Nat) (Ty.pair (Ty.int IntKind.i64) (Ty.pair (Ty.int IntKind.i64) (Ty.pair (Ty.int IntKind.i64) (Ty.int IntKind.i64))))]], tmps := [((1 : Nat), TSh.at (Sh.ptr (1 : Nat) (0 : Nat)))] }
noncomputable def f_spec_psGood_0D : LoopDef (Tup r_spec_psGood × OutD) := .rets f_spec_psGood_0i f_spec_psGood_0o (List Int × List (Int × Int × Int × Int)) (Bool) (fun k x => f_spec_psGood_0 k x.1.2.1.1 x.1.2.1.2.1 x.2.2.1 x.2.2.2.1 x.2.2.2.2.1) (fun z => (((), (z.1, z.2, ()), ()), ((), ()))) (fun y => (y.1.2.1.1, y.1.2.1.2.1)) (fun _ => rfl) to_spec_psGood of_spec_psGood to_of_spec_psGood
noncomputable def f_spec_psGood : Nat → List Int × List (Int × Int × Int × Int) → Option Bool
  | 0, _ => none
  | k + 1, p0 =>
    Option.bind (f_spec_psGood_0 k (Prod.fst p0) (Prod.snd p0) (Prod.snd p0) (↑(List.length (Prod.snd p0)) : Int) (0 : Int)) fun z2 => LR.on z2 (fun y2 => if decide ((↑(List.length (Prod.fst y2)) : Int) = (8 : Int)) = true then Option.bind (f_spec_l1All k (Prod.fst y2) (0 : Int) (999 : Int)) fun z3 => if z3 = true then if (0 : Int) < (↑(List.length (Prod.fst y2)) : Int) then if decide (List.getD (Prod.fst y2) (Int.toNat (0 : Int)) (0 : Int) = (0 : Int)) = true then some (decide ((↑(List.length (Prod.snd y2)) : Int) ≤ (20 : Int))) else some false else none else some false else some false) fun r2 => some r2
noncomputable def d_spec_psGood : FnDef := .of q_spec_psGood r_spec_psGood (Bool) (fun k x => f_spec_psGood k x.1) to_spec_psGood of_spec_psGood to_of_spec_psGood
noncomputable def c_spec_psGood : Code := Try.f68.body.getD .skip
noncomputable def x_spec_psGood : Ctx (Tup r_spec_psGood × OutD) := { T := T, G := [(92, d_spec_psLoan.E), (93, d_spec_psSame.E), (63, d_spec_l1All.E)], mvs := [], no := 0, n := 46, res := resOf T q_spec_psGood r_spec_psGood Try.f68.results.toList, loops := [(0, f_spec_psGood_0D.E)], regs := [], conds := [] }
theorem g_spec_psGood (k : Nat) : EnvOK Try.prog k x_spec_psGood.G := (EnvOK.cons (s_spec_psLoan k) (EnvOK.cons (s_spec_psSame k) (EnvOK.cons (s_spec_l1All k) (EnvOK.nil mixed))))
noncomputable def f_spec_psGood_0B : Code := (findLoop 0 c_spec_psGood).getD .skip
theorem f_spec_psGood_0h (k : Nat) (x : f_spec_psGood_0i.D) : f_spec_psGood_0D.lp (k + 1) x = loopK x_spec_psGood f_spec_psGood_0D 0 f_spec_psGood_0B k x := by kernel_rfl
theorem f_spec_psGood_0l (k : Nat) : LOK Try.prog x_spec_psGood k f_spec_psGood_0B := LOK.by [] (by kernel_rfl) AllOK.nil
theorem f_spec_psGood_0z (x : f_spec_psGood_0i.D) : f_spec_psGood_0D.lp 0 x = none := by kernel_rfl
theorem f_spec_psGood_0ok (k : Nat) : EOK Try.prog x_spec_psGood k f_spec_psGood_0D.E (.block 0 (.loop f_spec_psGood_0B)) := loop_ok T_ok g_spec_psGood f_spec_psGood_0z f_spec_psGood_0h f_spec_psGood_0l k
theorem h_spec_psGood (k : Nat) (x : Tup d_spec_psGood.ps) : d_spec_psGood.f (k + 1) x = fnK d_spec_psGood x_spec_psGood c_spec_psGood k x := by kernel_rfl
theorem z_spec_psGood (x : Tup d_spec_psGood.ps) : d_spec_psGood.f 0 x = none := by kernel_rfl
theorem l_spec_psGood (k : Nat) : LOK Try.prog x_spec_psGood k c_spec_psGood := LOK.by [(f_spec_psGood_0D.E, .block 0 (.loop f_spec_psGood_0B))] (by kernel_rfl) (AllOK.cons (f_spec_psGood_0ok k) AllOK.nil)
theorem s_spec_psGood (k : Nat) : SoundAt Try.prog k 68 d_spec_psGood.E := @fn_all Try.prog d_spec_psGood x_spec_psGood 68 Try.f68 c_spec_psGood (by kernel_rfl) (by kernel_rfl) (by kernel_rfl) Try.func68 (by kernel_rfl) (by kernel_rfl) (by kernel_rfl) T_ok g_spec_psGood l_spec_psGood z_spec_psGood h_spec_psGood k
/-! function 73 -/
noncomputable def r_spec_voRows : List PK := [{ t := Ty.bool }]
noncomputable def q_spec_voRows : List PK := [{ t := Ty.slice (25 : Nat) (Ty.slice (3 : Nat) (Ty.int IntKind.i64)) }]
noncomputable def to_spec_voRows (r : Bool) : Tup r_spec_voRows × OutD := ((r, ()), none)
noncomputable def of_spec_voRows : Tup r_spec_voRows × OutD → Option (Bool)
  | (a, none) => some (a.1)
  | _ => none
theorem to_of_spec_voRows : ∀ b r, of_spec_voRows b = some r → to_spec_voRows r = b := by
  rintro ⟨a, o⟩ r h
  cases o with
  | none => injection h with h; subst h; rfl
  | some _ => cases h
noncomputable def f_spec_voRows_0 : Nat → List (List Int) → List (List Int) → Int → Int → Option (LR (List (List Int)) Bool)
  | 0, _, _, _, _ => none
  | k + 1, v0, v5, v6, v7 =>
    if decide (v7 < v6) = true then if (0 : Int) ≤ v7 then if v7 < (↑(List.length v5) : Int) then if (0 : Int) < (↑(List.length v0) : Int) then if decide ((↑(List.length (List.getD v5 (Int.toNat v7) [])) : Int) ≠ (↑(List.length (List.getD v0 (Int.toNat (0 : Int)) [])) : Int)) = true then some (LR.ret false) else if decide ((↑(List.length (List.getD v5 (Int.toNat v7) [])) : Int) > (40 : Int)) = true then some (LR.ret false) else Option.bind (f_spec_l1All k (List.getD v5 (Int.toNat v7) []) (0 : Int) (9 : Int)) fun z0 => if (!z0) = true then some (LR.ret false) else f_spec_voRows_0 k v0 v5 v6 (wrap64 (v7 + (1 : Int))) else none else none else none else some (LR.go v0)
noncomputable def f_spec_voRows_0i : Spec := { objs := [OSh.ro], tmps := [((0 : Nat), TSh.at (Sh.snap (0 : Nat) (Ty.slice (3 : Nat) (Ty.int IntKind.i64)))), ((5 : Nat), TSh.at (Sh.snap (0 : Nat) (Ty.slice (3 : Nat) (Ty.int IntKind.i64)))), ((6 : Nat), TSh.at (Sh.int IntKind.i64)), ((7 : Nat), TSh.at (Sh.int IntKind.i64))] }
noncomputable def f_spec_voRows_0o : Spec := { objs := [OSh.ro], tmps := [((0 : Nat), TSh.at (Sh.snap (0 : Nat) (Ty.slice (3 : Nat) (Ty.int IntKind.i64))))] }
noncomputable def f_spec_voRows_0D : LoopDef (Tup r_spec_voRows × OutD) := .rets f_spec_voRows_0i f_spec_voRows_0o (List (List Int)) (Bool) (fun k x => f_spec_voRows_0 k x.2.1 x.2.2.1 x.2.2.2.1 x.2.2.2.2.1) (fun z => (((), ()), (z, ()))) (fun y => (y.2.1)) (fun _ => rfl) to_spec_voRows of_spec_voRows to_of_spec_voRows
noncomputable def f_spec_voRows : Nat → List (List Int) → Option Bool
  | 0, _ => none
  | k + 1, p0 =>
    Option.bind (f_spec_voRows_0 k p0 p0 (↑(List.length p0) : Int) (0 : Int)) fun z1 => LR.on z1 (fun y1 => Option.bind (f_spec_voCopies k (↑(List.length y1) : Int)) fun z2 => some z2) fun r1 => some r1
noncomputable def d_spec_voRows : FnDef := .of q_spec_voRows r_spec_voRows (Bool) (fun k x => f_spec_voRows k x.1) to_spec_voRows of_spec_voRows to_of_spec_voRows
noncomputable def c_spec_voRows : Code := Try.f73.body.getD .skip
noncomputable def x_spec_voRows : Ctx (Tup r_spec_voRows × OutD) := { T := T, G := [(63, d_spec_l1All.E), (53, d_spec_voCopies.E)], mvs := [], no := 0, n := 32, res := resOf T q_spec_voRows r_spec_voRows Try.f73.results.toList, loops := [(0, f_spec_voRows_0D.E)], regs := [], conds := [] }
theorem g_spec_voRows (k : Nat) : EnvOK Try.prog k x_spec_voRows.G := (EnvOK.cons (s_spec_l1All k) (EnvOK.cons (s_spec_voCopies k) (EnvOK.nil mixed)))
noncomputable def f_spec_voRows_0B : Code := (findLoop 0 c_spec_voRows).getD .skip
theorem f_spec_voRows_0h (k : Nat) (x : f_spec_voRows_0i.D) : f_spec_voRows_0D.lp (k + 1) x = loopK x_spec_voRows f_spec_voRows_0D 0 f_spec_voRows_0B k x := by kernel_rfl
theorem f_spec_voRows_0l (k : Nat) : LOK Try.prog x_spec_voRows k f_spec_voRows_0B := LOK.by [] (by kernel_rfl) AllOK.nil
theorem f_spec_voRows_0z (x : f_spec_voRows_0i.D) : f_spec_voRows_0D.lp 0 x = none := by kernel_rfl
theorem f_spec_voRows_0ok (k : Nat) : EOK Try.prog x_spec_voRows k f_spec_voRows_0D.E (.block 0 (.loop f_spec_voRows_0B)) := loop_ok T_ok g_spec_voRows f_spec_voRows_0z f_spec_voRows_0h f_spec_voRows_0l k
theorem h_spec_voRows (k : Nat) (x : Tup d_spec_voRows.ps) : d_spec_voRows.f (k + 1) x = fnK d_spec_voRows x_spec_voRows c_spec_voRows k x := by kernel_rfl
theorem z_spec_voRows (x : Tup d_spec_voRows.ps) : d_spec_voRows.f 0 x = none := by kernel_rfl
theorem l_spec_voRows (k : Nat) : LOK Try.prog x_spec_voRows k c_spec_voRows := LOK.by [(f_spec_voRows_0D.E, .block 0 (.loop f_spec_voRows_0B))] (by kernel_rfl) (AllOK.cons (f_spec_voRows_0ok k) AllOK.nil)
theorem s_spec_voRows (k : Nat) : SoundAt Try.prog k 73 d_spec_voRows.E := @fn_all Try.prog d_spec_voRows x_spec_voRows 73 Try.f73 c_spec_voRows (by kernel_rfl) (by kernel_rfl) (by kernel_rfl) Try.func73 (by kernel_rfl) (by kernel_rfl) (by kernel_rfl) T_ok g_spec_voRows l_spec_voRows z_spec_voRows h_spec_voRows k
/-! function 83 -/
noncomputable def r_spec_tsTests : List PK := [{ t := Ty.bool }]
noncomputable def q_spec_tsTests : List PK := [{ t := Ty.pair (Ty.int IntKind.i64) (Ty.pair (Ty.int IntKind.i64) (Ty.slice (98 : Nat) (Ty.pair (Ty.int IntKind.i64) (Ty.int IntKind.i64)))), agg := true }, { t := Ty.slice (25 : Nat) (Ty.slice (3 : Nat) (Ty.int IntKind.i64)) }]
noncomputable def to_spec_tsTests (r : Bool) : Tup r_spec_tsTests × OutD := ((r, ()), none)
noncomputable def of_spec_tsTests : Tup r_spec_tsTests × OutD → Option (Bool)
  | (a, none) => some (a.1)
  | _ => none
theorem to_of_spec_tsTests : ∀ b r, of_spec_tsTests b = some r → to_spec_tsTests r = b := by
  rintro ⟨a, o⟩ r h
  cases o with
  | none => injection h with h; subst h; rfl
  | some _ => cases h
noncomputable def f_spec_tsTests_0 : Nat → Int → Int → List (Int × Int) → List (List Int) → List (List Int) → Int → Int → Option (LR (List (List Int)) Bool)
  | 0, _, _, _, _, _, _, _ => none
  | k + 1, b1_0, b1_1, b1_2, v1, v7, v8, v9 =>
    if decide (v9 < v8) = true then if (0 : Int) ≤ v9 then if v9 < (↑(List.length v7) : Int) then if decide ((↑(List.length (List.getD v7 (Int.toNat v9) [])) : Int) > (8 : Int)) = true then some (LR.ret false) else Option.bind (f_spec_l1All k (List.getD v7 (Int.toNat v9) []) (0 : Int) (wrap64 (b1_1 - (1 : Int)))) fun z0 => if (!z0) = true then some (LR.ret false) else f_spec_tsTests_0 k b1_0 b1_1 b1_2 v1 v7 v8 (wrap64 (v9 + (1 : Int))) else none else none else some (LR.go v1)
noncomputable def f_spec_tsTests_0i : Spec := { objs := [OSh.ro, OSh.box (67 : Nat) [Sh.int IntKind.i64, Sh.int IntKind.i64, Sh.snap (0 : Nat) (Ty.pair (Ty.int IntKind.i64) (Ty.int IntKind.i64))]], tmps := [((1 : Nat), TSh.at (Sh.snap (0 : Nat) (Ty.slice (3 : Nat) (Ty.int IntKind.i64)))), ((2 : Nat), TSh.at (Sh.ptr (1 : Nat) (0 : Nat))), ((7 : Nat), TSh.at (Sh.snap (0 : Nat) (Ty.slice (3 : Nat) (Ty.int IntKind.i64)))), ((8 : Nat), TSh.at (Sh.int IntKind.i64)), ((9 : Nat), TSh.at (Sh.int IntKind.i64))] }
noncomputable def f_spec_tsTests_0o : Spec := { objs := [OSh.ro], tmps := [((1 : Nat), TSh.at (Sh.snap (0 : Nat) (Ty.slice (3 : Nat) (Ty.int IntKind.i64))))] }
noncomputable def f_spec_tsTests_0D : LoopDef (Tup r_spec_tsTests × OutD) := .rets f_spec_tsTests_0i f_spec_tsTests_0o (List (List Int)) (Bool) (fun k x => f_spec_tsTests_0 k x.1.2.1.1 x.1.2.1.2.1 x.1.2.1.2.2.1 x.2.1 x.2.2.2.1 x.2.2.2.2.1 x.2.2.2.2.2.1) (fun z => (((), ()), (z, ()))) (fun y => (y.2.1)) (fun _ => rfl) to_spec_tsTests of_spec_tsTests to_of_spec_tsTests
noncomputable def f_spec_tsTests : Nat → Int × Int × List (Int × Int) → List (List Int) → Option Bool
  | 0, _, _ => none
  | k + 1, p0, p1 =>
    Option.bind (f_spec_tsTests_0 k (Prod.fst p0) (Prod.fst (Prod.snd p0)) (Prod.snd (Prod.snd p0)) p1 p1 (↑(List.length p1) : Int) (0 : Int)) fun z1 => LR.on z1 (fun y1 => some (decide ((↑(List.length y1) : Int) ≤ (10 : Int)))) fun r1 => some r1
noncomputable def d_spec_tsTests : FnDef := .of q_spec_tsTests r_spec_tsTests (Bool) (fun k x => f_spec_tsTests k x.1 x.2.1) to_spec_tsTests of_spec_tsTests to_of_spec_tsTests
noncomputable def c_spec_tsTests : Code := Try.f83.body.getD .skip
noncomputable def x_spec_tsTests : Ctx (Tup r_spec_tsTests × OutD) := { T := T, G := [(63, d_spec_l1All.E)], mvs := [], no := 0, n := 28, res := resOf T q_spec_tsTests r_spec_tsTests Try.f83.results.toList, loops := [(0, f_spec_tsTests_0D.E)], regs := [], conds := [] }
theorem g_spec_tsTests (k : Nat) : EnvOK Try.prog k x_spec_tsTests.G := (EnvOK.cons (s_spec_l1All k) (EnvOK.nil mixed))
noncomputable def f_spec_tsTests_0B : Code := (findLoop 0 c_spec_tsTests).getD .skip
theorem f_spec_tsTests_0h (k : Nat) (x : f_spec_tsTests_0i.D) : f_spec_tsTests_0D.lp (k + 1) x = loopK x_spec_tsTests f_spec_tsTests_0D 0 f_spec_tsTests_0B k x := by kernel_rfl
theorem f_spec_tsTests_0l (k : Nat) : LOK Try.prog x_spec_tsTests k f_spec_tsTests_0B := LOK.by [] (by kernel_rfl) AllOK.nil
theorem f_spec_tsTests_0z (x : f_spec_tsTests_0i.D) : f_spec_tsTests_0D.lp 0 x = none := by kernel_rfl
theorem f_spec_tsTests_0ok (k : Nat) : EOK Try.prog x_spec_tsTests k f_spec_tsTests_0D.E (.block 0 (.loop f_spec_tsTests_0B)) := loop_ok T_ok g_spec_tsTests f_spec_tsTests_0z f_spec_tsTests_0h f_spec_tsTests_0l k
theorem h_spec_tsTests (k : Nat) (x : Tup d_spec_tsTests.ps) : d_spec_tsTests.f (k + 1) x = fnK d_spec_tsTests x_spec_tsTests c_spec_tsTests k x := by kernel_rfl
theorem z_spec_tsTests (x : Tup d_spec_tsTests.ps) : d_spec_tsTests.f 0 x = none := by kernel_rfl
theorem l_spec_tsTests (k : Nat) : LOK Try.prog x_spec_tsTests k c_spec_tsTests := LOK.by [(f_spec_tsTests_0D.E, .block 0 (.loop f_spec_tsTests_0B))] (by kernel_rfl) (AllOK.cons (f_spec_tsTests_0ok k) AllOK.nil)
theorem s_spec_tsTests (k : Nat) : SoundAt Try.prog k 83 d_spec_tsTests.E := @fn_all Try.prog d_spec_tsTests x_spec_tsTests 83 Try.f83 c_spec_tsTests (by kernel_rfl) (by kernel_rfl) (by kernel_rfl) Try.func83 (by kernel_rfl) (by kernel_rfl) (by kernel_rfl) T_ok g_spec_tsTests l_spec_tsTests z_spec_tsTests h_spec_tsTests k
/-! function 85 -/
noncomputable def r_impl_IsBoard : List PK := [{ t := Ty.bool }]
noncomputable def q_impl_IsBoard : List PK := [{ t := Ty.pair (Ty.int IntKind.i64) (Ty.pair (Ty.int IntKind.i64) (Ty.slice (98 : Nat) (Ty.pair (Ty.int IntKind.i64) (Ty.int IntKind.i64)))), agg := true }]
noncomputable def to_impl_IsBoard (r : Bool) : Tup r_impl_IsBoard × OutD := ((r, ()), none)
noncomputable def of_impl_IsBoard : Tup r_impl_IsBoard × OutD → Option (Bool)
  | (a, none) => some (a.1)
  | _ => none
theorem to_of_impl_IsBoard : ∀ b r, of_impl_IsBoard b = some r → to_impl_IsBoard r = b := by
  rintro ⟨a, o⟩ r h
  cases o with
  | none => injection h with h; subst h; rfl
  | some _ => cases h
noncomputable def f_impl_IsBoard : Nat → Int × Int × List (Int × Int) → Option Bool
  | 0, _ => none
  | k + 1, p0 =>
    if decide (Prod.fst p0 ≥ (1 : Int)) = true then if decide (Prod.fst p0 ≤ (10 : Int)) = true then if decide (Prod.fst (Prod.snd p0) ≥ (1 : Int)) = true then if decide (Prod.fst (Prod.snd p0) ≤ (9 : Int)) = true then if decide ((↑(List.length (Prod.snd (Prod.snd p0))) : Int) = wrap64 (Prod.fst p0 * Prod.fst (Prod.snd p0))) = true then Option.bind (f_impl_validCells k (Prod.snd (Prod.snd p0))) fun z0 => some z0 else some false else some false else some false else some false else some false
noncomputable def d_impl_IsBoard : FnDef := .of q_impl_IsBoard r_impl_IsBoard (Bool) (fun k x => f_impl_IsBoard k x.1) to_impl_IsBoard of_impl_IsBoard to_of_impl_IsBoard
noncomputable def c_impl_IsBoard : Code := Try.f85.body.getD .skip
noncomputable def x_impl_IsBoard : Ctx (Tup r_impl_IsBoard × OutD) := { T := T, G := [(99, d_impl_validCells.E)], mvs := [], no := 0, n := 37, res := resOf T q_impl_IsBoard r_impl_IsBoard Try.f85.results.toList, loops := [], regs := [], conds := [] }
theorem g_impl_IsBoard (k : Nat) : EnvOK Try.prog k x_impl_IsBoard.G := (EnvOK.cons (s_impl_validCells k) (EnvOK.nil mixed))
theorem h_impl_IsBoard (k : Nat) (x : Tup d_impl_IsBoard.ps) : d_impl_IsBoard.f (k + 1) x = fnK d_impl_IsBoard x_impl_IsBoard c_impl_IsBoard k x := by kernel_rfl
theorem z_impl_IsBoard (x : Tup d_impl_IsBoard.ps) : d_impl_IsBoard.f 0 x = none := by kernel_rfl
theorem l_impl_IsBoard (k : Nat) : LOK Try.prog x_impl_IsBoard k c_impl_IsBoard := LOK.by [] (by kernel_rfl) AllOK.nil
theorem s_impl_IsBoard (k : Nat) : SoundAt Try.prog k 85 d_impl_IsBoard.E := @fn_all Try.prog d_impl_IsBoard x_impl_IsBoard 85 Try.f85 c_impl_IsBoard (by kernel_rfl) (by kernel_rfl) (by kernel_rfl) Try.func85 (by kernel_rfl) (by kernel_rfl) (by kernel_rfl) T_ok g_impl_IsBoard l_impl_IsBoard z_impl_IsBoard h_impl_IsBoard k
/-! function 90 -/
noncomputable def r_spec_voPart : List PK := [{ t := Ty.int IntKind.i64 }, { t := Ty.int IntKind.i64 }]
noncomputable def q_spec_voPart : List PK := [{ t := Ty.int IntKind.i64 }, { t := Ty.int IntKind.i64 }]
noncomputable def to_spec_voPart (r : Int × Int) : Tup r_spec_voPart × OutD := ((r.1, r.2, ()), none)
noncomputable def of_spec_voPart : Tup r_spec_voPart × OutD → Option (Int × Int)
  | (a, none) => some (a.1, a.2.1)
  | _ => none
theorem to_of_spec_voPart : ∀ b r, of_spec_voPart b = some r → to_spec_voPart r = b := by
  rintro ⟨a, o⟩ r h
  cases o with
  | none => injection h with h; subst h; rfl
  | some _ => cases h
noncomputable def f_spec_voPart_0 : Nat → Int → Int → Int → Int → Option (Int × Int × Int)
  | 0, _, _, _, _ => none
  | k + 1, v0, v1, v6, v7 =>
    if decide (v7 > (0 : Int)) = true then if v7 = (0 : Int) then none else f_spec_voPart_0 k v0 v1 v7 (Int.tmod v6 v7) else some (v0, v1, v6)
noncomputable def f_spec_voPart_0i : Spec := { objs := [OSh.ro], tmps := [((0 : Nat), TSh.at (Sh.int IntKind.i64)), ((1 : Nat), TSh.at (Sh.int IntKind.i64)), ((6 : Nat), TSh.at (Sh.int IntKind.i64)), ((7 : Nat), TSh.at (Sh.int IntKind.i64))] }
noncomputable def f_spec_voPart_0o : Spec := { objs := [OSh.ro], tmps := [((0 : Nat), TSh.at (Sh.int IntKind.i64)), ((1 : Nat), TSh.at (Sh.int IntKind.i64)), ((6 : Nat), TSh.at (Sh.int IntKind.i64))] }
noncomputable def f_spec_voPart_0D : LoopDef (Tup r_spec_voPart × OutD) := .plain f_spec_voPart_0i f_spec_voPart_0o (Int × Int × Int) (fun k x => f_spec_voPart_0 k x.2.1 x.2.2.1 x.2.2.2.1 x.2.2.2.2.1) (fun z => (((), ()), (z.1, z.2.1, z.2.2, ()))) (fun y => (y.2.1, y.2.2.1, y.2.2.2.1)) (fun _ => rfl)
noncomputable def f_spec_voPart : Nat → Int → Int → Option (Int × Int)
  | 0, _, _ => none
  | k + 1, p0, p1 =>
    Option.bind (f_spec_l1Abs k p0) fun z0 => Option.bind (f_spec_voPart_0 k p0 p1 z0 p1) fun z1 => if Prod.snd (Prod.snd z1) = (0 : Int) then none else if Prod.snd (Prod.snd z1) = (0 : Int) then none else some (wrap64 (Int.tdiv (Prod.fst z1) (Prod.snd (Prod.snd z1))), wrap64 (Int.tdiv (Prod.fst (Prod.snd z1)) (Prod.snd (Prod.snd z1))))
noncomputable def d_spec_voPart : FnDef := .of q_spec_voPart r_spec_voPart (Int × Int) (fun k x => f_spec_voPart k x.1 x.2.1) to_spec_voPart of_spec_voPart to_of_spec_voPart
noncomputable def c_spec_voPart : Code := Try.f90.body.getD .skip
noncomputable def x_spec_voPart : Ctx (Tup r_spec_voPart × OutD) := { T := T, G := [(102, d_spec_l1Abs.E)], mvs := [], no := 0, n := 25, res := resOf T q_spec_voPart r_spec_voPart Try.f90.results.toList, loops := [(0, f_spec_voPart_0D.E)], regs := [], conds := [] }
theorem g_spec_voPart (k : Nat) : EnvOK Try.prog k x_spec_voPart.G := (EnvOK.cons (s_spec_l1Abs k) (EnvOK.nil mixed))
noncomputable def f_spec_voPart_0B : Code := (findLoop 0 c_spec_voPart).getD .skip
theorem f_spec_voPart_0h (k : Nat) (x : f_spec_voPart_0i.D) : f_spec_voPart_0D.lp (k + 1) x = loopK x_spec_voPart f_spec_voPart_0D 0 f_spec_voPart_0B k x := by kernel_rfl
theorem f_spec_voPart_0l (k : Nat) : LOK Try.prog x_spec_voPart k f_spec_voPart_0B := LOK.by [] (by kernel_rfl) AllOK.nil
theorem f_spec_voPart_0z (x : f_spec_voPart_0i.D) : f_spec_voPart_0D.lp 0 x = none := by kernel_rfl
theorem f_spec_voPart_0ok (k : Nat) : EOK Try.prog x_spec_voPart k f_spec_voPart_0D.E (.block 0 (.loop f_spec_voPart_0B)) := loop_ok T_ok g_spec_voPart f_spec_voPart_0z f_spec_voPart_0h f_spec_voPart_0l k
theorem h_spec_voPart (k : Nat) (x : Tup d_spec_voPart.ps) : d_spec_voPart.f (k + 1) x = fnK d_spec_voPart x_spec_voPart c_spec_voPart k x := by kernel_rfl
theorem z_spec_voPart (x : Tup d_spec_voPart.ps) : d_spec_voPart.f 0 x = none := by kernel_rfl
theorem l_spec_voPart (k : Nat) : LOK Try.prog x_spec_voPart k c_spec_voPart := LOK.by [(f_spec_voPart_0D.E, .block 0 (.loop f_spec_voPart_0B))] (by kernel_rfl) (AllOK.cons (f_spec_voPart_0ok k) AllOK.nil)
theorem s_spec_voPart (k : Nat) : SoundAt Try.prog k 90 d_spec_voPart.E := @fn_all Try.prog d_spec_voPart x_spec_voPart 90 Try.f90 c_spec_voPart (by kernel_rfl) (by kernel_rfl) (by kernel_rfl) Try.func90 (by kernel_rfl) (by kernel_rfl) (by kernel_rfl) T_ok g_spec_voPart l_spec_voPart z_spec_voPart h_spec_voPart k
/-! function 97 -/
noncomputable def r_spec_boGood : List PK := [{ t := Ty.bool }]
noncomputable def q_spec_boGood : List PK := [{ t := Ty.pair (Ty.int IntKind.i64) (Ty.pair (Ty.int IntKind.i64) (Ty.slice (98 : Nat) (Ty.pair (Ty.int IntKind.i64) (Ty.int IntKind.i64)))), agg := true }]
noncomputable def to_spec_boGood (r : Bool) : Tup r_spec_boGood × OutD := ((r, ()), none)
noncomputable def of_spec_boGood : Tup r_spec_boGood × OutD → Option (Bool)
  | (a, none) => some (a.1)
  | _ => none
theorem to_of_spec_boGood : ∀ b r, of_spec_boGood b = some r → to_spec_boGood r = b := by
  rintro ⟨a, o⟩ r h
  cases o with
  | none => injection h with h; subst h; rfl
  | some _ => cases h
noncomputable def f_spec_boGood_0 : Nat → List (Int × Int) → Int → Int → Option (LR Unit Bool)
  | 0, _, _, _ => none
  | k + 1, v27, v28, v29 =>
    if decide (v29 < v28) = true then if (0 : Int) ≤ v29 then if v29 < (↑(List.length v27) : Int) then Option.bind (f_spec_paGood k (Prod.fst (List.getD v27 (Int.toNat v29) ((0 : Int), (0 : Int))), Prod.snd (List.getD v27 (Int.toNat v29) ((0 : Int), (0 : Int))))) fun z2 => if (!z2) = true then some (LR.ret false) else f_spec_boGood_0 k v27 v28 (wrap64 (v29 + (1 : Int))) else none else none else some (LR.go ())
noncomputable def f_spec_boGood_0i : Spec := { objs := [OSh.ro], tmps := [((27 : Nat), TSh.at (Sh.snap (0 : Nat) (Ty.pair (Ty.int IntKind.i64) (Ty.int IntKind.i64)))), ((28 : Nat), TSh.at (Sh.int IntKind.i64)), ((29 : Nat), TSh.at (Sh.int IntKind.i64))] }
noncomputable def f_spec_boGood_0o : Spec := { objs := [OSh.ro], tmps := [] }
noncomputable def f_spec_boGood_0D : LoopDef (Tup r_spec_boGood × OutD) := .rets f_spec_boGood_0i f_spec_boGood_0o (Unit) (Bool) (fun k x => f_spec_boGood_0 k x.2.1 x.2.2.1 x.2.2.2.1) (fun z => (((), ()), (()))) (fun y => ()) (fun _ => rfl) to_spec_boGood of_spec_boGood to_of_spec_boGood
noncomputable def f_spec_boGood : Nat → Int × Int × List (Int × Int) → Option Bool
  | 0, _ => none
  | k + 1, p0 =>
    Option.bind (f_spec_l1In k (Prod.fst p0) (1 : Int) (10 : Int)) fun z0 => if (!z0) = true then some false else Option.bind (f_spec_l1In k (Prod.fst (Prod.snd p0)) (1 : Int) (9 : Int)) fun z1 => if (!z1) = true then some false else if decide ((↑(List.length (Prod.snd (Prod.snd p0))) : Int) ≠ wrap64 (Prod.fst p0 * Prod.fst (Prod.snd p0))) = true then some false else Option.bind (f_spec_boGood_0 k (Prod.snd (Prod.snd p0)) (↑(List.length (Prod.snd (Prod.snd p0))) : Int) (0 : Int)) fun z3 => LR.on z3 (fun y3 => some true) fun r3 => some r3
noncomputable def d_spec_boGood : FnDef := .of q_spec_boGood r_spec_boGood (Bool) (fun k x => f_spec_boGood k x.1) to_spec_boGood of_spec_boGood to_of_spec_boGood
noncomputable def c_spec_boGood : Code := Try.f97.body.getD .skip
noncomputable def x_spec_boGood : Ctx (Tup r_spec_boGood × OutD) := { T := T, G := [(55, d_spec_l1In.E), (103, d_spec_paGood.E)], mvs := [], no := 0, n := 37, res := resOf T q_spec_boGood r_spec_boGood Try.f97.results.toList, loops := [(0, f_spec_boGood_0D.E)], regs := [], conds := [] }
theorem g_spec_boGood (k : Nat) : EnvOK Try.prog k x_spec_boGood.G := (EnvOK.cons (s_spec_l1In k) (EnvOK.cons (s_spec_paGood k) (EnvOK.nil mixed)))
noncomputable def f_spec_boGood_0B : Code := (findLoop 0 c_spec_boGood).getD .skip
theorem f_spec_boGood_0h (k : Nat) (x : f_spec_boGood_0i.D) : f_spec_boGood_0D.lp (k + 1) x = loopK x_spec_boGood f_spec_boGood_0D 0 f_spec_boGood_0B k x := by kernel_rfl
theorem f_spec_boGood_0l (k : Nat) : LOK Try.prog x_spec_boGood k f_spec_boGood_0B := LOK.by [] (by kernel_rfl) AllOK.nil
theorem f_spec_boGood_0z (x : f_spec_boGood_0i.D) : f_spec_boGood_0D.lp 0 x = none := by kernel_rfl
theorem f_spec_boGood_0ok (k : Nat) : EOK Try.prog x_spec_boGood k f_spec_boGood_0D.E (.block 0 (.loop f_spec_boGood_0B)) := loop_ok T_ok g_spec_boGood f_spec_boGood_0z f_spec_boGood_0h f_spec_boGood_0l k
theorem h_spec_boGood (k : Nat) (x : Tup d_spec_boGood.ps) : d_spec_boGood.f (k + 1) x = fnK d_spec_boGood x_spec_boGood c_spec_boGood k x := by kernel_rfl
theorem z_spec_boGood (x : Tup d_spec_boGood.ps) : d_spec_boGood.f 0 x = none := by kernel_rfl
theorem l_spec_boGood (k : Nat) : LOK Try.prog x_spec_boGood k c_spec_boGood := LOK.by [(f_spec_boGood_0D.E, .block 0 (.loop f_spec_boGood_0B))] (by kernel_rfl) (AllOK.cons (f_spec_boGood_0ok k) AllOK.nil)
theorem s_spec_boGood (k : Nat) : SoundAt Try.prog k 97 d_spec_boGood.E := @fn_all Try.prog d_spec_boGood x_spec_boGood 97 Try.f97 c_spec_boGood (by kernel_rfl) (by kernel_rfl) (by kernel_rfl) Try.func97 (by kernel_rfl) (by kernel_rfl) (by kernel_rfl) T_ok g_spec_boGood l_spec_boGood z_spec_boGood h_spec_boGood k
end
end Go.Proofs.Ytcmndffpmjinlaa.Vs
