/- Functions of the program by plain functions, each with its contract. -/
import Derived.Test.YtkefbmaagdaodaaVsT
import Derived.Test.YtkefbmaagdaodaaVf0
set_option maxRecDepth 100000
set_option linter.unusedVariables false
namespace Go.Proofs.Ytkefbmaagdaodaa.Vs
open Go.RowKit
noncomputable section
/-! function 15 -/
noncomputable def r_laws_szBoard : List PK := [{ t := Ty.int IntKind.i64 }]
noncomputable def q_laws_szBoard : List PK := [{ t := Ty.pair (Ty.int IntKind.i64) (Ty.pair (Ty.int IntKind.i64) (Ty.slice 128 (Ty.pair (Ty.int IntKind.i64) (Ty.int IntKind.i64)))), agg := true }, { t := Ty.int IntKind.i64 }]
noncomputable def to_laws_szBoard (r : Int) : Tup r_laws_szBoard × OutD := ((r, ()), none)
noncomputable def of_laws_szBoard : Tup r_laws_szBoard × OutD → Option (Int)
  | (a, none) => some (a.1)
  | _ => none
theorem to_of_laws_szBoard : ∀ b r, of_laws_szBoard b = some r → to_laws_szBoard r = b := by
  rintro ⟨a, o⟩ r h
  cases o with
  | none => injection h with h; subst h; rfl
  | some _ => cases h
noncomputable def f_laws_szBoard : Nat → Int × Int × List (Int × Int) → Int → Option Int
  | 0, _, _ => none
  | k + 1, p0, p1 =>
    Option.bind (f_laws_szCellS k (Prod.snd (Prod.snd p0)) p1) fun z0 => if decide (z0 < 0) = true then some (-1) else some z0
noncomputable def d_laws_szBoard : FnDef := .of q_laws_szBoard r_laws_szBoard (Int) (fun k x => f_laws_szBoard k x.1 x.2.1) to_laws_szBoard of_laws_szBoard to_of_laws_szBoard
noncomputable def c_laws_szBoard : Code := Try.f15.body.getD .skip
noncomputable def x_laws_szBoard : Ctx (Tup r_laws_szBoard × OutD) := { T := T, G := [(62, d_laws_szCellS.E)], mvs := [], no := 0, n := 12, res := resOf T q_laws_szBoard r_laws_szBoard Try.f15.results.toList, loops := [] }
theorem g_laws_szBoard (k : Nat) : EnvOK Try.prog k x_laws_szBoard.G := (EnvOK.cons (s_laws_szCellS k) (EnvOK.nil mixed))
theorem h_laws_szBoard (k : Nat) (x : Tup d_laws_szBoard.ps) : d_laws_szBoard.f (k + 1) x = fnK d_laws_szBoard x_laws_szBoard c_laws_szBoard k x := by kernel_rfl
theorem z_laws_szBoard (x : Tup d_laws_szBoard.ps) : d_laws_szBoard.f 0 x = none := by kernel_rfl
theorem l_laws_szBoard (k : Nat) : LOK Try.prog x_laws_szBoard k c_laws_szBoard := LOK.by [] (by kernel_rfl) AllOK.nil
theorem s_laws_szBoard (k : Nat) : SoundAt Try.prog k 15 d_laws_szBoard.E := @fn_all Try.prog d_laws_szBoard x_laws_szBoard 15 Try.f15 c_laws_szBoard (by kernel_rfl) (by kernel_rfl) (by kernel_rfl) Try.func15 (by kernel_rfl) (by kernel_rfl) (by kernel_rfl) T_ok g_laws_szBoard l_laws_szBoard z_laws_szBoard h_laws_szBoard k
/-! function 19 -/
noncomputable def r_laws_toFaultS : List PK := [{ t := Ty.slice 87 (Ty.pair (Ty.int IntKind.i64) (Ty.pair (Ty.int IntKind.i64) (Ty.int IntKind.i64))) }]
noncomputable def q_laws_toFaultS : List PK := [{ t := Ty.slice 89 (Ty.pair (Ty.int IntKind.i64) (Ty.pair (Ty.int IntKind.i64) (Ty.int IntKind.i64))) }]
noncomputable def to_laws_toFaultS (r : List (Int × Int × Int)) : Tup r_laws_toFaultS × OutD := ((r, ()), none)
noncomputable def of_laws_toFaultS : Tup r_laws_toFaultS × OutD → Option (List (Int × Int × Int))
  | (a, none) => some (a.1)
  | _ => none
theorem to_of_laws_toFaultS : ∀ b r, of_laws_toFaultS b = some r → to_laws_toFaultS r = b := by
  rintro ⟨a, o⟩ r h
  cases o with
  | none => injection h with h; subst h; rfl
  | some _ => cases h
noncomputable def f_laws_toFaultS_0 : Nat → List (Int × Int × Int) → List (Int × Int × Int) → Int → Option (List (Int × Int × Int))
  | 0, _, _, _ => none
  | k + 1, o1, v0, v4 =>
    if decide (v4 < (↑(List.length v0) : Int)) = true then if 0 ≤ v4 then if v4 < (↑(List.length v0) : Int) then Option.bind (f_laws_toFault k (Prod.fst (List.getD v0 (Int.toNat v4) (0, 0, 0)), Prod.fst (Prod.snd (List.getD v0 (Int.toNat v4) (0, 0, 0))), Prod.snd (Prod.snd (List.getD v0 (Int.toNat v4) (0, 0, 0))))) fun z0 => if 0 ≤ v4 then if v4 < (↑(List.length o1) : Int) then f_laws_toFaultS_0 k (List.set o1 (Int.toNat v4) (Prod.fst z0, Prod.fst (Prod.snd z0), Prod.snd (Prod.snd z0))) v0 (wrap64 (v4 + 1)) else none else none else none else none else some o1
noncomputable def f_laws_toFaultS_0i : Spec := { objs := [OSh.ro, OSh.row true 87 (Ty.pair (Ty.int IntKind.i64) (Ty.pair (Ty.int IntKind.i64) (Ty.int IntKind.i64)))], tmps := [(0, TSh.at (Sh.snap 0 (Ty.pair (Ty.int IntKind.i64) (Ty.pair (Ty.int IntKind.i64) (Ty.int IntKind.i64))))), (3, TSh.at (Sh.sl 1)), (4, TSh.at (Sh.int IntKind.i64))] }
noncomputable def f_laws_toFaultS_0o : Spec := { objs := [OSh.ro, OSh.row true 87 (Ty.pair (Ty.int IntKind.i64) (Ty.pair (Ty.int IntKind.i64) (Ty.int IntKind.i64)))], tmps := [(3, TSh.at (Sh.sl 1))] }
noncomputable def f_laws_toFaultS_0D : LoopDef (Tup r_laws_toFaultS × OutD) := .plain f_laws_toFaultS_0i f_laws_toFaultS_0o (List (Int × Int × Int)) (fun k x => f_laws_toFaultS_0 k x.1.2.1 x.2.1 x.2.2.2.1) (fun z => (((), z, ()), ((), ()))) (fun y => (y.1.2.1)) (fun _ => rfl)
noncomputable def f_laws_toFaultS : Nat → List (Int × Int × Int) → Option (List (Int × Int × Int))
  | 0, _ => none
  | k + 1, p0 =>
    if Int.toNat (↑(List.length p0) : Int) * 24 ≤ 281474976710656 then Option.bind (f_laws_toFaultS_0 k (List.replicate (Int.toNat (↑(List.length p0) : Int)) (0, 0, 0)) p0 0) fun z1 => some z1 else none
noncomputable def d_laws_toFaultS : FnDef := .of q_laws_toFaultS r_laws_toFaultS (List (Int × Int × Int)) (fun k x => f_laws_toFaultS k x.1) to_laws_toFaultS of_laws_toFaultS to_of_laws_toFaultS
noncomputable def c_laws_toFaultS : Code := Try.f19.body.getD .skip
noncomputable def x_laws_toFaultS : Ctx (Tup r_laws_toFaultS × OutD) := { T := T, G := [(66, d_laws_toFault.E)], mvs := [], no := 0, n := 23, res := resOf T q_laws_toFaultS r_laws_toFaultS Try.f19.results.toList, loops := [(0, f_laws_toFaultS_0D.E)] }
theorem g_laws_toFaultS (k : Nat) : EnvOK Try.prog k x_laws_toFaultS.G := (EnvOK.cons (s_laws_toFault k) (EnvOK.nil mixed))
noncomputable def f_laws_toFaultS_0B : Code := (findLoop 0 c_laws_toFaultS).getD .skip
theorem f_laws_toFaultS_0h (k : Nat) (x : f_laws_toFaultS_0i.D) : f_laws_toFaultS_0D.lp (k + 1) x = loopK x_laws_toFaultS f_laws_toFaultS_0D 0 f_laws_toFaultS_0B k x := by kernel_rfl
theorem f_laws_toFaultS_0l (k : Nat) : LOK Try.prog x_laws_toFaultS k f_laws_toFaultS_0B := LOK.by [] (by kernel_rfl) AllOK.nil
theorem f_laws_toFaultS_0z (x : f_laws_toFaultS_0i.D) : f_laws_toFaultS_0D.lp 0 x = none := by kernel_rfl
theorem f_laws_toFaultS_0ok (k : Nat) : EOK Try.prog x_laws_toFaultS k f_laws_toFaultS_0D.E (.block 0 (.loop f_laws_toFaultS_0B)) := loop_ok T_ok g_laws_toFaultS f_laws_toFaultS_0z f_laws_toFaultS_0h f_laws_toFaultS_0l k
theorem h_laws_toFaultS (k : Nat) (x : Tup d_laws_toFaultS.ps) : d_laws_toFaultS.f (k + 1) x = fnK d_laws_toFaultS x_laws_toFaultS c_laws_toFaultS k x := by kernel_rfl
theorem z_laws_toFaultS (x : Tup d_laws_toFaultS.ps) : d_laws_toFaultS.f 0 x = none := by kernel_rfl
theorem l_laws_toFaultS (k : Nat) : LOK Try.prog x_laws_toFaultS k c_laws_toFaultS := LOK.by [(f_laws_toFaultS_0D.E, .block 0 (.loop f_laws_toFaultS_0B))] (by kernel_rfl) (AllOK.cons (f_laws_toFaultS_0ok k) AllOK.nil)
theorem s_laws_toFaultS (k : Nat) : SoundAt Try.prog k 19 d_laws_toFaultS.E := @fn_all Try.prog d_laws_toFaultS x_laws_toFaultS 19 Try.f19 c_laws_toFaultS (by kernel_rfl) (by kernel_rfl) (by kernel_rfl) Try.func19 (by kernel_rfl) (by kernel_rfl) (by kernel_rfl) T_ok g_laws_toFaultS l_laws_toFaultS z_laws_toFaultS h_laws_toFaultS k
/-! function 22 -/
noncomputable def r_laws_eqFaultS : List PK := [{ t := Ty.bool }]
noncomputable def q_laws_eqFaultS : List PK := [{ t := Ty.slice 87 (Ty.pair (Ty.int IntKind.i64) (Ty.pair (Ty.int IntKind.i64) (Ty.int IntKind.i64))) }, { t := Ty.slice 87 (Ty.pair (Ty.int IntKind.i64) (Ty.pair (Ty.int IntKind.i64) (Ty.int IntKind.i64))) }]
noncomputable def to_laws_eqFaultS (r : Bool) : Tup r_laws_eqFaultS × OutD := ((r, ()), none)
noncomputable def of_laws_eqFaultS : Tup r_laws_eqFaultS × OutD → Option (Bool)
  | (a, none) => some (a.1)
  | _ => none
theorem to_of_laws_eqFaultS : ∀ b r, of_laws_eqFaultS b = some r → to_laws_eqFaultS r = b := by
  rintro ⟨a, o⟩ r h
  cases o with
  | none => injection h with h; subst h; rfl
  | some _ => cases h
noncomputable def f_laws_eqFaultS_0 : Nat → List (Int × Int × Int) → List (Int × Int × Int) → Int → Option (LR Unit Bool)
  | 0, _, _, _ => none
  | k + 1, v0, v1, v5 =>
    if decide (v5 < (↑(List.length v0) : Int)) = true then if 0 ≤ v5 then if v5 < (↑(List.length v0) : Int) then if 0 ≤ v5 then if v5 < (↑(List.length v1) : Int) then Option.bind (f_laws_eqFault k (Prod.fst (List.getD v0 (Int.toNat v5) (0, 0, 0)), Prod.fst (Prod.snd (List.getD v0 (Int.toNat v5) (0, 0, 0))), Prod.snd (Prod.snd (List.getD v0 (Int.toNat v5) (0, 0, 0)))) (Prod.fst (List.getD v1 (Int.toNat v5) (0, 0, 0)), Prod.fst (Prod.snd (List.getD v1 (Int.toNat v5) (0, 0, 0))), Prod.snd (Prod.snd (List.getD v1 (Int.toNat v5) (0, 0, 0))))) fun z0 => if (!z0) = true then some (LR.ret false) else f_laws_eqFaultS_0 k v0 v1 (wrap64 (v5 + 1)) else none else none else none else none else some (LR.go ())
noncomputable def f_laws_eqFaultS_0i : Spec := { objs := [OSh.ro], tmps := [(0, TSh.at (Sh.snap 0 (Ty.pair (Ty.int IntKind.i64) (Ty.pair (Ty.int IntKind.i64) (Ty.int IntKind.i64))))), (1, TSh.at (Sh.snap 0 (Ty.pair (Ty.int IntKind.i64) (Ty.pair (Ty.int IntKind.i64) (Ty.int IntKind.i64))))), (5, TSh.at (Sh.int IntKind.i64))] }
noncomputable def f_laws_eqFaultS_0o : Spec := { objs := [OSh.ro], tmps := [] }
noncomputable def f_laws_eqFaultS_0D : LoopDef (Tup r_laws_eqFaultS × OutD) := .rets f_laws_eqFaultS_0i f_laws_eqFaultS_0o (Unit) (Bool) (fun k x => f_laws_eqFaultS_0 k x.2.1 x.2.2.1 x.2.2.2.1) (fun z => (((), ()), (()))) (fun y => ()) (fun _ => rfl) to_laws_eqFaultS of_laws_eqFaultS to_of_laws_eqFaultS
noncomputable def f_laws_eqFaultS : Nat → List (Int × Int × Int) → List (Int × Int × Int) → Option Bool
  | 0, _, _ => none
  | k + 1, p0, p1 =>
    if decide ((↑(List.length p0) : Int) ≠ (↑(List.length p1) : Int)) = true then some false else Option.bind (f_laws_eqFaultS_0 k p0 p1 0) fun z1 => LR.on z1 (fun y1 => some true) fun r1 => some r1
noncomputable def d_laws_eqFaultS : FnDef := .of q_laws_eqFaultS r_laws_eqFaultS (Bool) (fun k x => f_laws_eqFaultS k x.1 x.2.1) to_laws_eqFaultS of_laws_eqFaultS to_of_laws_eqFaultS
noncomputable def c_laws_eqFaultS : Code := Try.f22.body.getD .skip
noncomputable def x_laws_eqFaultS : Ctx (Tup r_laws_eqFaultS × OutD) := { T := T, G := [(70, d_laws_eqFault.E)], mvs := [], no := 0, n := 27, res := resOf T q_laws_eqFaultS r_laws_eqFaultS Try.f22.results.toList, loops := [(0, f_laws_eqFaultS_0D.E)] }
theorem g_laws_eqFaultS (k : Nat) : EnvOK Try.prog k x_laws_eqFaultS.G := (EnvOK.cons (s_laws_eqFault k) (EnvOK.nil mixed))
noncomputable def f_laws_eqFaultS_0B : Code := (findLoop 0 c_laws_eqFaultS).getD .skip
theorem f_laws_eqFaultS_0h (k : Nat) (x : f_laws_eqFaultS_0i.D) : f_laws_eqFaultS_0D.lp (k + 1) x = loopK x_laws_eqFaultS f_laws_eqFaultS_0D 0 f_laws_eqFaultS_0B k x := by kernel_rfl
theorem f_laws_eqFaultS_0l (k : Nat) : LOK Try.prog x_laws_eqFaultS k f_laws_eqFaultS_0B := LOK.by [] (by kernel_rfl) AllOK.nil
theorem f_laws_eqFaultS_0z (x : f_laws_eqFaultS_0i.D) : f_laws_eqFaultS_0D.lp 0 x = none := by kernel_rfl
theorem f_laws_eqFaultS_0ok (k : Nat) : EOK Try.prog x_laws_eqFaultS k f_laws_eqFaultS_0D.E (.block 0 (.loop f_laws_eqFaultS_0B)) := loop_ok T_ok g_laws_eqFaultS f_laws_eqFaultS_0z f_laws_eqFaultS_0h f_laws_eqFaultS_0l k
theorem h_laws_eqFaultS (k : Nat) (x : Tup d_laws_eqFaultS.ps) : d_laws_eqFaultS.f (k + 1) x = fnK d_laws_eqFaultS x_laws_eqFaultS c_laws_eqFaultS k x := by kernel_rfl
theorem z_laws_eqFaultS (x : Tup d_laws_eqFaultS.ps) : d_laws_eqFaultS.f 0 x = none := by kernel_rfl
theorem l_laws_eqFaultS (k : Nat) : LOK Try.prog x_laws_eqFaultS k c_laws_eqFaultS := LOK.by [(f_laws_eqFaultS_0D.E, .block 0 (.loop f_laws_eqFaultS_0B))] (by kernel_rfl) (AllOK.cons (f_laws_eqFaultS_0ok k) AllOK.nil)
theorem s_laws_eqFaultS (k : Nat) : SoundAt Try.prog k 22 d_laws_eqFaultS.E := @fn_all Try.prog d_laws_eqFaultS x_laws_eqFaultS 22 Try.f22 c_laws_eqFaultS (by kernel_rfl) (by kernel_rfl) (by kernel_rfl) Try.func22 (by kernel_rfl) (by kernel_rfl) (by kernel_rfl) T_ok g_laws_eqFaultS l_laws_eqFaultS z_laws_eqFaultS h_laws_eqFaultS k
/-! function 25 -/
noncomputable def r_laws_markBoard : List PK := [{ t := Ty.int IntKind.i64 }]
noncomputable def q_laws_markBoard : List PK := [{ t := Ty.pair (Ty.int IntKind.i64) (Ty.pair (Ty.int IntKind.i64) (Ty.slice 123 (Ty.pair (Ty.int IntKind.i64) (Ty.int IntKind.i64)))), agg := true, own := some (2, 123, Ty.pair (Ty.int IntKind.i64) (Ty.int IntKind.i64)) }, { t := Ty.int IntKind.i64 }]
noncomputable def to_laws_markBoard (r : Int × List (Int × Int)) : Tup r_laws_markBoard × OutD := ((r.1, ()), some ⟨Ty.pair (Ty.int IntKind.i64) (Ty.int IntKind.i64), r.2⟩)
noncomputable def of_laws_markBoard : Tup r_laws_markBoard × OutD → Option (Int × List (Int × Int))
  | (a, some ⟨u, ys⟩) => if h : u = Ty.pair (Ty.int IntKind.i64) (Ty.int IntKind.i64) then some (a.1, castU h ys) else none
  | _ => none
theorem to_of_laws_markBoard : ∀ b r, of_laws_markBoard b = some r → to_laws_markBoard r = b := by
  rintro ⟨a, o⟩ r h
  cases o with
  | none => cases h
  | some s =>
    obtain ⟨u, ys⟩ := s
    simp only [of_laws_markBoard] at h
    split at h
    · rename_i hu; subst hu; injection h with h; subst h; rfl
    · cases h
noncomputable def f_laws_markBoard : Nat → Int × Int × List (Int × Int) → Int → Option (Int × List (Int × Int))
  | 0, _, _ => none
  | k + 1, p0, p1 =>
    Option.bind (f_laws_markCellS k (Prod.snd (Prod.snd p0)) p1) fun z0 => some (Prod.fst z0, Prod.snd z0)
noncomputable def d_laws_markBoard : FnDef := .of q_laws_markBoard r_laws_markBoard (Int × List (Int × Int)) (fun k x => f_laws_markBoard k x.1 x.2.1) to_laws_markBoard of_laws_markBoard to_of_laws_markBoard
noncomputable def c_laws_markBoard : Code := Try.f25.body.getD .skip
noncomputable def x_laws_markBoard : Ctx (Tup r_laws_markBoard × OutD) := { T := T, G := [(73, d_laws_markCellS.E)], mvs := [], no := 1, n := 10, res := resOf T q_laws_markBoard r_laws_markBoard Try.f25.results.toList, loops := [] }
theorem g_laws_markBoard (k : Nat) : EnvOK Try.prog k x_laws_markBoard.G := (EnvOK.cons (s_laws_markCellS k) (EnvOK.nil mixed))
theorem h_laws_markBoard (k : Nat) (x : Tup d_laws_markBoard.ps) : d_laws_markBoard.f (k + 1) x = fnK d_laws_markBoard x_laws_markBoard c_laws_markBoard k x := by kernel_rfl
theorem z_laws_markBoard (x : Tup d_laws_markBoard.ps) : d_laws_markBoard.f 0 x = none := by kernel_rfl
theorem l_laws_markBoard (k : Nat) : LOK Try.prog x_laws_markBoard k c_laws_markBoard := LOK.by [] (by kernel_rfl) AllOK.nil
theorem s_laws_markBoard (k : Nat) : SoundAt Try.prog k 25 d_laws_markBoard.E := @fn_all Try.prog d_laws_markBoard x_laws_markBoard 25 Try.f25 c_laws_markBoard (by kernel_rfl) (by kernel_rfl) (by kernel_rfl) Try.func25 (by kernel_rfl) (by kernel_rfl) (by kernel_rfl) T_ok g_laws_markBoard l_laws_markBoard z_laws_markBoard h_laws_markBoard k
/-! function 65 -/
noncomputable def r_laws_toCellS : List PK := [{ t := Ty.slice 123 (Ty.pair (Ty.int IntKind.i64) (Ty.int IntKind.i64)) }]
noncomputable def q_laws_toCellS : List PK := [{ t := Ty.slice 128 (Ty.pair (Ty.int IntKind.i64) (Ty.int IntKind.i64)) }]
noncomputable def to_laws_toCellS (r : List (Int × Int)) : Tup r_laws_toCellS × OutD := ((r, ()), none)
noncomputable def of_laws_toCellS : Tup r_laws_toCellS × OutD → Option (List (Int × Int))
  | (a, none) => some (a.1)
  | _ => none
theorem to_of_laws_toCellS : ∀ b r, of_laws_toCellS b = some r → to_laws_toCellS r = b := by
  rintro ⟨a, o⟩ r h
  cases o with
  | none => injection h with h; subst h; rfl
  | some _ => cases h
noncomputable def f_laws_toCellS_0 : Nat → List (Int × Int) → List (Int × Int) → Int → Option (List (Int × Int))
  | 0, _, _, _ => none
  | k + 1, o1, v0, v4 =>
    if decide (v4 < (↑(List.length v0) : Int)) = true then if 0 ≤ v4 then if v4 < (↑(List.length v0) : Int) then Option.bind (f_laws_toCell k (Prod.fst (List.getD v0 (Int.toNat v4) (0, 0)), Prod.snd (List.getD v0 (Int.toNat v4) (0, 0)))) fun z0 => if 0 ≤ v4 then if v4 < (↑(List.length o1) : Int) then f_laws_toCellS_0 k (List.set o1 (Int.toNat v4) (Prod.fst z0, Prod.snd z0)) v0 (wrap64 (v4 + 1)) else none else none else none else none else some o1
noncomputable def f_laws_toCellS_0i : Spec := { objs := [OSh.ro, OSh.row true 123 (Ty.pair (Ty.int IntKind.i64) (Ty.int IntKind.i64))], tmps := [(0, TSh.at (Sh.snap 0 (Ty.pair (Ty.int IntKind.i64) (Ty.int IntKind.i64)))), (3, TSh.at (Sh.sl 1)), (4, TSh.at (Sh.int IntKind.i64))] }
noncomputable def f_laws_toCellS_0o : Spec := { objs := [OSh.ro, OSh.row true 123 (Ty.pair (Ty.int IntKind.i64) (Ty.int IntKind.i64))], tmps := [(3, TSh.at (Sh.sl 1))] }
noncomputable def f_laws_toCellS_0D : LoopDef (Tup r_laws_toCellS × OutD) := .plain f_laws_toCellS_0i f_laws_toCellS_0o (List (Int × Int)) (fun k x => f_laws_toCellS_0 k x.1.2.1 x.2.1 x.2.2.2.1) (fun z => (((), z, ()), ((), ()))) (fun y => (y.1.2.1)) (fun _ => rfl)
noncomputable def f_laws_toCellS : Nat → List (Int × Int) → Option (List (Int × Int))
  | 0, _ => none
  | k + 1, p0 =>
    if Int.toNat (↑(List.length p0) : Int) * 16 ≤ 281474976710656 then Option.bind (f_laws_toCellS_0 k (List.replicate (Int.toNat (↑(List.length p0) : Int)) (0, 0)) p0 0) fun z1 => some z1 else none
noncomputable def d_laws_toCellS : FnDef := .of q_laws_toCellS r_laws_toCellS (List (Int × Int)) (fun k x => f_laws_toCellS k x.1) to_laws_toCellS of_laws_toCellS to_of_laws_toCellS
noncomputable def c_laws_toCellS : Code := Try.f65.body.getD .skip
noncomputable def x_laws_toCellS : Ctx (Tup r_laws_toCellS × OutD) := { T := T, G := [(114, d_laws_toCell.E)], mvs := [], no := 0, n := 23, res := resOf T q_laws_toCellS r_laws_toCellS Try.f65.results.toList, loops := [(0, f_laws_toCellS_0D.E)] }
theorem g_laws_toCellS (k : Nat) : EnvOK Try.prog k x_laws_toCellS.G := (EnvOK.cons (s_laws_toCell k) (EnvOK.nil mixed))
noncomputable def f_laws_toCellS_0B : Code := (findLoop 0 c_laws_toCellS).getD .skip
theorem f_laws_toCellS_0h (k : Nat) (x : f_laws_toCellS_0i.D) : f_laws_toCellS_0D.lp (k + 1) x = loopK x_laws_toCellS f_laws_toCellS_0D 0 f_laws_toCellS_0B k x := by kernel_rfl
theorem f_laws_toCellS_0l (k : Nat) : LOK Try.prog x_laws_toCellS k f_laws_toCellS_0B := LOK.by [] (by kernel_rfl) AllOK.nil
theorem f_laws_toCellS_0z (x : f_laws_toCellS_0i.D) : f_laws_toCellS_0D.lp 0 x = none := by kernel_rfl
theorem f_laws_toCellS_0ok (k : Nat) : EOK Try.prog x_laws_toCellS k f_laws_toCellS_0D.E (.block 0 (.loop f_laws_toCellS_0B)) := loop_ok T_ok g_laws_toCellS f_laws_toCellS_0z f_laws_toCellS_0h f_laws_toCellS_0l k
theorem h_laws_toCellS (k : Nat) (x : Tup d_laws_toCellS.ps) : d_laws_toCellS.f (k + 1) x = fnK d_laws_toCellS x_laws_toCellS c_laws_toCellS k x := by kernel_rfl
theorem z_laws_toCellS (x : Tup d_laws_toCellS.ps) : d_laws_toCellS.f 0 x = none := by kernel_rfl
theorem l_laws_toCellS (k : Nat) : LOK Try.prog x_laws_toCellS k c_laws_toCellS := LOK.by [(f_laws_toCellS_0D.E, .block 0 (.loop f_laws_toCellS_0B))] (by kernel_rfl) (AllOK.cons (f_laws_toCellS_0ok k) AllOK.nil)
theorem s_laws_toCellS (k : Nat) : SoundAt Try.prog k 65 d_laws_toCellS.E := @fn_all Try.prog d_laws_toCellS x_laws_toCellS 65 Try.f65 c_laws_toCellS (by kernel_rfl) (by kernel_rfl) (by kernel_rfl) Try.func65 (by kernel_rfl) (by kernel_rfl) (by kernel_rfl) T_ok g_laws_toCellS l_laws_toCellS z_laws_toCellS h_laws_toCellS k
/-! function 69 -/
noncomputable def r_laws_eqCellS : List PK := [{ t := Ty.bool }]
noncomputable def q_laws_eqCellS : List PK := [{ t := Ty.slice 123 (Ty.pair (Ty.int IntKind.i64) (Ty.int IntKind.i64)) }, { t := Ty.slice 123 (Ty.pair (Ty.int IntKind.i64) (Ty.int IntKind.i64)) }]
noncomputable def to_laws_eqCellS (r : Bool) : Tup r_laws_eqCellS × OutD := ((r, ()), none)
noncomputable def of_laws_eqCellS : Tup r_laws_eqCellS × OutD → Option (Bool)
  | (a, none) => some (a.1)
  | _ => none
theorem to_of_laws_eqCellS : ∀ b r, of_laws_eqCellS b = some r → to_laws_eqCellS r = b := by
  rintro ⟨a, o⟩ r h
  cases o with
  | none => injection h with h; subst h; rfl
  | some _ => cases h
noncomputable def f_laws_eqCellS_0 : Nat → List (Int × Int) → List (Int × Int) → Int → Option (LR Unit Bool)
  | 0, _, _, _ => none
  | k + 1, v0, v1, v5 =>
    if decide (v5 < (↑(List.length v0) : Int)) = true then if 0 ≤ v5 then if v5 < (↑(List.length v0) : Int) then if 0 ≤ v5 then if v5 < (↑(List.length v1) : Int) then Option.bind (f_laws_eqCell k (Prod.fst (List.getD v0 (Int.toNat v5) (0, 0)), Prod.snd (List.getD v0 (Int.toNat v5) (0, 0))) (Prod.fst (List.getD v1 (Int.toNat v5) (0, 0)), Prod.snd (List.getD v1 (Int.toNat v5) (0, 0)))) fun z0 => if (!z0) = true then some (LR.ret false) else f_laws_eqCellS_0 k v0 v1 (wrap64 (v5 + 1)) else none else none else none else none else some (LR.go ())
noncomputable def f_laws_eqCellS_0i : Spec := { objs := [OSh.ro], tmps := [(0, TSh.at (Sh.snap 0 (Ty.pair (Ty.int IntKind.i64) (Ty.int IntKind.i64)))), (1, TSh.at (Sh.snap 0 (Ty.pair (Ty.int IntKind.i64) (Ty.int IntKind.i64)))), (5, TSh.at (Sh.int IntKind.i64))] }
noncomputable def f_laws_eqCellS_0o : Spec := { objs := [OSh.ro], tmps := [] }
noncomputable def f_laws_eqCellS_0D : LoopDef (Tup r_laws_eqCellS × OutD) := .rets f_laws_eqCellS_0i f_laws_eqCellS_0o (Unit) (Bool) (fun k x => f_laws_eqCellS_0 k x.2.1 x.2.2.1 x.2.2.2.1) (fun z => (((), ()), (()))) (fun y => ()) (fun _ => rfl) to_laws_eqCellS of_laws_eqCellS to_of_laws_eqCellS
noncomputable def f_laws_eqCellS : Nat → List (Int × Int) → List (Int × Int) → Option Bool
  | 0, _, _ => none
  | k + 1, p0, p1 =>
    if decide ((↑(List.length p0) : Int) ≠ (↑(List.length p1) : Int)) = true then some false else Option.bind (f_laws_eqCellS_0 k p0 p1 0) fun z1 => LR.on z1 (fun y1 => some true) fun r1 => some r1
noncomputable def d_laws_eqCellS : FnDef := .of q_laws_eqCellS r_laws_eqCellS (Bool) (fun k x => f_laws_eqCellS k x.1 x.2.1) to_laws_eqCellS of_laws_eqCellS to_of_laws_eqCellS
noncomputable def c_laws_eqCellS : Code := Try.f69.body.getD .skip
noncomputable def x_laws_eqCellS : Ctx (Tup r_laws_eqCellS × OutD) := { T := T, G := [(118, d_laws_eqCell.E)], mvs := [], no := 0, n := 27, res := resOf T q_laws_eqCellS r_laws_eqCellS Try.f69.results.toList, loops := [(0, f_laws_eqCellS_0D.E)] }
theorem g_laws_eqCellS (k : Nat) : EnvOK Try.prog k x_laws_eqCellS.G := (EnvOK.cons (s_laws_eqCell k) (EnvOK.nil mixed))
noncomputable def f_laws_eqCellS_0B : Code := (findLoop 0 c_laws_eqCellS).getD .skip
theorem f_laws_eqCellS_0h (k : Nat) (x : f_laws_eqCellS_0i.D) : f_laws_eqCellS_0D.lp (k + 1) x = loopK x_laws_eqCellS f_laws_eqCellS_0D 0 f_laws_eqCellS_0B k x := by kernel_rfl
theorem f_laws_eqCellS_0l (k : Nat) : LOK Try.prog x_laws_eqCellS k f_laws_eqCellS_0B := LOK.by [] (by kernel_rfl) AllOK.nil
theorem f_laws_eqCellS_0z (x : f_laws_eqCellS_0i.D) : f_laws_eqCellS_0D.lp 0 x = none := by kernel_rfl
theorem f_laws_eqCellS_0ok (k : Nat) : EOK Try.prog x_laws_eqCellS k f_laws_eqCellS_0D.E (.block 0 (.loop f_laws_eqCellS_0B)) := loop_ok T_ok g_laws_eqCellS f_laws_eqCellS_0z f_laws_eqCellS_0h f_laws_eqCellS_0l k
theorem h_laws_eqCellS (k : Nat) (x : Tup d_laws_eqCellS.ps) : d_laws_eqCellS.f (k + 1) x = fnK d_laws_eqCellS x_laws_eqCellS c_laws_eqCellS k x := by kernel_rfl
theorem z_laws_eqCellS (x : Tup d_laws_eqCellS.ps) : d_laws_eqCellS.f 0 x = none := by kernel_rfl
theorem l_laws_eqCellS (k : Nat) : LOK Try.prog x_laws_eqCellS k c_laws_eqCellS := LOK.by [(f_laws_eqCellS_0D.E, .block 0 (.loop f_laws_eqCellS_0B))] (by kernel_rfl) (AllOK.cons (f_laws_eqCellS_0ok k) AllOK.nil)
theorem s_laws_eqCellS (k : Nat) : SoundAt Try.prog k 69 d_laws_eqCellS.E := @fn_all Try.prog d_laws_eqCellS x_laws_eqCellS 69 Try.f69 c_laws_eqCellS (by kernel_rfl) (by kernel_rfl) (by kernel_rfl) Try.func69 (by kernel_rfl) (by kernel_rfl) (by kernel_rfl) T_ok g_laws_eqCellS l_laws_eqCellS z_laws_eqCellS h_laws_eqCellS k
/-! function 111 -/
noncomputable def r_spec_paGood : List PK := [{ t := Ty.bool }]
noncomputable def q_spec_paGood : List PK := [{ t := Ty.pair (Ty.int IntKind.i64) (Ty.int IntKind.i64), agg := true }]
noncomputable def to_spec_paGood (r : Bool) : Tup r_spec_paGood × OutD := ((r, ()), none)
noncomputable def of_spec_paGood : Tup r_spec_paGood × OutD → Option (Bool)
  | (a, none) => some (a.1)
  | _ => none
theorem to_of_spec_paGood : ∀ b r, of_spec_paGood b = some r → to_spec_paGood r = b := by
  rintro ⟨a, o⟩ r h
  cases o with
  | none => injection h with h; subst h; rfl
  | some _ => cases h
noncomputable def f_spec_paGood : Nat → Int × Int → Option Bool
  | 0, _ => none
  | k + 1, p0 =>
    Option.bind (f_spec_l1In k (Prod.fst p0) 0 7) fun z0 => if z0 = true then if decide (Prod.snd p0 = 0) = true then some true else if decide (Prod.snd p0 = 1) = true then Option.bind (f_spec_paTurning k (Prod.fst p0, Prod.snd p0)) fun z1 => some z1 else some false else some false
noncomputable def d_spec_paGood : FnDef := .of q_spec_paGood r_spec_paGood (Bool) (fun k x => f_spec_paGood k x.1) to_spec_paGood of_spec_paGood to_of_spec_paGood
noncomputable def c_spec_paGood : Code := Try.f111.body.getD .skip
noncomputable def x_spec_paGood : Ctx (Tup r_spec_paGood × OutD) := { T := T, G := [(110, d_spec_l1In.E), (135, d_spec_paTurning.E)], mvs := [], no := 0, n := 20, res := resOf T q_spec_paGood r_spec_paGood Try.f111.results.toList, loops := [] }
theorem g_spec_paGood (k : Nat) : EnvOK Try.prog k x_spec_paGood.G := (EnvOK.cons (s_spec_l1In k) (EnvOK.cons (s_spec_paTurning k) (EnvOK.nil mixed)))
theorem h_spec_paGood (k : Nat) (x : Tup d_spec_paGood.ps) : d_spec_paGood.f (k + 1) x = fnK d_spec_paGood x_spec_paGood c_spec_paGood k x := by kernel_rfl
theorem z_spec_paGood (x : Tup d_spec_paGood.ps) : d_spec_paGood.f 0 x = none := by kernel_rfl
theorem l_spec_paGood (k : Nat) : LOK Try.prog x_spec_paGood k c_spec_paGood := LOK.by [] (by kernel_rfl) AllOK.nil
theorem s_spec_paGood (k : Nat) : SoundAt Try.prog k 111 d_spec_paGood.E := @fn_all Try.prog d_spec_paGood x_spec_paGood 111 Try.f111 c_spec_paGood (by kernel_rfl) (by kernel_rfl) (by kernel_rfl) Try.func111 (by kernel_rfl) (by kernel_rfl) (by kernel_rfl) T_ok g_spec_paGood l_spec_paGood z_spec_paGood h_spec_paGood k
/-! function 112 -/
noncomputable def r_spec_faFits : List PK := [{ t := Ty.bool }]
noncomputable def q_spec_faFits : List PK := [{ t := Ty.pair (Ty.int IntKind.i64) (Ty.int IntKind.i64), agg := true }, { t := Ty.int IntKind.i64 }]
noncomputable def to_spec_faFits (r : Bool) : Tup r_spec_faFits × OutD := ((r, ()), none)
noncomputable def of_spec_faFits : Tup r_spec_faFits × OutD → Option (Bool)
  | (a, none) => some (a.1)
  | _ => none
theorem to_of_spec_faFits : ∀ b r, of_spec_faFits b = some r → to_spec_faFits r = b := by
  rintro ⟨a, o⟩ r h
  cases o with
  | none => injection h with h; subst h; rfl
  | some _ => cases h
noncomputable def f_spec_faFits : Nat → Int × Int → Int → Option Bool
  | 0, _, _ => none
  | k + 1, p0, p1 =>
    if decide (p1 = 1) = true then Option.bind (f_spec_paTurning k (Prod.fst p0, Prod.snd p0)) fun z0 => some z0 else if decide (p1 = 2) = true then some true else if decide (p1 = 3) = true then Option.bind (f_spec_paTurning k (Prod.fst p0, Prod.snd p0)) fun z1 => if z1 = true then some true else if decide (Prod.fst p0 = 1) = true then some true else some (decide (Prod.fst p0 = 2)) else some false
noncomputable def d_spec_faFits : FnDef := .of q_spec_faFits r_spec_faFits (Bool) (fun k x => f_spec_faFits k x.1 x.2.1) to_spec_faFits of_spec_faFits to_of_spec_faFits
noncomputable def c_spec_faFits : Code := Try.f112.body.getD .skip
noncomputable def x_spec_faFits : Ctx (Tup r_spec_faFits × OutD) := { T := T, G := [(135, d_spec_paTurning.E)], mvs := [], no := 0, n := 26, res := resOf T q_spec_faFits r_spec_faFits Try.f112.results.toList, loops := [] }
theorem g_spec_faFits (k : Nat) : EnvOK Try.prog k x_spec_faFits.G := (EnvOK.cons (s_spec_paTurning k) (EnvOK.nil mixed))
theorem h_spec_faFits (k : Nat) (x : Tup d_spec_faFits.ps) : d_spec_faFits.f (k + 1) x = fnK d_spec_faFits x_spec_faFits c_spec_faFits k x := by kernel_rfl
theorem z_spec_faFits (x : Tup d_spec_faFits.ps) : d_spec_faFits.f 0 x = none := by kernel_rfl
theorem l_spec_faFits (k : Nat) : LOK Try.prog x_spec_faFits k c_spec_faFits := LOK.by [] (by kernel_rfl) AllOK.nil
theorem s_spec_faFits (k : Nat) : SoundAt Try.prog k 112 d_spec_faFits.E := @fn_all Try.prog d_spec_faFits x_spec_faFits 112 Try.f112 c_spec_faFits (by kernel_rfl) (by kernel_rfl) (by kernel_rfl) Try.func112 (by kernel_rfl) (by kernel_rfl) (by kernel_rfl) T_ok g_spec_faFits l_spec_faFits z_spec_faFits h_spec_faFits k
/-! function 115 -/
noncomputable def r_impl_validCells : List PK := [{ t := Ty.bool }]
noncomputable def q_impl_validCells : List PK := [{ t := Ty.slice 123 (Ty.pair (Ty.int IntKind.i64) (Ty.int IntKind.i64)) }]
noncomputable def to_impl_validCells (r : Bool) : Tup r_impl_validCells × OutD := ((r, ()), none)
noncomputable def of_impl_validCells : Tup r_impl_validCells × OutD → Option (Bool)
  | (a, none) => some (a.1)
  | _ => none
theorem to_of_impl_validCells : ∀ b r, of_impl_validCells b = some r → to_impl_validCells r = b := by
  rintro ⟨a, o⟩ r h
  cases o with
  | none => injection h with h; subst h; rfl
  | some _ => cases h
noncomputable def f_impl_validCells_0 : Nat → List (Int × Int) → Int → Int → Option (LR Unit Bool)
  | 0, _, _, _ => none
  | k + 1, v8, v9, v10 =>
    if decide (v10 < v9) = true then if 0 ≤ v10 then if v10 < (↑(List.length v8) : Int) then Option.bind (f_impl_IsCell k (Prod.fst (List.getD v8 (Int.toNat v10) (0, 0)), Prod.snd (List.getD v8 (Int.toNat v10) (0, 0)))) fun z0 => if (!z0) = true then some (LR.ret false) else f_impl_validCells_0 k v8 v9 (wrap64 (v10 + 1)) else none else none else some (LR.go ())
noncomputable def f_impl_validCells_0i : Spec := { objs := [OSh.ro], tmps := [(8, TSh.at (Sh.snap 0 (Ty.pair (Ty.int IntKind.i64) (Ty.int IntKind.i64)))), (9, TSh.at (Sh.int IntKind.i64)), (10, TSh.at (Sh.int IntKind.i64))] }
noncomputable def f_impl_validCells_0o : Spec := { objs := [OSh.ro], tmps := [] }
noncomputable def f_impl_validCells_0D : LoopDef (Tup r_impl_validCells × OutD) := .rets f_impl_validCells_0i f_impl_validCells_0o (Unit) (Bool) (fun k x => f_impl_validCells_0 k x.2.1 x.2.2.1 x.2.2.2.1) (fun z => (((), ()), (()))) (fun y => ()) (fun _ => rfl) to_impl_validCells of_impl_validCells to_of_impl_validCells
noncomputable def f_impl_validCells : Nat → List (Int × Int) → Option Bool
  | 0, _ => none
  | k + 1, p0 =>
    if decide ((↑(List.length p0) : Int) > 90) = true then some false else Option.bind (f_impl_validCells_0 k p0 (↑(List.length p0) : Int) 0) fun z1 => LR.on z1 (fun y1 => some true) fun r1 => some r1
noncomputable def d_impl_validCells : FnDef := .of q_impl_validCells r_impl_validCells (Bool) (fun k x => f_impl_validCells k x.1) to_impl_validCells of_impl_validCells to_of_impl_validCells
noncomputable def c_impl_validCells : Code := Try.f115.body.getD .skip
noncomputable def x_impl_validCells : Ctx (Tup r_impl_validCells × OutD) := { T := T, G := [(136, d_impl_IsCell.E)], mvs := [], no := 0, n := 18, res := resOf T q_impl_validCells r_impl_validCells Try.f115.results.toList, loops := [(0, f_impl_validCells_0D.E)] }
theorem g_impl_validCells (k : Nat) : EnvOK Try.prog k x_impl_validCells.G := (EnvOK.cons (s_impl_IsCell k) (EnvOK.nil mixed))
noncomputable def f_impl_validCells_0B : Code := (findLoop 0 c_impl_validCells).getD .skip
theorem f_impl_validCells_0h (k : Nat) (x : f_impl_validCells_0i.D) : f_impl_validCells_0D.lp (k + 1) x = loopK x_impl_validCells f_impl_validCells_0D 0 f_impl_validCells_0B k x := by kernel_rfl
theorem f_impl_validCells_0l (k : Nat) : LOK Try.prog x_impl_validCells k f_impl_validCells_0B := LOK.by [] (by kernel_rfl) AllOK.nil
theorem f_impl_validCells_0z (x : f_impl_validCells_0i.D) : f_impl_validCells_0D.lp 0 x = none := by kernel_rfl
theorem f_impl_validCells_0ok (k : Nat) : EOK Try.prog x_impl_validCells k f_impl_validCells_0D.E (.block 0 (.loop f_impl_validCells_0B)) := loop_ok T_ok g_impl_validCells f_impl_validCells_0z f_impl_validCells_0h f_impl_validCells_0l k
theorem h_impl_validCells (k : Nat) (x : Tup d_impl_validCells.ps) : d_impl_validCells.f (k + 1) x = fnK d_impl_validCells x_impl_validCells c_impl_validCells k x := by kernel_rfl
theorem z_impl_validCells (x : Tup d_impl_validCells.ps) : d_impl_validCells.f 0 x = none := by kernel_rfl
theorem l_impl_validCells (k : Nat) : LOK Try.prog x_impl_validCells k c_impl_validCells := LOK.by [(f_impl_validCells_0D.E, .block 0 (.loop f_impl_validCells_0B))] (by kernel_rfl) (AllOK.cons (f_impl_validCells_0ok k) AllOK.nil)
theorem s_impl_validCells (k : Nat) : SoundAt Try.prog k 115 d_impl_validCells.E := @fn_all Try.prog d_impl_validCells x_impl_validCells 115 Try.f115 c_impl_validCells (by kernel_rfl) (by kernel_rfl) (by kernel_rfl) Try.func115 (by kernel_rfl) (by kernel_rfl) (by kernel_rfl) T_ok g_impl_validCells l_impl_validCells z_impl_validCells h_impl_validCells k
/-! function 123 -/
noncomputable def r_impl_IsTurning : List PK := [{ t := Ty.bool }]
noncomputable def q_impl_IsTurning : List PK := [{ t := Ty.pair (Ty.int IntKind.i64) (Ty.int IntKind.i64), agg := true }]
noncomputable def to_impl_IsTurning (r : Bool) : Tup r_impl_IsTurning × OutD := ((r, ()), none)
noncomputable def of_impl_IsTurning : Tup r_impl_IsTurning × OutD → Option (Bool)
  | (a, none) => some (a.1)
  | _ => none
theorem to_of_impl_IsTurning : ∀ b r, of_impl_IsTurning b = some r → to_impl_IsTurning r = b := by
  rintro ⟨a, o⟩ r h
  cases o with
  | none => injection h with h; subst h; rfl
  | some _ => cases h
noncomputable def f_impl_IsTurning : Nat → Int × Int → Option Bool
  | 0, _ => none
  | k + 1, p0 =>
    Option.bind (f_impl_IsCell k (Prod.fst p0, Prod.snd p0)) fun z0 => if z0 = true then if decide (Prod.fst p0 = 3) = true then some true else some (decide (Prod.fst p0 = 6)) else some false
noncomputable def d_impl_IsTurning : FnDef := .of q_impl_IsTurning r_impl_IsTurning (Bool) (fun k x => f_impl_IsTurning k x.1) to_impl_IsTurning of_impl_IsTurning to_of_impl_IsTurning
noncomputable def c_impl_IsTurning : Code := Try.f123.body.getD .skip
noncomputable def x_impl_IsTurning : Ctx (Tup r_impl_IsTurning × OutD) := { T := T, G := [(136, d_impl_IsCell.E)], mvs := [], no := 0, n := 15, res := resOf T q_impl_IsTurning r_impl_IsTurning Try.f123.results.toList, loops := [] }
theorem g_impl_IsTurning (k : Nat) : EnvOK Try.prog k x_impl_IsTurning.G := (EnvOK.cons (s_impl_IsCell k) (EnvOK.nil mixed))
theorem h_impl_IsTurning (k : Nat) (x : Tup d_impl_IsTurning.ps) : d_impl_IsTurning.f (k + 1) x = fnK d_impl_IsTurning x_impl_IsTurning c_impl_IsTurning k x := by kernel_rfl
theorem z_impl_IsTurning (x : Tup d_impl_IsTurning.ps) : d_impl_IsTurning.f 0 x = none := by kernel_rfl
theorem l_impl_IsTurning (k : Nat) : LOK Try.prog x_impl_IsTurning k c_impl_IsTurning := LOK.by [] (by kernel_rfl) AllOK.nil
theorem s_impl_IsTurning (k : Nat) : SoundAt Try.prog k 123 d_impl_IsTurning.E := @fn_all Try.prog d_impl_IsTurning x_impl_IsTurning 123 Try.f123 c_impl_IsTurning (by kernel_rfl) (by kernel_rfl) (by kernel_rfl) Try.func123 (by kernel_rfl) (by kernel_rfl) (by kernel_rfl) T_ok g_impl_IsTurning l_impl_IsTurning z_impl_IsTurning h_impl_IsTurning k
end
end Go.Proofs.Ytkefbmaagdaodaa.Vs
