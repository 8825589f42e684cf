/- Functions of the program by plain functions, each with its contract. -/
import Derived.Test.YtkefbmaagdaodaaVsT
set_option maxRecDepth 100000
set_option linter.unusedVariables false
namespace Go.Proofs.Ytkefbmaagdaodaa.Vs
open Go.RowKit
noncomputable section
/-! function 16 -/
noncomputable def r_laws_szFaultS : List PK := [{ t := Ty.int IntKind.i64 }]
noncomputable def q_laws_szFaultS : List PK := [{ t := Ty.slice 89 (Ty.pair (Ty.int IntKind.i64) (Ty.pair (Ty.int IntKind.i64) (Ty.int IntKind.i64))) }, { t := Ty.int IntKind.i64 }]
noncomputable def to_laws_szFaultS (r : Int) : Tup r_laws_szFaultS × OutD := ((r, ()), none)
noncomputable def of_laws_szFaultS : Tup r_laws_szFaultS × OutD → Option (Int)
  | (a, none) => some (a.1)
  | _ => none
theorem to_of_laws_szFaultS : ∀ b r, of_laws_szFaultS b = some r → to_laws_szFaultS r = b := by
  rintro ⟨a, o⟩ r h
  cases o with
  | none => injection h with h; subst h; rfl
  | some _ => cases h
noncomputable def f_laws_szFaultS : Nat → List (Int × Int × Int) → Int → Option Int
  | 0, _, _ => none
  | k + 1, p0, p1 =>
    if decide (wrap64 (p1 - (↑(List.length p0) : Int)) < 0) = true then some (-1) else some (wrap64 (p1 - (↑(List.length p0) : Int)))
noncomputable def d_laws_szFaultS : FnDef := .of q_laws_szFaultS r_laws_szFaultS (Int) (fun k x => f_laws_szFaultS k x.1 x.2.1) to_laws_szFaultS of_laws_szFaultS to_of_laws_szFaultS
noncomputable def c_laws_szFaultS : Code := Try.f16.body.getD .skip
noncomputable def x_laws_szFaultS : Ctx (Tup r_laws_szFaultS × OutD) := { T := T, G := [], mvs := [], no := 0, n := 12, res := resOf T q_laws_szFaultS r_laws_szFaultS Try.f16.results.toList, loops := [] }
theorem g_laws_szFaultS (k : Nat) : EnvOK Try.prog k x_laws_szFaultS.G := (EnvOK.nil mixed)
theorem h_laws_szFaultS (k : Nat) (x : Tup d_laws_szFaultS.ps) : d_laws_szFaultS.f (k + 1) x = fnK d_laws_szFaultS x_laws_szFaultS c_laws_szFaultS k x := by kernel_rfl
theorem z_laws_szFaultS (x : Tup d_laws_szFaultS.ps) : d_laws_szFaultS.f 0 x = none := by kernel_rfl
theorem l_laws_szFaultS (k : Nat) : LOK Try.prog x_laws_szFaultS k c_laws_szFaultS := LOK.by [] (by kernel_rfl) AllOK.nil
theorem s_laws_szFaultS (k : Nat) : SoundAt Try.prog k 16 d_laws_szFaultS.E := @fn_all Try.prog d_laws_szFaultS x_laws_szFaultS 16 Try.f16 c_laws_szFaultS (by kernel_rfl) (by kernel_rfl) (by kernel_rfl) Try.func16 (by kernel_rfl) (by kernel_rfl) (by kernel_rfl) T_ok g_laws_szFaultS l_laws_szFaultS z_laws_szFaultS h_laws_szFaultS k
/-! function 26 -/
noncomputable def r_laws_markFaultS : List PK := [{ t := Ty.int IntKind.i64 }]
noncomputable def q_laws_markFaultS : List PK := [{ t := Ty.slice 87 (Ty.pair (Ty.int IntKind.i64) (Ty.pair (Ty.int IntKind.i64) (Ty.int IntKind.i64))), own := some (0, 87, Ty.pair (Ty.int IntKind.i64) (Ty.pair (Ty.int IntKind.i64) (Ty.int IntKind.i64))) }, { t := Ty.int IntKind.i64 }]
noncomputable def to_laws_markFaultS (r : Int × List (Int × Int × Int)) : Tup r_laws_markFaultS × OutD := ((r.1, ()), some ⟨Ty.pair (Ty.int IntKind.i64) (Ty.pair (Ty.int IntKind.i64) (Ty.int IntKind.i64)), r.2⟩)
noncomputable def of_laws_markFaultS : Tup r_laws_markFaultS × OutD → Option (Int × List (Int × Int × Int))
  | (a, some ⟨u, ys⟩) => if h : u = Ty.pair (Ty.int IntKind.i64) (Ty.pair (Ty.int IntKind.i64) (Ty.int IntKind.i64)) then some (a.1, castU h ys) else none
  | _ => none
theorem to_of_laws_markFaultS : ∀ b r, of_laws_markFaultS b = some r → to_laws_markFaultS r = b := by
  rintro ⟨a, o⟩ r h
  cases o with
  | none => cases h
  | some s =>
    obtain ⟨u, ys⟩ := s
    simp only [of_laws_markFaultS] at h
    split at h
    · rename_i hu; subst hu; injection h with h; subst h; rfl
    · cases h
noncomputable def f_laws_markFaultS_0 : Nat → List (Int × Int × Int) → Int → Int → Option (List (Int × Int × Int) × Int)
  | 0, _, _, _ => none
  | k + 1, o1, v1, v5 =>
    if decide (v5 < (↑(List.length o1) : Int)) = true then if 0 ≤ v5 then if v5 < (↑(List.length o1) : Int) then if 0 ≤ v5 then if v5 < (↑(List.length (List.set o1 (Int.toNat v5) (v1, Prod.snd (List.getD o1 (Int.toNat v5) (0, 0, 0))))) : Int) then if 0 ≤ v5 then if v5 < (↑(List.length (List.set (List.set o1 (Int.toNat v5) (v1, Prod.snd (List.getD o1 (Int.toNat v5) (0, 0, 0)))) (Int.toNat v5) (Prod.fst (List.getD (List.set o1 (Int.toNat v5) (v1, Prod.snd (List.getD o1 (Int.toNat v5) (0, 0, 0)))) (Int.toNat v5) (0, 0, 0)), wrap64 (v1 + 1), Prod.snd (Prod.snd (List.getD (List.set o1 (Int.toNat v5) (v1, Prod.snd (List.getD o1 (Int.toNat v5) (0, 0, 0)))) (Int.toNat v5) (0, 0, 0)))))) : Int) then f_laws_markFaultS_0 k (List.set (List.set (List.set o1 (Int.toNat v5) (v1, Prod.snd (List.getD o1 (Int.toNat v5) (0, 0, 0)))) (Int.toNat v5) (Prod.fst (List.getD (List.set o1 (Int.toNat v5) (v1, Prod.snd (List.getD o1 (Int.toNat v5) (0, 0, 0)))) (Int.toNat v5) (0, 0, 0)), wrap64 (v1 + 1), Prod.snd (Prod.snd (List.getD (List.set o1 (Int.toNat v5) (v1, Prod.snd (List.getD o1 (Int.toNat v5) (0, 0, 0)))) (Int.toNat v5) (0, 0, 0))))) (Int.toNat v5) (Prod.fst (List.getD (List.set (List.set o1 (Int.toNat v5) (v1, Prod.snd (List.getD o1 (Int.toNat v5) (0, 0, 0)))) (Int.toNat v5) (Prod.fst (List.getD (List.set o1 (Int.toNat v5) (v1, Prod.snd (List.getD o1 (Int.toNat v5) (0, 0, 0)))) (Int.toNat v5) (0, 0, 0)), wrap64 (v1 + 1), Prod.snd (Prod.snd (List.getD (List.set o1 (Int.toNat v5) (v1, Prod.snd (List.getD o1 (Int.toNat v5) (0, 0, 0)))) (Int.toNat v5) (0, 0, 0))))) (Int.toNat v5) (0, 0, 0)), Prod.fst (Prod.snd (List.getD (List.set (List.set o1 (Int.toNat v5) (v1, Prod.snd (List.getD o1 (Int.toNat v5) (0, 0, 0)))) (Int.toNat v5) (Prod.fst (List.getD (List.set o1 (Int.toNat v5) (v1, Prod.snd (List.getD o1 (Int.toNat v5) (0, 0, 0)))) (Int.toNat v5) (0, 0, 0)), wrap64 (v1 + 1), Prod.snd (Prod.snd (List.getD (List.set o1 (Int.toNat v5) (v1, Prod.snd (List.getD o1 (Int.toNat v5) (0, 0, 0)))) (Int.toNat v5) (0, 0, 0))))) (Int.toNat v5) (0, 0, 0))), wrap64 (wrap64 (v1 + 1) + 1))) (wrap64 (wrap64 (wrap64 (v1 + 1) + 1) + 1)) (wrap64 (v5 + 1)) else none else none else none else none else none else none else some (o1, v1)
noncomputable def f_laws_markFaultS_0i : Spec := { objs := [OSh.ro, OSh.row false 87 (Ty.pair (Ty.int IntKind.i64) (Ty.pair (Ty.int IntKind.i64) (Ty.int IntKind.i64)))], tmps := [(0, TSh.at (Sh.sl 1)), (1, TSh.at (Sh.int IntKind.i64)), (5, TSh.at (Sh.int IntKind.i64))] }
noncomputable def f_laws_markFaultS_0o : Spec := { objs := [OSh.ro, OSh.row false 87 (Ty.pair (Ty.int IntKind.i64) (Ty.pair (Ty.int IntKind.i64) (Ty.int IntKind.i64)))], tmps := [(1, TSh.at (Sh.int IntKind.i64))] }
noncomputable def f_laws_markFaultS_0D : LoopDef (Tup r_laws_markFaultS × OutD) := .plain f_laws_markFaultS_0i f_laws_markFaultS_0o (List (Int × Int × Int) × Int) (fun k x => f_laws_markFaultS_0 k x.1.2.1 x.2.2.1 x.2.2.2.1) (fun z => (((), z.1, ()), (z.2, ()))) (fun y => (y.1.2.1, y.2.1)) (fun _ => rfl)
noncomputable def f_laws_markFaultS : Nat → List (Int × Int × Int) → Int → Option (Int × List (Int × Int × Int))
  | 0, _, _ => none
  | k + 1, p0, p1 =>
    Option.bind (f_laws_markFaultS_0 k p0 p1 0) fun z0 => some (Prod.snd z0, Prod.fst z0)
noncomputable def d_laws_markFaultS : FnDef := .of q_laws_markFaultS r_laws_markFaultS (Int × List (Int × Int × Int)) (fun k x => f_laws_markFaultS k x.1 x.2.1) to_laws_markFaultS of_laws_markFaultS to_of_laws_markFaultS
noncomputable def c_laws_markFaultS : Code := Try.f26.body.getD .skip
noncomputable def x_laws_markFaultS : Ctx (Tup r_laws_markFaultS × OutD) := { T := T, G := [], mvs := [], no := 1, n := 34, res := resOf T q_laws_markFaultS r_laws_markFaultS Try.f26.results.toList, loops := [(0, f_laws_markFaultS_0D.E)] }
theorem g_laws_markFaultS (k : Nat) : EnvOK Try.prog k x_laws_markFaultS.G := (EnvOK.nil mixed)
noncomputable def f_laws_markFaultS_0B : Code := (findLoop 0 c_laws_markFaultS).getD .skip
theorem f_laws_markFaultS_0h (k : Nat) (x : f_laws_markFaultS_0i.D) : f_laws_markFaultS_0D.lp (k + 1) x = loopK x_laws_markFaultS f_laws_markFaultS_0D 0 f_laws_markFaultS_0B k x := by kernel_rfl
theorem f_laws_markFaultS_0l (k : Nat) : LOK Try.prog x_laws_markFaultS k f_laws_markFaultS_0B := LOK.by [] (by kernel_rfl) AllOK.nil
theorem f_laws_markFaultS_0z (x : f_laws_markFaultS_0i.D) : f_laws_markFaultS_0D.lp 0 x = none := by kernel_rfl
theorem f_laws_markFaultS_0ok (k : Nat) : EOK Try.prog x_laws_markFaultS k f_laws_markFaultS_0D.E (.block 0 (.loop f_laws_markFaultS_0B)) := loop_ok T_ok g_laws_markFaultS f_laws_markFaultS_0z f_laws_markFaultS_0h f_laws_markFaultS_0l k
theorem h_laws_markFaultS (k : Nat) (x : Tup d_laws_markFaultS.ps) : d_laws_markFaultS.f (k + 1) x = fnK d_laws_markFaultS x_laws_markFaultS c_laws_markFaultS k x := by kernel_rfl
theorem z_laws_markFaultS (x : Tup d_laws_markFaultS.ps) : d_laws_markFaultS.f 0 x = none := by kernel_rfl
theorem l_laws_markFaultS (k : Nat) : LOK Try.prog x_laws_markFaultS k c_laws_markFaultS := LOK.by [(f_laws_markFaultS_0D.E, .block 0 (.loop f_laws_markFaultS_0B))] (by kernel_rfl) (AllOK.cons (f_laws_markFaultS_0ok k) AllOK.nil)
theorem s_laws_markFaultS (k : Nat) : SoundAt Try.prog k 26 d_laws_markFaultS.E := @fn_all Try.prog d_laws_markFaultS x_laws_markFaultS 26 Try.f26 c_laws_markFaultS (by kernel_rfl) (by kernel_rfl) (by kernel_rfl) Try.func26 (by kernel_rfl) (by kernel_rfl) (by kernel_rfl) T_ok g_laws_markFaultS l_laws_markFaultS z_laws_markFaultS h_laws_markFaultS k
/-! function 27 -/
noncomputable def r_laws_heldFaultS : List PK := [{ t := Ty.int IntKind.i64 }]
noncomputable def q_laws_heldFaultS : List PK := [{ t := Ty.slice 87 (Ty.pair (Ty.int IntKind.i64) (Ty.pair (Ty.int IntKind.i64) (Ty.int IntKind.i64))) }, { t := Ty.int IntKind.i64 }]
noncomputable def to_laws_heldFaultS (r : Int) : Tup r_laws_heldFaultS × OutD := ((r, ()), none)
noncomputable def of_laws_heldFaultS : Tup r_laws_heldFaultS × OutD → Option (Int)
  | (a, none) => some (a.1)
  | _ => none
theorem to_of_laws_heldFaultS : ∀ b r, of_laws_heldFaultS b = some r → to_laws_heldFaultS r = b := by
  rintro ⟨a, o⟩ r h
  cases o with
  | none => injection h with h; subst h; rfl
  | some _ => cases h
noncomputable def f_laws_heldFaultS_0 : Nat → List (Int × Int × Int) → Int → Int → Option (LR Int Int)
  | 0, _, _, _ => none
  | k + 1, v0, v1, v5 =>
    if decide (v5 < (↑(List.length v0) : Int)) = true then if 0 ≤ v5 then if v5 < (↑(List.length v0) : Int) then if decide (Prod.fst (List.getD v0 (Int.toNat v5) (0, 0, 0)) ≠ v1) = true then some (LR.ret (-1)) else if 0 ≤ v5 then if v5 < (↑(List.length v0) : Int) then if decide (Prod.fst (Prod.snd (List.getD v0 (Int.toNat v5) (0, 0, 0))) ≠ wrap64 (v1 + 1)) = true then some (LR.ret (-1)) else if 0 ≤ v5 then if v5 < (↑(List.length v0) : Int) then if decide (Prod.snd (Prod.snd (List.getD v0 (Int.toNat v5) (0, 0, 0))) ≠ wrap64 (wrap64 (v1 + 1) + 1)) = true then some (LR.ret (-1)) else f_laws_heldFaultS_0 k v0 (wrap64 (wrap64 (wrap64 (v1 + 1) + 1) + 1)) (wrap64 (v5 + 1)) else none else none else none else none else none else none else some (LR.go v1)
noncomputable def f_laws_heldFaultS_0i : Spec := { objs := [OSh.ro], tmps := [(0, TSh.at (Sh.snap 0 (Ty.pair (Ty.int IntKind.i64) (Ty.pair (Ty.int IntKind.i64) (Ty.int IntKind.i64))))), (1, TSh.at (Sh.int IntKind.i64)), (5, TSh.at (Sh.int IntKind.i64))] }
noncomputable def f_laws_heldFaultS_0o : Spec := { objs := [OSh.ro], tmps := [(1, TSh.at (Sh.int IntKind.i64))] }
noncomputable def f_laws_heldFaultS_0D : LoopDef (Tup r_laws_heldFaultS × OutD) := .rets f_laws_heldFaultS_0i f_laws_heldFaultS_0o (Int) (Int) (fun k x => f_laws_heldFaultS_0 k x.2.1 x.2.2.1 x.2.2.2.1) (fun z => (((), ()), (z, ()))) (fun y => (y.2.1)) (fun _ => rfl) to_laws_heldFaultS of_laws_heldFaultS to_of_laws_heldFaultS
noncomputable def f_laws_heldFaultS : Nat → List (Int × Int × Int) → Int → Option Int
  | 0, _, _ => none
  | k + 1, p0, p1 =>
    Option.bind (f_laws_heldFaultS_0 k p0 p1 0) fun z0 => LR.on z0 (fun y0 => some y0) fun r0 => some r0
noncomputable def d_laws_heldFaultS : FnDef := .of q_laws_heldFaultS r_laws_heldFaultS (Int) (fun k x => f_laws_heldFaultS k x.1 x.2.1) to_laws_heldFaultS of_laws_heldFaultS to_of_laws_heldFaultS
noncomputable def c_laws_heldFaultS : Code := Try.f27.body.getD .skip
noncomputable def x_laws_heldFaultS : Ctx (Tup r_laws_heldFaultS × OutD) := { T := T, G := [], mvs := [], no := 0, n := 40, res := resOf T q_laws_heldFaultS r_laws_heldFaultS Try.f27.results.toList, loops := [(0, f_laws_heldFaultS_0D.E)] }
theorem g_laws_heldFaultS (k : Nat) : EnvOK Try.prog k x_laws_heldFaultS.G := (EnvOK.nil mixed)
noncomputable def f_laws_heldFaultS_0B : Code := (findLoop 0 c_laws_heldFaultS).getD .skip
theorem f_laws_heldFaultS_0h (k : Nat) (x : f_laws_heldFaultS_0i.D) : f_laws_heldFaultS_0D.lp (k + 1) x = loopK x_laws_heldFaultS f_laws_heldFaultS_0D 0 f_laws_heldFaultS_0B k x := by kernel_rfl
theorem f_laws_heldFaultS_0l (k : Nat) : LOK Try.prog x_laws_heldFaultS k f_laws_heldFaultS_0B := LOK.by [] (by kernel_rfl) AllOK.nil
theorem f_laws_heldFaultS_0z (x : f_laws_heldFaultS_0i.D) : f_laws_heldFaultS_0D.lp 0 x = none := by kernel_rfl
theorem f_laws_heldFaultS_0ok (k : Nat) : EOK Try.prog x_laws_heldFaultS k f_laws_heldFaultS_0D.E (.block 0 (.loop f_laws_heldFaultS_0B)) := loop_ok T_ok g_laws_heldFaultS f_laws_heldFaultS_0z f_laws_heldFaultS_0h f_laws_heldFaultS_0l k
theorem h_laws_heldFaultS (k : Nat) (x : Tup d_laws_heldFaultS.ps) : d_laws_heldFaultS.f (k + 1) x = fnK d_laws_heldFaultS x_laws_heldFaultS c_laws_heldFaultS k x := by kernel_rfl
theorem z_laws_heldFaultS (x : Tup d_laws_heldFaultS.ps) : d_laws_heldFaultS.f 0 x = none := by kernel_rfl
theorem l_laws_heldFaultS (k : Nat) : LOK Try.prog x_laws_heldFaultS k c_laws_heldFaultS := LOK.by [(f_laws_heldFaultS_0D.E, .block 0 (.loop f_laws_heldFaultS_0B))] (by kernel_rfl) (AllOK.cons (f_laws_heldFaultS_0ok k) AllOK.nil)
theorem s_laws_heldFaultS (k : Nat) : SoundAt Try.prog k 27 d_laws_heldFaultS.E := @fn_all Try.prog d_laws_heldFaultS x_laws_heldFaultS 27 Try.f27 c_laws_heldFaultS (by kernel_rfl) (by kernel_rfl) (by kernel_rfl) Try.func27 (by kernel_rfl) (by kernel_rfl) (by kernel_rfl) T_ok g_laws_heldFaultS l_laws_heldFaultS z_laws_heldFaultS h_laws_heldFaultS k
/-! function 62 -/
noncomputable def r_laws_szCellS : List PK := [{ t := Ty.int IntKind.i64 }]
noncomputable def q_laws_szCellS : List PK := [{ t := Ty.slice 128 (Ty.pair (Ty.int IntKind.i64) (Ty.int IntKind.i64)) }, { t := Ty.int IntKind.i64 }]
noncomputable def to_laws_szCellS (r : Int) : Tup r_laws_szCellS × OutD := ((r, ()), none)
noncomputable def of_laws_szCellS : Tup r_laws_szCellS × OutD → Option (Int)
  | (a, none) => some (a.1)
  | _ => none
theorem to_of_laws_szCellS : ∀ b r, of_laws_szCellS b = some r → to_laws_szCellS r = b := by
  rintro ⟨a, o⟩ r h
  cases o with
  | none => injection h with h; subst h; rfl
  | some _ => cases h
noncomputable def f_laws_szCellS : Nat → List (Int × Int) → Int → Option Int
  | 0, _, _ => none
  | k + 1, p0, p1 =>
    if decide (wrap64 (p1 - (↑(List.length p0) : Int)) < 0) = true then some (-1) else some (wrap64 (p1 - (↑(List.length p0) : Int)))
noncomputable def d_laws_szCellS : FnDef := .of q_laws_szCellS r_laws_szCellS (Int) (fun k x => f_laws_szCellS k x.1 x.2.1) to_laws_szCellS of_laws_szCellS to_of_laws_szCellS
noncomputable def c_laws_szCellS : Code := Try.f62.body.getD .skip
noncomputable def x_laws_szCellS : Ctx (Tup r_laws_szCellS × OutD) := { T := T, G := [], mvs := [], no := 0, n := 12, res := resOf T q_laws_szCellS r_laws_szCellS Try.f62.results.toList, loops := [] }
theorem g_laws_szCellS (k : Nat) : EnvOK Try.prog k x_laws_szCellS.G := (EnvOK.nil mixed)
theorem h_laws_szCellS (k : Nat) (x : Tup d_laws_szCellS.ps) : d_laws_szCellS.f (k + 1) x = fnK d_laws_szCellS x_laws_szCellS c_laws_szCellS k x := by kernel_rfl
theorem z_laws_szCellS (x : Tup d_laws_szCellS.ps) : d_laws_szCellS.f 0 x = none := by kernel_rfl
theorem l_laws_szCellS (k : Nat) : LOK Try.prog x_laws_szCellS k c_laws_szCellS := LOK.by [] (by kernel_rfl) AllOK.nil
theorem s_laws_szCellS (k : Nat) : SoundAt Try.prog k 62 d_laws_szCellS.E := @fn_all Try.prog d_laws_szCellS x_laws_szCellS 62 Try.f62 c_laws_szCellS (by kernel_rfl) (by kernel_rfl) (by kernel_rfl) Try.func62 (by kernel_rfl) (by kernel_rfl) (by kernel_rfl) T_ok g_laws_szCellS l_laws_szCellS z_laws_szCellS h_laws_szCellS k
/-! function 66 -/
noncomputable def r_laws_toFault : List PK := [{ t := Ty.pair (Ty.int IntKind.i64) (Ty.pair (Ty.int IntKind.i64) (Ty.int IntKind.i64)), agg := true }]
noncomputable def q_laws_toFault : List PK := [{ t := Ty.pair (Ty.int IntKind.i64) (Ty.pair (Ty.int IntKind.i64) (Ty.int IntKind.i64)), agg := true }]
noncomputable def to_laws_toFault (r : Int × Int × Int) : Tup r_laws_toFault × OutD := ((r, ()), none)
noncomputable def of_laws_toFault : Tup r_laws_toFault × OutD → Option (Int × Int × Int)
  | (a, none) => some (a.1)
  | _ => none
theorem to_of_laws_toFault : ∀ b r, of_laws_toFault b = some r → to_laws_toFault r = b := by
  rintro ⟨a, o⟩ r h
  cases o with
  | none => injection h with h; subst h; rfl
  | some _ => cases h
noncomputable def f_laws_toFault : Nat → Int × Int × Int → Option (Int × Int × Int)
  | 0, _ => none
  | k + 1, p0 =>
    some (Prod.fst p0, Prod.fst (Prod.snd p0), Prod.snd (Prod.snd p0))
noncomputable def d_laws_toFault : FnDef := .of q_laws_toFault r_laws_toFault (Int × Int × Int) (fun k x => f_laws_toFault k x.1) to_laws_toFault of_laws_toFault to_of_laws_toFault
noncomputable def c_laws_toFault : Code := Try.f66.body.getD .skip
noncomputable def x_laws_toFault : Ctx (Tup r_laws_toFault × OutD) := { T := T, G := [], mvs := [], no := 0, n := 14, res := resOf T q_laws_toFault r_laws_toFault Try.f66.results.toList, loops := [] }
theorem g_laws_toFault (k : Nat) : EnvOK Try.prog k x_laws_toFault.G := (EnvOK.nil mixed)
theorem h_laws_toFault (k : Nat) (x : Tup d_laws_toFault.ps) : d_laws_toFault.f (k + 1) x = fnK d_laws_toFault x_laws_toFault c_laws_toFault k x := by kernel_rfl
theorem z_laws_toFault (x : Tup d_laws_toFault.ps) : d_laws_toFault.f 0 x = none := by kernel_rfl
theorem l_laws_toFault (k : Nat) : LOK Try.prog x_laws_toFault k c_laws_toFault := LOK.by [] (by kernel_rfl) AllOK.nil
theorem s_laws_toFault (k : Nat) : SoundAt Try.prog k 66 d_laws_toFault.E := @fn_all Try.prog d_laws_toFault x_laws_toFault 66 Try.f66 c_laws_toFault (by kernel_rfl) (by kernel_rfl) (by kernel_rfl) Try.func66 (by kernel_rfl) (by kernel_rfl) (by kernel_rfl) T_ok g_laws_toFault l_laws_toFault z_laws_toFault h_laws_toFault k
/-! function 70 -/
noncomputable def r_laws_eqFault : List PK := [{ t := Ty.bool }]
noncomputable def q_laws_eqFault : List PK := [{ t := Ty.pair (Ty.int IntKind.i64) (Ty.pair (Ty.int IntKind.i64) (Ty.int IntKind.i64)), agg := true }, { t := Ty.pair (Ty.int IntKind.i64) (Ty.pair (Ty.int IntKind.i64) (Ty.int IntKind.i64)), agg := true }]
noncomputable def to_laws_eqFault (r : Bool) : Tup r_laws_eqFault × OutD := ((r, ()), none)
noncomputable def of_laws_eqFault : Tup r_laws_eqFault × OutD → Option (Bool)
  | (a, none) => some (a.1)
  | _ => none
theorem to_of_laws_eqFault : ∀ b r, of_laws_eqFault b = some r → to_laws_eqFault r = b := by
  rintro ⟨a, o⟩ r h
  cases o with
  | none => injection h with h; subst h; rfl
  | some _ => cases h
noncomputable def f_laws_eqFault : Nat → Int × Int × Int → Int × Int × Int → Option Bool
  | 0, _, _ => none
  | k + 1, p0, p1 =>
    if decide (Prod.fst p0 ≠ Prod.fst p1) = true then some false else if decide (Prod.fst (Prod.snd p0) ≠ Prod.fst (Prod.snd p1)) = true then some false else if decide (Prod.snd (Prod.snd p0) ≠ Prod.snd (Prod.snd p1)) = true then some false else some true
noncomputable def d_laws_eqFault : FnDef := .of q_laws_eqFault r_laws_eqFault (Bool) (fun k x => f_laws_eqFault k x.1 x.2.1) to_laws_eqFault of_laws_eqFault to_of_laws_eqFault
noncomputable def c_laws_eqFault : Code := Try.f70.body.getD .skip
noncomputable def x_laws_eqFault : Ctx (Tup r_laws_eqFault × OutD) := { T := T, G := [], mvs := [], no := 0, n := 20, res := resOf T q_laws_eqFault r_laws_eqFault Try.f70.results.toList, loops := [] }
theorem g_laws_eqFault (k : Nat) : EnvOK Try.prog k x_laws_eqFault.G := (EnvOK.nil mixed)
theorem h_laws_eqFault (k : Nat) (x : Tup d_laws_eqFault.ps) : d_laws_eqFault.f (k + 1) x = fnK d_laws_eqFault x_laws_eqFault c_laws_eqFault k x := by kernel_rfl
theorem z_laws_eqFault (x : Tup d_laws_eqFault.ps) : d_laws_eqFault.f 0 x = none := by kernel_rfl
theorem l_laws_eqFault (k : Nat) : LOK Try.prog x_laws_eqFault k c_laws_eqFault := LOK.by [] (by kernel_rfl) AllOK.nil
theorem s_laws_eqFault (k : Nat) : SoundAt Try.prog k 70 d_laws_eqFault.E := @fn_all Try.prog d_laws_eqFault x_laws_eqFault 70 Try.f70 c_laws_eqFault (by kernel_rfl) (by kernel_rfl) (by kernel_rfl) Try.func70 (by kernel_rfl) (by kernel_rfl) (by kernel_rfl) T_ok g_laws_eqFault l_laws_eqFault z_laws_eqFault h_laws_eqFault k
/-! function 73 -/
noncomputable def r_laws_markCellS : List PK := [{ t := Ty.int IntKind.i64 }]
noncomputable def q_laws_markCellS : List PK := [{ t := Ty.slice 123 (Ty.pair (Ty.int IntKind.i64) (Ty.int IntKind.i64)), own := some (0, 123, Ty.pair (Ty.int IntKind.i64) (Ty.int IntKind.i64)) }, { t := Ty.int IntKind.i64 }]
noncomputable def to_laws_markCellS (r : Int × List (Int × Int)) : Tup r_laws_markCellS × OutD := ((r.1, ()), some ⟨Ty.pair (Ty.int IntKind.i64) (Ty.int IntKind.i64), r.2⟩)
noncomputable def of_laws_markCellS : Tup r_laws_markCellS × OutD → Option (Int × List (Int × Int))
  | (a, some ⟨u, ys⟩) => if h : u = Ty.pair (Ty.int IntKind.i64) (Ty.int IntKind.i64) then some (a.1, castU h ys) else none
  | _ => none
theorem to_of_laws_markCellS : ∀ b r, of_laws_markCellS b = some r → to_laws_markCellS r = b := by
  rintro ⟨a, o⟩ r h
  cases o with
  | none => cases h
  | some s =>
    obtain ⟨u, ys⟩ := s
    simp only [of_laws_markCellS] at h
    split at h
    · rename_i hu; subst hu; injection h with h; subst h; rfl
    · cases h
noncomputable def f_laws_markCellS_0 : Nat → List (Int × Int) → Int → Int → Option (List (Int × Int) × Int)
  | 0, _, _, _ => none
  | k + 1, o1, v1, v5 =>
    if decide (v5 < (↑(List.length o1) : Int)) = true then if 0 ≤ v5 then if v5 < (↑(List.length o1) : Int) then if 0 ≤ v5 then if v5 < (↑(List.length (List.set o1 (Int.toNat v5) (v1, Prod.snd (List.getD o1 (Int.toNat v5) (0, 0))))) : Int) then f_laws_markCellS_0 k (List.set (List.set o1 (Int.toNat v5) (v1, Prod.snd (List.getD o1 (Int.toNat v5) (0, 0)))) (Int.toNat v5) (Prod.fst (List.getD (List.set o1 (Int.toNat v5) (v1, Prod.snd (List.getD o1 (Int.toNat v5) (0, 0)))) (Int.toNat v5) (0, 0)), wrap64 (v1 + 1))) (wrap64 (wrap64 (v1 + 1) + 1)) (wrap64 (v5 + 1)) else none else none else none else none else some (o1, v1)
noncomputable def f_laws_markCellS_0i : Spec := { objs := [OSh.ro, OSh.row false 123 (Ty.pair (Ty.int IntKind.i64) (Ty.int IntKind.i64))], tmps := [(0, TSh.at (Sh.sl 1)), (1, TSh.at (Sh.int IntKind.i64)), (5, TSh.at (Sh.int IntKind.i64))] }
noncomputable def f_laws_markCellS_0o : Spec := { objs := [OSh.ro, OSh.row false 123 (Ty.pair (Ty.int IntKind.i64) (Ty.int IntKind.i64))], tmps := [(1, TSh.at (Sh.int IntKind.i64))] }
noncomputable def f_laws_markCellS_0D : LoopDef (Tup r_laws_markCellS × OutD) := .plain f_laws_markCellS_0i f_laws_markCellS_0o (List (Int × Int) × Int) (fun k x => f_laws_markCellS_0 k x.1.2.1 x.2.2.1 x.2.2.2.1) (fun z => (((), z.1, ()), (z.2, ()))) (fun y => (y.1.2.1, y.2.1)) (fun _ => rfl)
noncomputable def f_laws_markCellS : Nat → List (Int × Int) → Int → Option (Int × List (Int × Int))
  | 0, _, _ => none
  | k + 1, p0, p1 =>
    Option.bind (f_laws_markCellS_0 k p0 p1 0) fun z0 => some (Prod.snd z0, Prod.fst z0)
noncomputable def d_laws_markCellS : FnDef := .of q_laws_markCellS r_laws_markCellS (Int × List (Int × Int)) (fun k x => f_laws_markCellS k x.1 x.2.1) to_laws_markCellS of_laws_markCellS to_of_laws_markCellS
noncomputable def c_laws_markCellS : Code := Try.f73.body.getD .skip
noncomputable def x_laws_markCellS : Ctx (Tup r_laws_markCellS × OutD) := { T := T, G := [], mvs := [], no := 1, n := 27, res := resOf T q_laws_markCellS r_laws_markCellS Try.f73.results.toList, loops := [(0, f_laws_markCellS_0D.E)] }
theorem g_laws_markCellS (k : Nat) : EnvOK Try.prog k x_laws_markCellS.G := (EnvOK.nil mixed)
noncomputable def f_laws_markCellS_0B : Code := (findLoop 0 c_laws_markCellS).getD .skip
theorem f_laws_markCellS_0h (k : Nat) (x : f_laws_markCellS_0i.D) : f_laws_markCellS_0D.lp (k + 1) x = loopK x_laws_markCellS f_laws_markCellS_0D 0 f_laws_markCellS_0B k x := by kernel_rfl
theorem f_laws_markCellS_0l (k : Nat) : LOK Try.prog x_laws_markCellS k f_laws_markCellS_0B := LOK.by [] (by kernel_rfl) AllOK.nil
theorem f_laws_markCellS_0z (x : f_laws_markCellS_0i.D) : f_laws_markCellS_0D.lp 0 x = none := by kernel_rfl
theorem f_laws_markCellS_0ok (k : Nat) : EOK Try.prog x_laws_markCellS k f_laws_markCellS_0D.E (.block 0 (.loop f_laws_markCellS_0B)) := loop_ok T_ok g_laws_markCellS f_laws_markCellS_0z f_laws_markCellS_0h f_laws_markCellS_0l k
theorem h_laws_markCellS (k : Nat) (x : Tup d_laws_markCellS.ps) : d_laws_markCellS.f (k + 1) x = fnK d_laws_markCellS x_laws_markCellS c_laws_markCellS k x := by kernel_rfl
theorem z_laws_markCellS (x : Tup d_laws_markCellS.ps) : d_laws_markCellS.f 0 x = none := by kernel_rfl
theorem l_laws_markCellS (k : Nat) : LOK Try.prog x_laws_markCellS k c_laws_markCellS := LOK.by [(f_laws_markCellS_0D.E, .block 0 (.loop f_laws_markCellS_0B))] (by kernel_rfl) (AllOK.cons (f_laws_markCellS_0ok k) AllOK.nil)
theorem s_laws_markCellS (k : Nat) : SoundAt Try.prog k 73 d_laws_markCellS.E := @fn_all Try.prog d_laws_markCellS x_laws_markCellS 73 Try.f73 c_laws_markCellS (by kernel_rfl) (by kernel_rfl) (by kernel_rfl) Try.func73 (by kernel_rfl) (by kernel_rfl) (by kernel_rfl) T_ok g_laws_markCellS l_laws_markCellS z_laws_markCellS h_laws_markCellS k
/-! function 110 -/
noncomputable def r_spec_l1In : List PK := [{ t := Ty.bool }]
noncomputable def q_spec_l1In : List PK := [{ t := Ty.int IntKind.i64 }, { t := Ty.int IntKind.i64 }, { t := Ty.int IntKind.i64 }]
noncomputable def to_spec_l1In (r : Bool) : Tup r_spec_l1In × OutD := ((r, ()), none)
noncomputable def of_spec_l1In : Tup r_spec_l1In × OutD → Option (Bool)
  | (a, none) => some (a.1)
  | _ => none
theorem to_of_spec_l1In : ∀ b r, of_spec_l1In b = some r → to_spec_l1In r = b := by
  rintro ⟨a, o⟩ r h
  cases o with
  | none => injection h with h; subst h; rfl
  | some _ => cases h
noncomputable def f_spec_l1In : Nat → Int → Int → Int → Option Bool
  | 0, _, _, _ => none
  | k + 1, p0, p1, p2 =>
    if decide (p0 ≥ p1) = true then some (decide (p0 ≤ p2)) else some false
noncomputable def d_spec_l1In : FnDef := .of q_spec_l1In r_spec_l1In (Bool) (fun k x => f_spec_l1In k x.1 x.2.1 x.2.2.1) to_spec_l1In of_spec_l1In to_of_spec_l1In
noncomputable def c_spec_l1In : Code := Try.f110.body.getD .skip
noncomputable def x_spec_l1In : Ctx (Tup r_spec_l1In × OutD) := { T := T, G := [], mvs := [], no := 0, n := 15, res := resOf T q_spec_l1In r_spec_l1In Try.f110.results.toList, loops := [] }
theorem g_spec_l1In (k : Nat) : EnvOK Try.prog k x_spec_l1In.G := (EnvOK.nil mixed)
theorem h_spec_l1In (k : Nat) (x : Tup d_spec_l1In.ps) : d_spec_l1In.f (k + 1) x = fnK d_spec_l1In x_spec_l1In c_spec_l1In k x := by kernel_rfl
theorem z_spec_l1In (x : Tup d_spec_l1In.ps) : d_spec_l1In.f 0 x = none := by kernel_rfl
theorem l_spec_l1In (k : Nat) : LOK Try.prog x_spec_l1In k c_spec_l1In := LOK.by [] (by kernel_rfl) AllOK.nil
theorem s_spec_l1In (k : Nat) : SoundAt Try.prog k 110 d_spec_l1In.E := @fn_all Try.prog d_spec_l1In x_spec_l1In 110 Try.f110 c_spec_l1In (by kernel_rfl) (by kernel_rfl) (by kernel_rfl) Try.func110 (by kernel_rfl) (by kernel_rfl) (by kernel_rfl) T_ok g_spec_l1In l_spec_l1In z_spec_l1In h_spec_l1In k
/-! function 113 -/
noncomputable def r_spec_boAt : List PK := [{ t := Ty.pair (Ty.int IntKind.i64) (Ty.int IntKind.i64), agg := true }]
noncomputable def q_spec_boAt : List PK := [{ t := Ty.pair (Ty.int IntKind.i64) (Ty.pair (Ty.int IntKind.i64) (Ty.slice 123 (Ty.pair (Ty.int IntKind.i64) (Ty.int IntKind.i64)))), agg := true }, { t := Ty.int IntKind.i64 }, { t := Ty.int IntKind.i64 }]
noncomputable def to_spec_boAt (r : Int × Int) : Tup r_spec_boAt × OutD := ((r, ()), none)
noncomputable def of_spec_boAt : Tup r_spec_boAt × OutD → Option (Int × Int)
  | (a, none) => some (a.1)
  | _ => none
theorem to_of_spec_boAt : ∀ b r, of_spec_boAt b = some r → to_spec_boAt r = b := by
  rintro ⟨a, o⟩ r h
  cases o with
  | none => injection h with h; subst h; rfl
  | some _ => cases h
noncomputable def f_spec_boAt : Nat → Int × Int × List (Int × Int) → Int → Int → Option (Int × Int)
  | 0, _, _, _ => none
  | k + 1, p0, p1, p2 =>
    if 0 ≤ wrap64 (wrap64 (p1 * Prod.fst (Prod.snd p0)) + p2) then if wrap64 (wrap64 (p1 * Prod.fst (Prod.snd p0)) + p2) < (↑(List.length (Prod.snd (Prod.snd p0))) : Int) then some (Prod.fst (List.getD (Prod.snd (Prod.snd p0)) (Int.toNat (wrap64 (wrap64 (p1 * Prod.fst (Prod.snd p0)) + p2))) (0, 0)), Prod.snd (List.getD (Prod.snd (Prod.snd p0)) (Int.toNat (wrap64 (wrap64 (p1 * Prod.fst (Prod.snd p0)) + p2))) (0, 0))) else none else none
noncomputable def d_spec_boAt : FnDef := .of q_spec_boAt r_spec_boAt (Int × Int) (fun k x => f_spec_boAt k x.1 x.2.1 x.2.2.1) to_spec_boAt of_spec_boAt to_of_spec_boAt
noncomputable def c_spec_boAt : Code := Try.f113.body.getD .skip
noncomputable def x_spec_boAt : Ctx (Tup r_spec_boAt × OutD) := { T := T, G := [], mvs := [], no := 0, n := 17, res := resOf T q_spec_boAt r_spec_boAt Try.f113.results.toList, loops := [] }
theorem g_spec_boAt (k : Nat) : EnvOK Try.prog k x_spec_boAt.G := (EnvOK.nil mixed)
theorem h_spec_boAt (k : Nat) (x : Tup d_spec_boAt.ps) : d_spec_boAt.f (k + 1) x = fnK d_spec_boAt x_spec_boAt c_spec_boAt k x := by kernel_rfl
theorem z_spec_boAt (x : Tup d_spec_boAt.ps) : d_spec_boAt.f 0 x = none := by kernel_rfl
theorem l_spec_boAt (k : Nat) : LOK Try.prog x_spec_boAt k c_spec_boAt := LOK.by [] (by kernel_rfl) AllOK.nil
theorem s_spec_boAt (k : Nat) : SoundAt Try.prog k 113 d_spec_boAt.E := @fn_all Try.prog d_spec_boAt x_spec_boAt 113 Try.f113 c_spec_boAt (by kernel_rfl) (by kernel_rfl) (by kernel_rfl) Try.func113 (by kernel_rfl) (by kernel_rfl) (by kernel_rfl) T_ok g_spec_boAt l_spec_boAt z_spec_boAt h_spec_boAt k
/-! function 114 -/
noncomputable def r_laws_toCell : List PK := [{ t := Ty.pair (Ty.int IntKind.i64) (Ty.int IntKind.i64), agg := true }]
noncomputable def q_laws_toCell : List PK := [{ t := Ty.pair (Ty.int IntKind.i64) (Ty.int IntKind.i64), agg := true }]
noncomputable def to_laws_toCell (r : Int × Int) : Tup r_laws_toCell × OutD := ((r, ()), none)
noncomputable def of_laws_toCell : Tup r_laws_toCell × OutD → Option (Int × Int)
  | (a, none) => some (a.1)
  | _ => none
theorem to_of_laws_toCell : ∀ b r, of_laws_toCell b = some r → to_laws_toCell r = b := by
  rintro ⟨a, o⟩ r h
  cases o with
  | none => injection h with h; subst h; rfl
  | some _ => cases h
noncomputable def f_laws_toCell : Nat → Int × Int → Option (Int × Int)
  | 0, _ => none
  | k + 1, p0 =>
    some (Prod.fst p0, Prod.snd p0)
noncomputable def d_laws_toCell : FnDef := .of q_laws_toCell r_laws_toCell (Int × Int) (fun k x => f_laws_toCell k x.1) to_laws_toCell of_laws_toCell to_of_laws_toCell
noncomputable def c_laws_toCell : Code := Try.f114.body.getD .skip
noncomputable def x_laws_toCell : Ctx (Tup r_laws_toCell × OutD) := { T := T, G := [], mvs := [], no := 0, n := 11, res := resOf T q_laws_toCell r_laws_toCell Try.f114.results.toList, loops := [] }
theorem g_laws_toCell (k : Nat) : EnvOK Try.prog k x_laws_toCell.G := (EnvOK.nil mixed)
theorem h_laws_toCell (k : Nat) (x : Tup d_laws_toCell.ps) : d_laws_toCell.f (k + 1) x = fnK d_laws_toCell x_laws_toCell c_laws_toCell k x := by kernel_rfl
theorem z_laws_toCell (x : Tup d_laws_toCell.ps) : d_laws_toCell.f 0 x = none := by kernel_rfl
theorem l_laws_toCell (k : Nat) : LOK Try.prog x_laws_toCell k c_laws_toCell := LOK.by [] (by kernel_rfl) AllOK.nil
theorem s_laws_toCell (k : Nat) : SoundAt Try.prog k 114 d_laws_toCell.E := @fn_all Try.prog d_laws_toCell x_laws_toCell 114 Try.f114 c_laws_toCell (by kernel_rfl) (by kernel_rfl) (by kernel_rfl) Try.func114 (by kernel_rfl) (by kernel_rfl) (by kernel_rfl) T_ok g_laws_toCell l_laws_toCell z_laws_toCell h_laws_toCell k
/-! function 118 -/
noncomputable def r_laws_eqCell : List PK := [{ t := Ty.bool }]
noncomputable def q_laws_eqCell : List PK := [{ t := Ty.pair (Ty.int IntKind.i64) (Ty.int IntKind.i64), agg := true }, { t := Ty.pair (Ty.int IntKind.i64) (Ty.int IntKind.i64), agg := true }]
noncomputable def to_laws_eqCell (r : Bool) : Tup r_laws_eqCell × OutD := ((r, ()), none)
noncomputable def of_laws_eqCell : Tup r_laws_eqCell × OutD → Option (Bool)
  | (a, none) => some (a.1)
  | _ => none
theorem to_of_laws_eqCell : ∀ b r, of_laws_eqCell b = some r → to_laws_eqCell r = b := by
  rintro ⟨a, o⟩ r h
  cases o with
  | none => injection h with h; subst h; rfl
  | some _ => cases h
noncomputable def f_laws_eqCell : Nat → Int × Int → Int × Int → Option Bool
  | 0, _, _ => none
  | k + 1, p0, p1 =>
    if decide (Prod.fst p0 ≠ Prod.fst p1) = true then some false else if decide (Prod.snd p0 ≠ Prod.snd p1) = true then some false else some true
noncomputable def d_laws_eqCell : FnDef := .of q_laws_eqCell r_laws_eqCell (Bool) (fun k x => f_laws_eqCell k x.1 x.2.1) to_laws_eqCell of_laws_eqCell to_of_laws_eqCell
noncomputable def c_laws_eqCell : Code := Try.f118.body.getD .skip
noncomputable def x_laws_eqCell : Ctx (Tup r_laws_eqCell × OutD) := { T := T, G := [], mvs := [], no := 0, n := 15, res := resOf T q_laws_eqCell r_laws_eqCell Try.f118.results.toList, loops := [] }
theorem g_laws_eqCell (k : Nat) : EnvOK Try.prog k x_laws_eqCell.G := (EnvOK.nil mixed)
theorem h_laws_eqCell (k : Nat) (x : Tup d_laws_eqCell.ps) : d_laws_eqCell.f (k + 1) x = fnK d_laws_eqCell x_laws_eqCell c_laws_eqCell k x := by kernel_rfl
theorem z_laws_eqCell (x : Tup d_laws_eqCell.ps) : d_laws_eqCell.f 0 x = none := by kernel_rfl
theorem l_laws_eqCell (k : Nat) : LOK Try.prog x_laws_eqCell k c_laws_eqCell := LOK.by [] (by kernel_rfl) AllOK.nil
theorem s_laws_eqCell (k : Nat) : SoundAt Try.prog k 118 d_laws_eqCell.E := @fn_all Try.prog d_laws_eqCell x_laws_eqCell 118 Try.f118 c_laws_eqCell (by kernel_rfl) (by kernel_rfl) (by kernel_rfl) Try.func118 (by kernel_rfl) (by kernel_rfl) (by kernel_rfl) T_ok g_laws_eqCell l_laws_eqCell z_laws_eqCell h_laws_eqCell k
/-! function 135 -/
noncomputable def r_spec_paTurning : List PK := [{ t := Ty.bool }]
noncomputable def q_spec_paTurning : List PK := [{ t := Ty.pair (Ty.int IntKind.i64) (Ty.int IntKind.i64), agg := true }]
noncomputable def to_spec_paTurning (r : Bool) : Tup r_spec_paTurning × OutD := ((r, ()), none)
noncomputable def of_spec_paTurning : Tup r_spec_paTurning × OutD → Option (Bool)
  | (a, none) => some (a.1)
  | _ => none
theorem to_of_spec_paTurning : ∀ b r, of_spec_paTurning b = some r → to_spec_paTurning r = b := by
  rintro ⟨a, o⟩ r h
  cases o with
  | none => injection h with h; subst h; rfl
  | some _ => cases h
noncomputable def f_spec_paTurning : Nat → Int × Int → Option Bool
  | 0, _ => none
  | k + 1, p0 =>
    if decide (Prod.fst p0 = 3) = true then some true else some (decide (Prod.fst p0 = 6))
noncomputable def d_spec_paTurning : FnDef := .of q_spec_paTurning r_spec_paTurning (Bool) (fun k x => f_spec_paTurning k x.1) to_spec_paTurning of_spec_paTurning to_of_spec_paTurning
noncomputable def c_spec_paTurning : Code := Try.f135.body.getD .skip
noncomputable def x_spec_paTurning : Ctx (Tup r_spec_paTurning × OutD) := { T := T, G := [], mvs := [], no := 0, n := 11, res := resOf T q_spec_paTurning r_spec_paTurning Try.f135.results.toList, loops := [] }
theorem g_spec_paTurning (k : Nat) : EnvOK Try.prog k x_spec_paTurning.G := (EnvOK.nil mixed)
theorem h_spec_paTurning (k : Nat) (x : Tup d_spec_paTurning.ps) : d_spec_paTurning.f (k + 1) x = fnK d_spec_paTurning x_spec_paTurning c_spec_paTurning k x := by kernel_rfl
theorem z_spec_paTurning (x : Tup d_spec_paTurning.ps) : d_spec_paTurning.f 0 x = none := by kernel_rfl
theorem l_spec_paTurning (k : Nat) : LOK Try.prog x_spec_paTurning k c_spec_paTurning := LOK.by [] (by kernel_rfl) AllOK.nil
theorem s_spec_paTurning (k : Nat) : SoundAt Try.prog k 135 d_spec_paTurning.E := @fn_all Try.prog d_spec_paTurning x_spec_paTurning 135 Try.f135 c_spec_paTurning (by kernel_rfl) (by kernel_rfl) (by kernel_rfl) Try.func135 (by kernel_rfl) (by kernel_rfl) (by kernel_rfl) T_ok g_spec_paTurning l_spec_paTurning z_spec_paTurning h_spec_paTurning k
/-! function 136 -/
noncomputable def r_impl_IsCell : List PK := [{ t := Ty.bool }]
noncomputable def q_impl_IsCell : List PK := [{ t := Ty.pair (Ty.int IntKind.i64) (Ty.int IntKind.i64), agg := true }]
noncomputable def to_impl_IsCell (r : Bool) : Tup r_impl_IsCell × OutD := ((r, ()), none)
noncomputable def of_impl_IsCell : Tup r_impl_IsCell × OutD → Option (Bool)
  | (a, none) => some (a.1)
  | _ => none
theorem to_of_impl_IsCell : ∀ b r, of_impl_IsCell b = some r → to_impl_IsCell r = b := by
  rintro ⟨a, o⟩ r h
  cases o with
  | none => injection h with h; subst h; rfl
  | some _ => cases h
noncomputable def f_impl_IsCell : Nat → Int × Int → Option Bool
  | 0, _ => none
  | k + 1, p0 =>
    if decide (Prod.fst p0 < 0) = true then some false else if decide (Prod.fst p0 > 7) = true then some false else if decide (Prod.snd p0 < 0) = true then some false else if decide (Prod.snd p0 > 1) = true then some false else if decide (Prod.snd p0 = 0) = true then some true else if decide (Prod.fst p0 = 3) = true then some true else some (decide (Prod.fst p0 = 6))
noncomputable def d_impl_IsCell : FnDef := .of q_impl_IsCell r_impl_IsCell (Bool) (fun k x => f_impl_IsCell k x.1) to_impl_IsCell of_impl_IsCell to_of_impl_IsCell
noncomputable def c_impl_IsCell : Code := Try.f136.body.getD .skip
noncomputable def x_impl_IsCell : Ctx (Tup r_impl_IsCell × OutD) := { T := T, G := [], mvs := [], no := 0, n := 34, res := resOf T q_impl_IsCell r_impl_IsCell Try.f136.results.toList, loops := [] }
theorem g_impl_IsCell (k : Nat) : EnvOK Try.prog k x_impl_IsCell.G := (EnvOK.nil mixed)
theorem h_impl_IsCell (k : Nat) (x : Tup d_impl_IsCell.ps) : d_impl_IsCell.f (k + 1) x = fnK d_impl_IsCell x_impl_IsCell c_impl_IsCell k x := by kernel_rfl
theorem z_impl_IsCell (x : Tup d_impl_IsCell.ps) : d_impl_IsCell.f 0 x = none := by kernel_rfl
theorem l_impl_IsCell (k : Nat) : LOK Try.prog x_impl_IsCell k c_impl_IsCell := LOK.by [] (by kernel_rfl) AllOK.nil
theorem s_impl_IsCell (k : Nat) : SoundAt Try.prog k 136 d_impl_IsCell.E := @fn_all Try.prog d_impl_IsCell x_impl_IsCell 136 Try.f136 c_impl_IsCell (by kernel_rfl) (by kernel_rfl) (by kernel_rfl) Try.func136 (by kernel_rfl) (by kernel_rfl) (by kernel_rfl) T_ok g_impl_IsCell l_impl_IsCell z_impl_IsCell h_impl_IsCell k
end
end Go.Proofs.Ytkefbmaagdaodaa.Vs
