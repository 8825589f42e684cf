/- The proof, part 5. -/
import Derived.Test.Ytgpmbmnfcbippaaqbfm3
set_option maxRecDepth 100000
set_option maxHeartbeats 2000000
set_option linter.unusedVariables false
set_option linter.unusedSimpArgs false
namespace Go.Proofs.Ytgpmbmnfcbippaa.Vs
open Go.RowKit
noncomputable section
/-! function 13 -/
noncomputable def r_laws_szBoard : List PK := [{ t := Ty.int IntKind.i64 }]
noncomputable def q_laws_szBoard : List PK := [{ t := Ty.pair (Ty.int IntKind.i64) (Ty.pair (Ty.int IntKind.i64) (Ty.slice (118 : Nat) (Ty.pair (Ty.int IntKind.i64) (Ty.int IntKind.i64)))), agg := true }, { t := Ty.int IntKind.i64 }]
noncomputable def to_laws_szBoard (r : Int) : Tup r_laws_szBoard × OutD := ((r, ()), none)
noncomputable def of_laws_szBoard : Tup r_laws_szBoard × OutD → Option (Int)
  | (a, none) => some (a.1)
  | _ => none
theorem to_of_laws_szBoard : ∀ b r, of_laws_szBoard b = some r → to_laws_szBoard r = b := by
  rintro ⟨a, o⟩ r h
  cases o with
  | none => injection h with h; subst h; rfl
  | some _ => cases h
noncomputable def f_laws_szBoard : Nat → Int × Int × List (Int × Int) → Int → Option Int
  | 0, _, _ => none
  | k + 1, p0, p1 =>
    Option.bind (f_laws_szCellS k (Prod.snd (Prod.snd p0)) p1) fun z0 => if decide (z0 < (0 : Int)) = true then some (-1 : Int) else some z0
noncomputable def d_laws_szBoard : FnDef := .of q_laws_szBoard r_laws_szBoard (Int) (fun k x => f_laws_szBoard k x.1 x.2.1) to_laws_szBoard of_laws_szBoard to_of_laws_szBoard
noncomputable def c_laws_szBoard : Code := Try.f13.body.getD .skip
noncomputable def x_laws_szBoard : Ctx (Tup r_laws_szBoard × OutD) := { T := T, G := [(60, d_laws_szCellS.E)], mvs := [], no := 0, n := 12, res := resOf T q_laws_szBoard r_laws_szBoard Try.f13.results.toList, loops := [], regs := [], conds := [] }
theorem g_laws_szBoard (k : Nat) : EnvOK Try.prog k x_laws_szBoard.G := (EnvOK.cons (s_laws_szCellS k) (EnvOK.nil mixed))
theorem h_laws_szBoard (k : Nat) (x : Tup d_laws_szBoard.ps) : d_laws_szBoard.f (k + 1) x = fnK d_laws_szBoard x_laws_szBoard c_laws_szBoard k x := by kernel_rfl
theorem z_laws_szBoard (x : Tup d_laws_szBoard.ps) : d_laws_szBoard.f 0 x = none := by kernel_rfl
theorem l_laws_szBoard (k : Nat) : LOK Try.prog x_laws_szBoard k c_laws_szBoard := LOK.by [] (by kernel_rfl) AllOK.nil
theorem s_laws_szBoard (k : Nat) : SoundAt Try.prog k 13 d_laws_szBoard.E := @fn_all Try.prog d_laws_szBoard x_laws_szBoard 13 Try.f13 c_laws_szBoard (by kernel_rfl) (by kernel_rfl) (by kernel_rfl) Try.func13 (by kernel_rfl) (by kernel_rfl) (by kernel_rfl) T_ok g_laws_szBoard l_laws_szBoard z_laws_szBoard h_laws_szBoard k
/-! function 18 -/
/-! function 21 -/
/-! function 27 -/
/-! function 29 -/
/-! function 33 -/
noncomputable def r_laws_eqIntSS : List PK := [{ t := Ty.bool }]
noncomputable def q_laws_eqIntSS : List PK := [{ t := Ty.slice (25 : Nat) (Ty.slice (3 : Nat) (Ty.int IntKind.i64)) }, { t := Ty.slice (25 : Nat) (Ty.slice (3 : Nat) (Ty.int IntKind.i64)) }]
noncomputable def to_laws_eqIntSS (r : Bool) : Tup r_laws_eqIntSS × OutD := ((r, ()), none)
noncomputable def of_laws_eqIntSS : Tup r_laws_eqIntSS × OutD → Option (Bool)
  | (a, none) => some (a.1)
  | _ => none
theorem to_of_laws_eqIntSS : ∀ b r, of_laws_eqIntSS b = some r → to_laws_eqIntSS r = b := by
  rintro ⟨a, o⟩ r h
  cases o with
  | none => injection h with h; subst h; rfl
  | some _ => cases h
noncomputable def f_laws_eqIntSS_0 : Nat → List (List Int) → List (List Int) → Int → Option (LR Unit Bool)
  | 0, _, _, _ => none
  | k + 1, v0, v1, v5 =>
    if decide (v5 < (↑(List.length v0) : Int)) = true then if (0 : Int) ≤ v5 then if v5 < (↑(List.length v0) : Int) then if (0 : Int) ≤ v5 then if v5 < (↑(List.length v1) : Int) then Option.bind (f_laws_eqIntS k (List.getD v0 (Int.toNat v5) []) (List.getD v1 (Int.toNat v5) [])) fun z0 => if (!z0) = true then some (LR.ret false) else f_laws_eqIntSS_0 k v0 v1 (wrap64 (v5 + (1 : Int))) else none else none else none else none else some (LR.go ())
noncomputable def f_laws_eqIntSS_0i : Spec := { objs := [OSh.ro], tmps := [((0 : Nat), TSh.at (Sh.snap (0 : Nat) (Ty.slice (3 : Nat) (Ty.int IntKind.i64)))), ((1 : Nat), TSh.at (Sh.snap (0 : Nat) (Ty.slice (3 : Nat) (Ty.int IntKind.i64)))), ((5 : Nat), TSh.at (Sh.int IntKind.i64))] }
noncomputable def f_laws_eqIntSS_0o : Spec := { objs := [OSh.ro], tmps := [] }
noncomputable def f_laws_eqIntSS_0D : LoopDef (Tup r_laws_eqIntSS × OutD) := .rets f_laws_eqIntSS_0i f_laws_eqIntSS_0o (Unit) (Bool) (fun k x => f_laws_eqIntSS_0 k x.2.1 x.2.2.1 x.2.2.2.1) (fun z => (((), ()), (()))) (fun y => ()) (fun _ => rfl) to_laws_eqIntSS of_laws_eqIntSS to_of_laws_eqIntSS
noncomputable def f_laws_eqIntSS : Nat → List (List Int) → List (List Int) → Option Bool
  | 0, _, _ => none
  | k + 1, p0, p1 =>
    if decide ((↑(List.length p0) : Int) ≠ (↑(List.length p1) : Int)) = true then some false else Option.bind (f_laws_eqIntSS_0 k p0 p1 (0 : Int)) fun z1 => LR.on z1 (fun y1 => some true) fun r1 => some r1
noncomputable def d_laws_eqIntSS : FnDef := .of q_laws_eqIntSS r_laws_eqIntSS (Bool) (fun k x => f_laws_eqIntSS k x.1 x.2.1) to_laws_eqIntSS of_laws_eqIntSS to_of_laws_eqIntSS
noncomputable def c_laws_eqIntSS : Code := Try.f33.body.getD .skip
noncomputable def x_laws_eqIntSS : Ctx (Tup r_laws_eqIntSS × OutD) := { T := T, G := [(20, d_laws_eqIntS.E)], mvs := [], no := 0, n := 27, res := resOf T q_laws_eqIntSS r_laws_eqIntSS Try.f33.results.toList, loops := [(0, f_laws_eqIntSS_0D.E)], regs := [], conds := [] }
theorem g_laws_eqIntSS (k : Nat) : EnvOK Try.prog k x_laws_eqIntSS.G := (EnvOK.cons (s_laws_eqIntS k) (EnvOK.nil mixed))
noncomputable def f_laws_eqIntSS_0B : Code := (findLoop 0 c_laws_eqIntSS).getD .skip
theorem f_laws_eqIntSS_0h (k : Nat) (x : f_laws_eqIntSS_0i.D) : f_laws_eqIntSS_0D.lp (k + 1) x = loopK x_laws_eqIntSS f_laws_eqIntSS_0D 0 f_laws_eqIntSS_0B k x := by kernel_rfl
theorem f_laws_eqIntSS_0l (k : Nat) : LOK Try.prog x_laws_eqIntSS k f_laws_eqIntSS_0B := LOK.by [] (by kernel_rfl) AllOK.nil
theorem f_laws_eqIntSS_0z (x : f_laws_eqIntSS_0i.D) : f_laws_eqIntSS_0D.lp 0 x = none := by kernel_rfl
theorem f_laws_eqIntSS_0ok (k : Nat) : EOK Try.prog x_laws_eqIntSS k f_laws_eqIntSS_0D.E (.block 0 (.loop f_laws_eqIntSS_0B)) := loop_ok T_ok g_laws_eqIntSS f_laws_eqIntSS_0z f_laws_eqIntSS_0h f_laws_eqIntSS_0l k
theorem h_laws_eqIntSS (k : Nat) (x : Tup d_laws_eqIntSS.ps) : d_laws_eqIntSS.f (k + 1) x = fnK d_laws_eqIntSS x_laws_eqIntSS c_laws_eqIntSS k x := by kernel_rfl
theorem z_laws_eqIntSS (x : Tup d_laws_eqIntSS.ps) : d_laws_eqIntSS.f 0 x = none := by kernel_rfl
theorem l_laws_eqIntSS (k : Nat) : LOK Try.prog x_laws_eqIntSS k c_laws_eqIntSS := LOK.by [(f_laws_eqIntSS_0D.E, .block 0 (.loop f_laws_eqIntSS_0B))] (by kernel_rfl) (AllOK.cons (f_laws_eqIntSS_0ok k) AllOK.nil)
theorem s_laws_eqIntSS (k : Nat) : SoundAt Try.prog k 33 d_laws_eqIntSS.E := @fn_all Try.prog d_laws_eqIntSS x_laws_eqIntSS 33 Try.f33 c_laws_eqIntSS (by kernel_rfl) (by kernel_rfl) (by kernel_rfl) Try.func33 (by kernel_rfl) (by kernel_rfl) (by kernel_rfl) T_ok g_laws_eqIntSS l_laws_eqIntSS z_laws_eqIntSS h_laws_eqIntSS k
/-! function 34 -/
/-! function 35 -/
/-! function 42 -/
noncomputable def r_laws_szIntSS : List PK := [{ t := Ty.int IntKind.i64 }]
noncomputable def q_laws_szIntSS : List PK := [{ t := Ty.slice (25 : Nat) (Ty.slice (3 : Nat) (Ty.int IntKind.i64)) }, { t := Ty.int IntKind.i64 }]
noncomputable def to_laws_szIntSS (r : Int) : Tup r_laws_szIntSS × OutD := ((r, ()), none)
noncomputable def of_laws_szIntSS : Tup r_laws_szIntSS × OutD → Option (Int)
  | (a, none) => some (a.1)
  | _ => none
theorem to_of_laws_szIntSS : ∀ b r, of_laws_szIntSS b = some r → to_laws_szIntSS r = b := by
  rintro ⟨a, o⟩ r h
  cases o with
  | none => injection h with h; subst h; rfl
  | some _ => cases h
noncomputable def f_laws_szIntSS_0 : Nat → List (List Int) → Int → Int → Option (LR Int Int)
  | 0, _, _, _ => none
  | k + 1, v0, v1, v5 =>
    if decide (v5 < (↑(List.length v0) : Int)) = true then if (0 : Int) ≤ v5 then if v5 < (↑(List.length v0) : Int) then Option.bind (f_laws_szIntS k (List.getD v0 (Int.toNat v5) []) v1) fun z0 => if decide (z0 < (0 : Int)) = true then some (LR.ret (-1 : Int)) else f_laws_szIntSS_0 k v0 z0 (wrap64 (v5 + (1 : Int))) else none else none else some (LR.go v1)
noncomputable def f_laws_szIntSS_0i : Spec := { objs := [OSh.ro], tmps := [((0 : Nat), TSh.at (Sh.snap (0 : Nat) (Ty.slice (3 : Nat) (Ty.int IntKind.i64)))), ((1 : Nat), TSh.at (Sh.int IntKind.i64)), ((5 : Nat), TSh.at (Sh.int IntKind.i64))] }
noncomputable def f_laws_szIntSS_0o : Spec := { objs := [OSh.ro], tmps := [((1 : Nat), TSh.at (Sh.int IntKind.i64))] }
noncomputable def f_laws_szIntSS_0D : LoopDef (Tup r_laws_szIntSS × OutD) := .rets f_laws_szIntSS_0i f_laws_szIntSS_0o (Int) (Int) (fun k x => f_laws_szIntSS_0 k x.2.1 x.2.2.1 x.2.2.2.1) (fun z => (((), ()), (z, ()))) (fun y => (y.2.1)) (fun _ => rfl) to_laws_szIntSS of_laws_szIntSS to_of_laws_szIntSS
noncomputable def f_laws_szIntSS : Nat → List (List Int) → Int → Option Int
  | 0, _, _ => none
  | k + 1, p0, p1 =>
    if decide (wrap64 (p1 - (↑(List.length p0) : Int)) < (0 : Int)) = true then some (-1 : Int) else Option.bind (f_laws_szIntSS_0 k p0 (wrap64 (p1 - (↑(List.length p0) : Int))) (0 : Int)) fun z1 => LR.on z1 (fun y1 => some y1) fun r1 => some r1
noncomputable def d_laws_szIntSS : FnDef := .of q_laws_szIntSS r_laws_szIntSS (Int) (fun k x => f_laws_szIntSS k x.1 x.2.1) to_laws_szIntSS of_laws_szIntSS to_of_laws_szIntSS
noncomputable def c_laws_szIntSS : Code := Try.f42.body.getD .skip
noncomputable def x_laws_szIntSS : Ctx (Tup r_laws_szIntSS × OutD) := { T := T, G := [(81, d_laws_szIntS.E)], mvs := [], no := 0, n := 27, res := resOf T q_laws_szIntSS r_laws_szIntSS Try.f42.results.toList, loops := [(0, f_laws_szIntSS_0D.E)], regs := [], conds := [] }
theorem g_laws_szIntSS (k : Nat) : EnvOK Try.prog k x_laws_szIntSS.G := (EnvOK.cons (s_laws_szIntS k) (EnvOK.nil mixed))
noncomputable def f_laws_szIntSS_0B : Code := (findLoop 0 c_laws_szIntSS).getD .skip
theorem f_laws_szIntSS_0h (k : Nat) (x : f_laws_szIntSS_0i.D) : f_laws_szIntSS_0D.lp (k + 1) x = loopK x_laws_szIntSS f_laws_szIntSS_0D 0 f_laws_szIntSS_0B k x := by kernel_rfl
theorem f_laws_szIntSS_0l (k : Nat) : LOK Try.prog x_laws_szIntSS k f_laws_szIntSS_0B := LOK.by [] (by kernel_rfl) AllOK.nil
theorem f_laws_szIntSS_0z (x : f_laws_szIntSS_0i.D) : f_laws_szIntSS_0D.lp 0 x = none := by kernel_rfl
theorem f_laws_szIntSS_0ok (k : Nat) : EOK Try.prog x_laws_szIntSS k f_laws_szIntSS_0D.E (.block 0 (.loop f_laws_szIntSS_0B)) := loop_ok T_ok g_laws_szIntSS f_laws_szIntSS_0z f_laws_szIntSS_0h f_laws_szIntSS_0l k
theorem h_laws_szIntSS (k : Nat) (x : Tup d_laws_szIntSS.ps) : d_laws_szIntSS.f (k + 1) x = fnK d_laws_szIntSS x_laws_szIntSS c_laws_szIntSS k x := by kernel_rfl
theorem z_laws_szIntSS (x : Tup d_laws_szIntSS.ps) : d_laws_szIntSS.f 0 x = none := by kernel_rfl
theorem l_laws_szIntSS (k : Nat) : LOK Try.prog x_laws_szIntSS k c_laws_szIntSS := LOK.by [(f_laws_szIntSS_0D.E, .block 0 (.loop f_laws_szIntSS_0B))] (by kernel_rfl) (AllOK.cons (f_laws_szIntSS_0ok k) AllOK.nil)
theorem s_laws_szIntSS (k : Nat) : SoundAt Try.prog k 42 d_laws_szIntSS.E := @fn_all Try.prog d_laws_szIntSS x_laws_szIntSS 42 Try.f42 c_laws_szIntSS (by kernel_rfl) (by kernel_rfl) (by kernel_rfl) Try.func42 (by kernel_rfl) (by kernel_rfl) (by kernel_rfl) T_ok g_laws_szIntSS l_laws_szIntSS z_laws_szIntSS h_laws_szIntSS k
/-! function 44 -/
/-! function 45 -/
noncomputable def r_laws_toIntSS : List PK := [{ t := Ty.slice (25 : Nat) (Ty.slice (3 : Nat) (Ty.int IntKind.i64)) }]
noncomputable def q_laws_toIntSS : List PK := [{ t := Ty.slice (25 : Nat) (Ty.slice (3 : Nat) (Ty.int IntKind.i64)) }]
noncomputable def to_laws_toIntSS (r : List (List Int)) : Tup r_laws_toIntSS × OutD := ((r, ()), none)
noncomputable def of_laws_toIntSS : Tup r_laws_toIntSS × OutD → Option (List (List Int))
  | (a, none) => some (a.1)
  | _ => none
theorem to_of_laws_toIntSS : ∀ b r, of_laws_toIntSS b = some r → to_laws_toIntSS r = b := by
  rintro ⟨a, o⟩ r h
  cases o with
  | none => injection h with h; subst h; rfl
  | some _ => cases h
noncomputable def f_laws_toIntSS_0 : Nat → List (List Int) → List (List Int) → Int → Option (List (List Int))
  | 0, _, _, _ => none
  | k + 1, o1, v0, v4 =>
    if decide (v4 < (↑(List.length v0) : Int)) = true then if (0 : Int) ≤ v4 then if v4 < (↑(List.length v0) : Int) then Option.bind (f_laws_toIntS k (List.getD v0 (Int.toNat v4) [])) fun z0 => if (0 : Int) ≤ v4 then if v4 < (↑(List.length o1) : Int) then f_laws_toIntSS_0 k (List.set o1 (Int.toNat v4) z0) v0 (wrap64 (v4 + (1 : Int))) else none else none else none else none else some o1
noncomputable def f_laws_toIntSS_0i : Spec := { objs := [OSh.ro, OSh.row true (25 : Nat) (Ty.slice (3 : Nat) (Ty.int IntKind.i64))], tmps := [((0 : Nat), TSh.at (Sh.snap (0 : Nat) (Ty.slice (3 : Nat) (Ty.int IntKind.i64)))), ((3 : Nat), TSh.at (Sh.sl (1 : Nat))), ((4 : Nat), TSh.at (Sh.int IntKind.i64))] }
noncomputable def f_laws_toIntSS_0o : Spec := { objs := [OSh.ro, OSh.row true (25 : Nat) (Ty.slice (3 : Nat) (Ty.int IntKind.i64))], tmps := [((3 : Nat), TSh.at (Sh.sl (1 : Nat)))] }
noncomputable def f_laws_toIntSS_0D : LoopDef (Tup r_laws_toIntSS × OutD) := .plain f_laws_toIntSS_0i f_laws_toIntSS_0o (List (List Int)) (fun k x => f_laws_toIntSS_0 k x.1.2.1 x.2.1 x.2.2.2.1) (fun z => (((), z, ()), ((), ()))) (fun y => (y.1.2.1)) (fun _ => rfl)
noncomputable def f_laws_toIntSS : Nat → List (List Int) → Option (List (List Int))
  | 0, _ => none
  | k + 1, p0 =>
    if Int.toNat (↑(List.length p0) : Int) * (24 : Nat) ≤ (281474976710656 : Nat) then Option.bind (f_laws_toIntSS_0 k (List.replicate (Int.toNat (↑(List.length p0) : Int)) []) p0 (0 : Int)) fun z1 => some z1 else none
noncomputable def d_laws_toIntSS : FnDef := .of q_laws_toIntSS r_laws_toIntSS (List (List Int)) (fun k x => f_laws_toIntSS k x.1) to_laws_toIntSS of_laws_toIntSS to_of_laws_toIntSS
noncomputable def c_laws_toIntSS : Code := Try.f45.body.getD .skip
noncomputable def x_laws_toIntSS : Ctx (Tup r_laws_toIntSS × OutD) := { T := T, G := [(16, d_laws_toIntS.E)], mvs := [], no := 0, n := 23, res := resOf T q_laws_toIntSS r_laws_toIntSS Try.f45.results.toList, loops := [(0, f_laws_toIntSS_0D.E)], regs := [], conds := [] }
theorem g_laws_toIntSS (k : Nat) : EnvOK Try.prog k x_laws_toIntSS.G := (EnvOK.cons (s_laws_toIntS k) (EnvOK.nil mixed))
noncomputable def f_laws_toIntSS_0B : Code := (findLoop 0 c_laws_toIntSS).getD .skip
theorem f_laws_toIntSS_0h (k : Nat) (x : f_laws_toIntSS_0i.D) : f_laws_toIntSS_0D.lp (k + 1) x = loopK x_laws_toIntSS f_laws_toIntSS_0D 0 f_laws_toIntSS_0B k x := by kernel_rfl
theorem f_laws_toIntSS_0l (k : Nat) : LOK Try.prog x_laws_toIntSS k f_laws_toIntSS_0B := LOK.by [] (by kernel_rfl) AllOK.nil
theorem f_laws_toIntSS_0z (x : f_laws_toIntSS_0i.D) : f_laws_toIntSS_0D.lp 0 x = none := by kernel_rfl
theorem f_laws_toIntSS_0ok (k : Nat) : EOK Try.prog x_laws_toIntSS k f_laws_toIntSS_0D.E (.block 0 (.loop f_laws_toIntSS_0B)) := loop_ok T_ok g_laws_toIntSS f_laws_toIntSS_0z f_laws_toIntSS_0h f_laws_toIntSS_0l k
theorem h_laws_toIntSS (k : Nat) (x : Tup d_laws_toIntSS.ps) : d_laws_toIntSS.f (k + 1) x = fnK d_laws_toIntSS x_laws_toIntSS c_laws_toIntSS k x := by kernel_rfl
theorem z_laws_toIntSS (x : Tup d_laws_toIntSS.ps) : d_laws_toIntSS.f 0 x = none := by kernel_rfl
theorem l_laws_toIntSS (k : Nat) : LOK Try.prog x_laws_toIntSS k c_laws_toIntSS := LOK.by [(f_laws_toIntSS_0D.E, .block 0 (.loop f_laws_toIntSS_0B))] (by kernel_rfl) (AllOK.cons (f_laws_toIntSS_0ok k) AllOK.nil)
theorem s_laws_toIntSS (k : Nat) : SoundAt Try.prog k 45 d_laws_toIntSS.E := @fn_all Try.prog d_laws_toIntSS x_laws_toIntSS 45 Try.f45 c_laws_toIntSS (by kernel_rfl) (by kernel_rfl) (by kernel_rfl) Try.func45 (by kernel_rfl) (by kernel_rfl) (by kernel_rfl) T_ok g_laws_toIntSS l_laws_toIntSS z_laws_toIntSS h_laws_toIntSS k
/-! function 48 -/
/-! function 49 -/
/-! function 54 -/
/-! function 63 -/
noncomputable def r_laws_toCellS : List PK := [{ t := Ty.slice (116 : Nat) (Ty.pair (Ty.int IntKind.i64) (Ty.int IntKind.i64)) }]
noncomputable def q_laws_toCellS : List PK := [{ t := Ty.slice (118 : Nat) (Ty.pair (Ty.int IntKind.i64) (Ty.int IntKind.i64)) }]
noncomputable def to_laws_toCellS (r : List (Int × Int)) : Tup r_laws_toCellS × OutD := ((r, ()), none)
noncomputable def of_laws_toCellS : Tup r_laws_toCellS × OutD → Option (List (Int × Int))
  | (a, none) => some (a.1)
  | _ => none
theorem to_of_laws_toCellS : ∀ b r, of_laws_toCellS b = some r → to_laws_toCellS r = b := by
  rintro ⟨a, o⟩ r h
  cases o with
  | none => injection h with h; subst h; rfl
  | some _ => cases h
noncomputable def f_laws_toCellS_0 : Nat → List (Int × Int) → List (Int × Int) → Int → Option (List (Int × Int))
  | 0, _, _, _ => none
  | k + 1, o1, v0, v4 =>
    if decide (v4 < (↑(List.length v0) : Int)) = true then if (0 : Int) ≤ v4 then if v4 < (↑(List.length v0) : Int) then Option.bind (f_laws_toCell k (Prod.fst (List.getD v0 (Int.toNat v4) ((0 : Int), (0 : Int))), Prod.snd (List.getD v0 (Int.toNat v4) ((0 : Int), (0 : Int))))) fun z0 => if (0 : Int) ≤ v4 then if v4 < (↑(List.length o1) : Int) then f_laws_toCellS_0 k (List.set o1 (Int.toNat v4) (Prod.fst z0, Prod.snd z0)) v0 (wrap64 (v4 + (1 : Int))) else none else none else none else none else some o1
noncomputable def f_laws_toCellS_0i : Spec := { objs := [OSh.ro, OSh.row true (116 : Nat) (Ty.pair (Ty.int IntKind.i64) (Ty.int IntKind.i64))], tmps := [((0 : Nat), TSh.at (Sh.snap (0 : Nat) (Ty.pair (Ty.int IntKind.i64) (Ty.int IntKind.i64)))), ((3 : Nat), TSh.at (Sh.sl (1 : Nat))), ((4 : Nat), TSh.at (Sh.int IntKind.i64))] }
noncomputable def f_laws_toCellS_0o : Spec := { objs := [OSh.ro, OSh.row true (116 : Nat) (Ty.pair (Ty.int IntKind.i64) (Ty.int IntKind.i64))], tmps := [((3 : Nat), TSh.at (Sh.sl (1 : Nat)))] }
noncomputable def f_laws_toCellS_0D : LoopDef (Tup r_laws_toCellS × OutD) := .plain f_laws_toCellS_0i f_laws_toCellS_0o (List (Int × Int)) (fun k x => f_laws_toCellS_0 k x.1.2.1 x.2.1 x.2.2.2.1) (fun z => (((), z, ()), ((), ()))) (fun y => (y.1.2.1)) (fun _ => rfl)
noncomputable def f_laws_toCellS : Nat → List (Int × Int) → Option (List (Int × Int))
  | 0, _ => none
  | k + 1, p0 =>
    if Int.toNat (↑(List.length p0) : Int) * (16 : Nat) ≤ (281474976710656 : Nat) then Option.bind (f_laws_toCellS_0 k (List.replicate (Int.toNat (↑(List.length p0) : Int)) ((0 : Int), (0 : Int))) p0 (0 : Int)) fun z1 => some z1 else none
noncomputable def d_laws_toCellS : FnDef := .of q_laws_toCellS r_laws_toCellS (List (Int × Int)) (fun k x => f_laws_toCellS k x.1) to_laws_toCellS of_laws_toCellS to_of_laws_toCellS
noncomputable def c_laws_toCellS : Code := Try.f63.body.getD .skip
noncomputable def x_laws_toCellS : Ctx (Tup r_laws_toCellS × OutD) := { T := T, G := [(107, d_laws_toCell.E)], mvs := [], no := 0, n := 23, res := resOf T q_laws_toCellS r_laws_toCellS Try.f63.results.toList, loops := [(0, f_laws_toCellS_0D.E)], regs := [], conds := [] }
theorem g_laws_toCellS (k : Nat) : EnvOK Try.prog k x_laws_toCellS.G := (EnvOK.cons (s_laws_toCell k) (EnvOK.nil mixed))
noncomputable def f_laws_toCellS_0B : Code := (findLoop 0 c_laws_toCellS).getD .skip
theorem f_laws_toCellS_0h (k : Nat) (x : f_laws_toCellS_0i.D) : f_laws_toCellS_0D.lp (k + 1) x = loopK x_laws_toCellS f_laws_toCellS_0D 0 f_laws_toCellS_0B k x := by kernel_rfl
theorem f_laws_toCellS_0l (k : Nat) : LOK Try.prog x_laws_toCellS k f_laws_toCellS_0B := LOK.by [] (by kernel_rfl) AllOK.nil
theorem f_laws_toCellS_0z (x : f_laws_toCellS_0i.D) : f_laws_toCellS_0D.lp 0 x = none := by kernel_rfl
theorem f_laws_toCellS_0ok (k : Nat) : EOK Try.prog x_laws_toCellS k f_laws_toCellS_0D.E (.block 0 (.loop f_laws_toCellS_0B)) := loop_ok T_ok g_laws_toCellS f_laws_toCellS_0z f_laws_toCellS_0h f_laws_toCellS_0l k
theorem h_laws_toCellS (k : Nat) (x : Tup d_laws_toCellS.ps) : d_laws_toCellS.f (k + 1) x = fnK d_laws_toCellS x_laws_toCellS c_laws_toCellS k x := by kernel_rfl
theorem z_laws_toCellS (x : Tup d_laws_toCellS.ps) : d_laws_toCellS.f 0 x = none := by kernel_rfl
theorem l_laws_toCellS (k : Nat) : LOK Try.prog x_laws_toCellS k c_laws_toCellS := LOK.by [(f_laws_toCellS_0D.E, .block 0 (.loop f_laws_toCellS_0B))] (by kernel_rfl) (AllOK.cons (f_laws_toCellS_0ok k) AllOK.nil)
theorem s_laws_toCellS (k : Nat) : SoundAt Try.prog k 63 d_laws_toCellS.E := @fn_all Try.prog d_laws_toCellS x_laws_toCellS 63 Try.f63 c_laws_toCellS (by kernel_rfl) (by kernel_rfl) (by kernel_rfl) Try.func63 (by kernel_rfl) (by kernel_rfl) (by kernel_rfl) T_ok g_laws_toCellS l_laws_toCellS z_laws_toCellS h_laws_toCellS k
/-! function 68 -/
noncomputable def r_laws_eqCellS : List PK := [{ t := Ty.bool }]
noncomputable def q_laws_eqCellS : List PK := [{ t := Ty.slice (116 : Nat) (Ty.pair (Ty.int IntKind.i64) (Ty.int IntKind.i64)) }, { t := Ty.slice (116 : Nat) (Ty.pair (Ty.int IntKind.i64) (Ty.int IntKind.i64)) }]
noncomputable def to_laws_eqCellS (r : Bool) : Tup r_laws_eqCellS × OutD := ((r, ()), none)
noncomputable def of_laws_eqCellS : Tup r_laws_eqCellS × OutD → Option (Bool)
  | (a, none) => some (a.1)
  | _ => none
theorem to_of_laws_eqCellS : ∀ b r, of_laws_eqCellS b = some r → to_laws_eqCellS r = b := by
  rintro ⟨a, o⟩ r h
  cases o with
  | none => injection h with h; subst h; rfl
  | some _ => cases h
noncomputable def f_laws_eqCellS_0 : Nat → List (Int × Int) → List (Int × Int) → Int → Option (LR Unit Bool)
  | 0, _, _, _ => none
  | k + 1, v0, v1, v5 =>
    if decide (v5 < (↑(List.length v0) : Int)) = true then if (0 : Int) ≤ v5 then if v5 < (↑(List.length v0) : Int) then if (0 : Int) ≤ v5 then if v5 < (↑(List.length v1) : Int) then Option.bind (f_laws_eqCell k (Prod.fst (List.getD v0 (Int.toNat v5) ((0 : Int), (0 : Int))), Prod.snd (List.getD v0 (Int.toNat v5) ((0 : Int), (0 : Int)))) (Prod.fst (List.getD v1 (Int.toNat v5) ((0 : Int), (0 : Int))), Prod.snd (List.getD v1 (Int.toNat v5) ((0 : Int), (0 : Int))))) fun z0 => if (!z0) = true then some (LR.ret false) else f_laws_eqCellS_0 k v0 v1 (wrap64 (v5 + (1 : Int))) else none else none else none else none else some (LR.go ())
noncomputable def f_laws_eqCellS_0i : Spec := { objs := [OSh.ro], tmps := [((0 : Nat), TSh.at (Sh.snap (0 : Nat) (Ty.pair (Ty.int IntKind.i64) (Ty.int IntKind.i64)))), ((1 : Nat), TSh.at (Sh.snap (0 : Nat) (Ty.pair (Ty.int IntKind.i64) (Ty.int IntKind.i64)))), ((5 : Nat), TSh.at (Sh.int IntKind.i64))] }
noncomputable def f_laws_eqCellS_0o : Spec := { objs := [OSh.ro], tmps := [] }
noncomputable def f_laws_eqCellS_0D : LoopDef (Tup r_laws_eqCellS × OutD) := .rets f_laws_eqCellS_0i f_laws_eqCellS_0o (Unit) (Bool) (fun k x => f_laws_eqCellS_0 k x.2.1 x.2.2.1 x.2.2.2.1) (fun z => (((), ()), (()))) (fun y => ()) (fun _ => rfl) to_laws_eqCellS of_laws_eqCellS to_of_laws_eqCellS
noncomputable def f_laws_eqCellS : Nat → List (Int × Int) → List (Int × Int) → Option Bool
  | 0, _, _ => none
  | k + 1, p0, p1 =>
    if decide ((↑(List.length p0) : Int) ≠ (↑(List.length p1) : Int)) = true then some false else Option.bind (f_laws_eqCellS_0 k p0 p1 (0 : Int)) fun z1 => LR.on z1 (fun y1 => some true) fun r1 => some r1
noncomputable def d_laws_eqCellS : FnDef := .of q_laws_eqCellS r_laws_eqCellS (Bool) (fun k x => f_laws_eqCellS k x.1 x.2.1) to_laws_eqCellS of_laws_eqCellS to_of_laws_eqCellS
noncomputable def c_laws_eqCellS : Code := Try.f68.body.getD .skip
noncomputable def x_laws_eqCellS : Ctx (Tup r_laws_eqCellS × OutD) := { T := T, G := [(112, d_laws_eqCell.E)], mvs := [], no := 0, n := 27, res := resOf T q_laws_eqCellS r_laws_eqCellS Try.f68.results.toList, loops := [(0, f_laws_eqCellS_0D.E)], regs := [], conds := [] }
theorem g_laws_eqCellS (k : Nat) : EnvOK Try.prog k x_laws_eqCellS.G := (EnvOK.cons (s_laws_eqCell k) (EnvOK.nil mixed))
noncomputable def f_laws_eqCellS_0B : Code := (findLoop 0 c_laws_eqCellS).getD .skip
theorem f_laws_eqCellS_0h (k : Nat) (x : f_laws_eqCellS_0i.D) : f_laws_eqCellS_0D.lp (k + 1) x = loopK x_laws_eqCellS f_laws_eqCellS_0D 0 f_laws_eqCellS_0B k x := by kernel_rfl
theorem f_laws_eqCellS_0l (k : Nat) : LOK Try.prog x_laws_eqCellS k f_laws_eqCellS_0B := LOK.by [] (by kernel_rfl) AllOK.nil
theorem f_laws_eqCellS_0z (x : f_laws_eqCellS_0i.D) : f_laws_eqCellS_0D.lp 0 x = none := by kernel_rfl
theorem f_laws_eqCellS_0ok (k : Nat) : EOK Try.prog x_laws_eqCellS k f_laws_eqCellS_0D.E (.block 0 (.loop f_laws_eqCellS_0B)) := loop_ok T_ok g_laws_eqCellS f_laws_eqCellS_0z f_laws_eqCellS_0h f_laws_eqCellS_0l k
theorem h_laws_eqCellS (k : Nat) (x : Tup d_laws_eqCellS.ps) : d_laws_eqCellS.f (k + 1) x = fnK d_laws_eqCellS x_laws_eqCellS c_laws_eqCellS k x := by kernel_rfl
theorem z_laws_eqCellS (x : Tup d_laws_eqCellS.ps) : d_laws_eqCellS.f 0 x = none := by kernel_rfl
theorem l_laws_eqCellS (k : Nat) : LOK Try.prog x_laws_eqCellS k c_laws_eqCellS := LOK.by [(f_laws_eqCellS_0D.E, .block 0 (.loop f_laws_eqCellS_0B))] (by kernel_rfl) (AllOK.cons (f_laws_eqCellS_0ok k) AllOK.nil)
theorem s_laws_eqCellS (k : Nat) : SoundAt Try.prog k 68 d_laws_eqCellS.E := @fn_all Try.prog d_laws_eqCellS x_laws_eqCellS 68 Try.f68 c_laws_eqCellS (by kernel_rfl) (by kernel_rfl) (by kernel_rfl) Try.func68 (by kernel_rfl) (by kernel_rfl) (by kernel_rfl) T_ok g_laws_eqCellS l_laws_eqCellS z_laws_eqCellS h_laws_eqCellS k
/-! function 90 -/
/-! function 102 -/
noncomputable def r_spec_tsLongest : List PK := [{ t := Ty.int IntKind.i64 }]
noncomputable def q_spec_tsLongest : List PK := [{ t := Ty.slice (25 : Nat) (Ty.slice (3 : Nat) (Ty.int IntKind.i64)) }, { t := Ty.int IntKind.i64 }]
noncomputable def to_spec_tsLongest (r : Int) : Tup r_spec_tsLongest × OutD := ((r, ()), none)
noncomputable def of_spec_tsLongest : Tup r_spec_tsLongest × OutD → Option (Int)
  | (a, none) => some (a.1)
  | _ => none
theorem to_of_spec_tsLongest : ∀ b r, of_spec_tsLongest b = some r → to_spec_tsLongest r = b := by
  rintro ⟨a, o⟩ r h
  cases o with
  | none => injection h with h; subst h; rfl
  | some _ => cases h
noncomputable def f_spec_tsLongest_0 : Nat → List (List Int) → Int → Int → Int → Option Int
  | 0, _, _, _, _ => none
  | k + 1, o1, v5, v13, v14 =>
    if decide (v14 < v13) = true then if (0 : Int) ≤ v14 then if v14 < (↑(List.length o1) : Int) then Option.bind (f_spec_l1Most k v5 (↑(List.length (List.getD o1 (Int.toNat v14) [])) : Int)) fun z2 => f_spec_tsLongest_0 k o1 z2 v13 (wrap64 (v14 + (1 : Int))) else none else none else some v5
noncomputable def f_spec_tsLongest_0i : Spec := { objs := [OSh.ro, OSh.row true (25 : Nat) (Ty.slice (3 : Nat) (Ty.int IntKind.i64))], tmps := [((5 : Nat), TSh.at (Sh.int IntKind.i64)), ((12 : Nat), TSh.at (Sh.sl (1 : Nat))), ((13 : Nat), TSh.at (Sh.int IntKind.i64)), ((14 : Nat), TSh.at (Sh.int IntKind.i64))] }
noncomputable def f_spec_tsLongest_0o : Spec := { objs := [OSh.ro], tmps := [((5 : Nat), TSh.at (Sh.int IntKind.i64))] }
noncomputable def f_spec_tsLongest_0D : LoopDef (Tup r_spec_tsLongest × OutD) := .plain f_spec_tsLongest_0i f_spec_tsLongest_0o (Int) (fun k x => f_spec_tsLongest_0 k x.1.2.1 x.2.1 x.2.2.2.1 x.2.2.2.2.1) (fun z => (((), ()), (z, ()))) (fun y => (y.2.1)) (fun _ => rfl)
noncomputable def f_spec_tsLongest : Nat → List (List Int) → Int → Option Int
  | 0, _, _ => none
  | k + 1, p0, p1 =>
    Option.bind (f_spec_tsClasses k p0 [p1]) fun z0 => Option.bind (f_spec_tsLists k z0) fun z1 => Option.bind (f_spec_tsLongest_0 k z1 (0 : Int) (↑(List.length z1) : Int) (0 : Int)) fun z3 => some z3
noncomputable def d_spec_tsLongest : FnDef := .of q_spec_tsLongest r_spec_tsLongest (Int) (fun k x => f_spec_tsLongest k x.1 x.2.1) to_spec_tsLongest of_spec_tsLongest to_of_spec_tsLongest
noncomputable def c_spec_tsLongest : Code := Try.f102.body.getD .skip
noncomputable def x_spec_tsLongest : Ctx (Tup r_spec_tsLongest × OutD) := { T := T, G := [(97, d_spec_tsClasses.E), (96, d_spec_tsLists.E), (125, d_spec_l1Most.E)], mvs := [], no := 0, n := 24, res := resOf T q_spec_tsLongest r_spec_tsLongest Try.f102.results.toList, loops := [(0, f_spec_tsLongest_0D.E)], regs := [], conds := [] }
theorem g_spec_tsLongest (k : Nat) : EnvOK Try.prog k x_spec_tsLongest.G := (EnvOK.cons (s_spec_tsClasses k) (EnvOK.cons (s_spec_tsLists k) (EnvOK.cons (s_spec_l1Most k) (EnvOK.nil mixed))))
noncomputable def f_spec_tsLongest_0B : Code := (findLoop 0 c_spec_tsLongest).getD .skip
theorem f_spec_tsLongest_0h (k : Nat) (x : f_spec_tsLongest_0i.D) : f_spec_tsLongest_0D.lp (k + 1) x = loopK x_spec_tsLongest f_spec_tsLongest_0D 0 f_spec_tsLongest_0B k x := by kernel_rfl
theorem f_spec_tsLongest_0l (k : Nat) : LOK Try.prog x_spec_tsLongest k f_spec_tsLongest_0B := LOK.by [] (by kernel_rfl) AllOK.nil
theorem f_spec_tsLongest_0z (x : f_spec_tsLongest_0i.D) : f_spec_tsLongest_0D.lp 0 x = none := by kernel_rfl
theorem f_spec_tsLongest_0ok (k : Nat) : EOK Try.prog x_spec_tsLongest k f_spec_tsLongest_0D.E (.block 0 (.loop f_spec_tsLongest_0B)) := loop_ok T_ok g_spec_tsLongest f_spec_tsLongest_0z f_spec_tsLongest_0h f_spec_tsLongest_0l k
theorem h_spec_tsLongest (k : Nat) (x : Tup d_spec_tsLongest.ps) : d_spec_tsLongest.f (k + 1) x = fnK d_spec_tsLongest x_spec_tsLongest c_spec_tsLongest k x := by kernel_rfl
theorem z_spec_tsLongest (x : Tup d_spec_tsLongest.ps) : d_spec_tsLongest.f 0 x = none := by kernel_rfl
theorem l_spec_tsLongest (k : Nat) : LOK Try.prog x_spec_tsLongest k c_spec_tsLongest := LOK.by [(f_spec_tsLongest_0D.E, .block 0 (.loop f_spec_tsLongest_0B))] (by kernel_rfl) (AllOK.cons (f_spec_tsLongest_0ok k) AllOK.nil)
theorem s_spec_tsLongest (k : Nat) : SoundAt Try.prog k 102 d_spec_tsLongest.E := @fn_all Try.prog d_spec_tsLongest x_spec_tsLongest 102 Try.f102 c_spec_tsLongest (by kernel_rfl) (by kernel_rfl) (by kernel_rfl) Try.func102 (by kernel_rfl) (by kernel_rfl) (by kernel_rfl) T_ok g_spec_tsLongest l_spec_tsLongest z_spec_tsLongest h_spec_tsLongest k
/-! function 104 -/
noncomputable def r_spec_l1All : List PK := [{ t := Ty.bool }]
noncomputable def q_spec_l1All : List PK := [{ t := Ty.slice (3 : Nat) (Ty.int IntKind.i64) }, { t := Ty.int IntKind.i64 }, { t := Ty.int IntKind.i64 }]
noncomputable def to_spec_l1All (r : Bool) : Tup r_spec_l1All × OutD := ((r, ()), none)
noncomputable def of_spec_l1All : Tup r_spec_l1All × OutD → Option (Bool)
  | (a, none) => some (a.1)
  | _ => none
theorem to_of_spec_l1All : ∀ b r, of_spec_l1All b = some r → to_spec_l1All r = b := by
  rintro ⟨a, o⟩ r h
  cases o with
  | none => injection h with h; subst h; rfl
  | some _ => cases h
noncomputable def f_spec_l1All_0 : Nat → Int → Int → List Int → Int → Int → Option (LR Unit Bool)
  | 0, _, _, _, _, _ => none
  | k + 1, v1, v2, v9, v10, v11 =>
    if decide (v11 < v10) = true then if (0 : Int) ≤ v11 then if v11 < (↑(List.length v9) : Int) then Option.bind (f_spec_l1In k (List.getD v9 (Int.toNat v11) (0 : Int)) v1 v2) fun z0 => if (!z0) = true then some (LR.ret false) else f_spec_l1All_0 k v1 v2 v9 v10 (wrap64 (v11 + (1 : Int))) else none else none else some (LR.go ())
noncomputable def f_spec_l1All_0i : Spec := { objs := [OSh.ro], tmps := [((1 : Nat), TSh.at (Sh.int IntKind.i64)), ((2 : Nat), TSh.at (Sh.int IntKind.i64)), ((9 : Nat), TSh.at (Sh.snap (0 : Nat) (Ty.int IntKind.i64))), ((10 : Nat), TSh.at (Sh.int IntKind.i64)), ((11 : Nat), TSh.at (Sh.int IntKind.i64))] }
noncomputable def f_spec_l1All_0o : Spec := { objs := [OSh.ro], tmps := [] }
noncomputable def f_spec_l1All_0D : LoopDef (Tup r_spec_l1All × OutD) := .rets f_spec_l1All_0i f_spec_l1All_0o (Unit) (Bool) (fun k x => f_spec_l1All_0 k x.2.1 x.2.2.1 x.2.2.2.1 x.2.2.2.2.1 x.2.2.2.2.2.1) (fun z => (((), ()), (()))) (fun y => ()) (fun _ => rfl) to_spec_l1All of_spec_l1All to_of_spec_l1All
noncomputable def f_spec_l1All : Nat → List Int → Int → Int → Option Bool
  | 0, _, _, _ => none
  | k + 1, p0, p1, p2 =>
    Option.bind (f_spec_l1All_0 k p1 p2 p0 (↑(List.length p0) : Int) (0 : Int)) fun z1 => LR.on z1 (fun y1 => some true) fun r1 => some r1
noncomputable def d_spec_l1All : FnDef := .of q_spec_l1All r_spec_l1All (Bool) (fun k x => f_spec_l1All k x.1 x.2.1 x.2.2.1) to_spec_l1All of_spec_l1All to_of_spec_l1All
noncomputable def c_spec_l1All : Code := Try.f104.body.getD .skip
noncomputable def x_spec_l1All : Ctx (Tup r_spec_l1All × OutD) := { T := T, G := [(114, d_spec_l1In.E)], mvs := [], no := 0, n := 21, res := resOf T q_spec_l1All r_spec_l1All Try.f104.results.toList, loops := [(0, f_spec_l1All_0D.E)], regs := [], conds := [] }
theorem g_spec_l1All (k : Nat) : EnvOK Try.prog k x_spec_l1All.G := (EnvOK.cons (s_spec_l1In k) (EnvOK.nil mixed))
noncomputable def f_spec_l1All_0B : Code := (findLoop 0 c_spec_l1All).getD .skip
theorem f_spec_l1All_0h (k : Nat) (x : f_spec_l1All_0i.D) : f_spec_l1All_0D.lp (k + 1) x = loopK x_spec_l1All f_spec_l1All_0D 0 f_spec_l1All_0B k x := by kernel_rfl
theorem f_spec_l1All_0l (k : Nat) : LOK Try.prog x_spec_l1All k f_spec_l1All_0B := LOK.by [] (by kernel_rfl) AllOK.nil
theorem f_spec_l1All_0z (x : f_spec_l1All_0i.D) : f_spec_l1All_0D.lp 0 x = none := by kernel_rfl
theorem f_spec_l1All_0ok (k : Nat) : EOK Try.prog x_spec_l1All k f_spec_l1All_0D.E (.block 0 (.loop f_spec_l1All_0B)) := loop_ok T_ok g_spec_l1All f_spec_l1All_0z f_spec_l1All_0h f_spec_l1All_0l k
theorem h_spec_l1All (k : Nat) (x : Tup d_spec_l1All.ps) : d_spec_l1All.f (k + 1) x = fnK d_spec_l1All x_spec_l1All c_spec_l1All k x := by kernel_rfl
theorem z_spec_l1All (x : Tup d_spec_l1All.ps) : d_spec_l1All.f 0 x = none := by kernel_rfl
theorem l_spec_l1All (k : Nat) : LOK Try.prog x_spec_l1All k c_spec_l1All := LOK.by [(f_spec_l1All_0D.E, .block 0 (.loop f_spec_l1All_0B))] (by kernel_rfl) (AllOK.cons (f_spec_l1All_0ok k) AllOK.nil)
theorem s_spec_l1All (k : Nat) : SoundAt Try.prog k 104 d_spec_l1All.E := @fn_all Try.prog d_spec_l1All x_spec_l1All 104 Try.f104 c_spec_l1All (by kernel_rfl) (by kernel_rfl) (by kernel_rfl) Try.func104 (by kernel_rfl) (by kernel_rfl) (by kernel_rfl) T_ok g_spec_l1All l_spec_l1All z_spec_l1All h_spec_l1All k
/-! function 120 -/
noncomputable def r_spec_faFits : List PK := [{ t := Ty.bool }]
noncomputable def q_spec_faFits : List PK := [{ t := Ty.pair (Ty.int IntKind.i64) (Ty.int IntKind.i64), agg := true }, { t := Ty.int IntKind.i64 }]
noncomputable def to_spec_faFits (r : Bool) : Tup r_spec_faFits × OutD := ((r, ()), none)
noncomputable def of_spec_faFits : Tup r_spec_faFits × OutD → Option (Bool)
  | (a, none) => some (a.1)
  | _ => none
theorem to_of_spec_faFits : ∀ b r, of_spec_faFits b = some r → to_spec_faFits r = b := by
  rintro ⟨a, o⟩ r h
  cases o with
  | none => injection h with h; subst h; rfl
  | some _ => cases h
noncomputable def f_spec_faFits : Nat → Int × Int → Int → Option Bool
  | 0, _, _ => none
  | k + 1, p0, p1 =>
    if decide (p1 = (1 : Int)) = true then Option.bind (f_spec_paTurning k (Prod.fst p0, Prod.snd p0)) fun z0 => some z0 else if decide (p1 = (2 : Int)) = true then some true else if decide (p1 = (3 : Int)) = true then Option.bind (f_spec_paTurning k (Prod.fst p0, Prod.snd p0)) fun z1 => if z1 = true then some true else if decide (Prod.fst p0 = (1 : Int)) = true then some true else some (decide (Prod.fst p0 = (2 : Int))) else some false
noncomputable def d_spec_faFits : FnDef := .of q_spec_faFits r_spec_faFits (Bool) (fun k x => f_spec_faFits k x.1 x.2.1) to_spec_faFits of_spec_faFits to_of_spec_faFits
noncomputable def c_spec_faFits : Code := Try.f120.body.getD .skip
noncomputable def x_spec_faFits : Ctx (Tup r_spec_faFits × OutD) := { T := T, G := [(135, d_spec_paTurning.E)], mvs := [], no := 0, n := 26, res := resOf T q_spec_faFits r_spec_faFits Try.f120.results.toList, loops := [], regs := [], conds := [] }
theorem g_spec_faFits (k : Nat) : EnvOK Try.prog k x_spec_faFits.G := (EnvOK.cons (s_spec_paTurning k) (EnvOK.nil mixed))
theorem h_spec_faFits (k : Nat) (x : Tup d_spec_faFits.ps) : d_spec_faFits.f (k + 1) x = fnK d_spec_faFits x_spec_faFits c_spec_faFits k x := by kernel_rfl
theorem z_spec_faFits (x : Tup d_spec_faFits.ps) : d_spec_faFits.f 0 x = none := by kernel_rfl
theorem l_spec_faFits (k : Nat) : LOK Try.prog x_spec_faFits k c_spec_faFits := LOK.by [] (by kernel_rfl) AllOK.nil
theorem s_spec_faFits (k : Nat) : SoundAt Try.prog k 120 d_spec_faFits.E := @fn_all Try.prog d_spec_faFits x_spec_faFits 120 Try.f120 c_spec_faFits (by kernel_rfl) (by kernel_rfl) (by kernel_rfl) Try.func120 (by kernel_rfl) (by kernel_rfl) (by kernel_rfl) T_ok g_spec_faFits l_spec_faFits z_spec_faFits h_spec_faFits k
/-! function 124 -/
noncomputable def r_impl_alikeBy : List PK := [{ t := Ty.bool }]
noncomputable def q_impl_alikeBy : List PK := [{ t := Ty.slice (45 : Nat) (Ty.slice (91 : Nat) (Ty.pair (Ty.int IntKind.i64) (Ty.pair (Ty.int IntKind.i64) (Ty.int IntKind.i64)))) }, { t := Ty.slice (45 : Nat) (Ty.slice (91 : Nat) (Ty.pair (Ty.int IntKind.i64) (Ty.pair (Ty.int IntKind.i64) (Ty.int IntKind.i64)))) }, { t := Ty.slice (3 : Nat) (Ty.int IntKind.i64) }]
noncomputable def to_impl_alikeBy (r : Bool) : Tup r_impl_alikeBy × OutD := ((r, ()), none)
noncomputable def of_impl_alikeBy : Tup r_impl_alikeBy × OutD → Option (Bool)
  | (a, none) => some (a.1)
  | _ => none
theorem to_of_impl_alikeBy : ∀ b r, of_impl_alikeBy b = some r → to_impl_alikeBy r = b := by
  rintro ⟨a, o⟩ r h
  cases o with
  | none => injection h with h; subst h; rfl
  | some _ => cases h
noncomputable def f_impl_alikeBy_0 : Nat → List (List (Int × Int × Int)) → List (List (Int × Int × Int)) → List Int → Int → Int → Option (LR Unit Bool)
  | 0, _, _, _, _, _ => none
  | k + 1, v0, v1, v9, v10, v11 =>
    if decide (v11 < v10) = true then if (0 : Int) ≤ v11 then if v11 < (↑(List.length v9) : Int) then if (0 : Int) ≤ List.getD v9 (Int.toNat v11) (0 : Int) then if List.getD v9 (Int.toNat v11) (0 : Int) < (↑(List.length v0) : Int) then if (0 : Int) ≤ List.getD v9 (Int.toNat v11) (0 : Int) then if List.getD v9 (Int.toNat v11) (0 : Int) < (↑(List.length v1) : Int) then Option.bind (f_slices_Equal_impl_Fall_impl_Fall k (List.getD v0 (Int.toNat (List.getD v9 (Int.toNat v11) (0 : Int))) []) (List.getD v1 (Int.toNat (List.getD v9 (Int.toNat v11) (0 : Int))) [])) fun z0 => if (!z0) = true then some (LR.ret false) else f_impl_alikeBy_0 k v0 v1 v9 v10 (wrap64 (v11 + (1 : Int))) else none else none else none else none else none else none else some (LR.go ())
noncomputable def f_impl_alikeBy_0i : Spec := { objs := [OSh.ro], tmps := [((0 : Nat), TSh.at (Sh.snap (0 : Nat) (Ty.slice (91 : Nat) (Ty.pair (Ty.int IntKind.i64) (Ty.pair (Ty.int IntKind.i64) (Ty.int IntKind.i64)))))), ((1 : Nat), TSh.at (Sh.snap (0 : Nat) (Ty.slice (91 : Nat) (Ty.pair (Ty.int IntKind.i64) (Ty.pair (Ty.int IntKind.i64) (Ty.int IntKind.i64)))))), ((9 : Nat), TSh.at (Sh.snap (0 : Nat) (Ty.int IntKind.i64))), ((10 : Nat), TSh.at (Sh.int IntKind.i64)), ((11 : Nat), TSh.at (Sh.int IntKind.i64))] }
noncomputable def f_impl_alikeBy_0o : Spec := { objs := [OSh.ro], tmps := [] }
noncomputable def f_impl_alikeBy_0D : LoopDef (Tup r_impl_alikeBy × OutD) := .rets f_impl_alikeBy_0i f_impl_alikeBy_0o (Unit) (Bool) (fun k x => f_impl_alikeBy_0 k x.2.1 x.2.2.1 x.2.2.2.1 x.2.2.2.2.1 x.2.2.2.2.2.1) (fun z => (((), ()), (()))) (fun y => ()) (fun _ => rfl) to_impl_alikeBy of_impl_alikeBy to_of_impl_alikeBy
noncomputable def f_impl_alikeBy : Nat → List (List (Int × Int × Int)) → List (List (Int × Int × Int)) → List Int → Option Bool
  | 0, _, _, _ => none
  | k + 1, p0, p1, p2 =>
    Option.bind (f_impl_alikeBy_0 k p0 p1 p2 (↑(List.length p2) : Int) (0 : Int)) fun z1 => LR.on z1 (fun y1 => some true) fun r1 => some r1
noncomputable def d_impl_alikeBy : FnDef := .of q_impl_alikeBy r_impl_alikeBy (Bool) (fun k x => f_impl_alikeBy k x.1 x.2.1 x.2.2.1) to_impl_alikeBy of_impl_alikeBy to_of_impl_alikeBy
noncomputable def c_impl_alikeBy : Code := Try.f124.body.getD .skip
noncomputable def x_impl_alikeBy : Ctx (Tup r_impl_alikeBy × OutD) := { T := T, G := [(101, d_slices_Equal_impl_Fall_impl_Fall.E)], mvs := [], no := 0, n := 26, res := resOf T q_impl_alikeBy r_impl_alikeBy Try.f124.results.toList, loops := [(0, f_impl_alikeBy_0D.E)], regs := [], conds := [] }
theorem g_impl_alikeBy (k : Nat) : EnvOK Try.prog k x_impl_alikeBy.G := (EnvOK.cons (s_slices_Equal_impl_Fall_impl_Fall k) (EnvOK.nil mixed))
noncomputable def f_impl_alikeBy_0B : Code := (findLoop 0 c_impl_alikeBy).getD .skip
theorem f_impl_alikeBy_0h (k : Nat) (x : f_impl_alikeBy_0i.D) : f_impl_alikeBy_0D.lp (k + 1) x = loopK x_impl_alikeBy f_impl_alikeBy_0D 0 f_impl_alikeBy_0B k x := by kernel_rfl
theorem f_impl_alikeBy_0l (k : Nat) : LOK Try.prog x_impl_alikeBy k f_impl_alikeBy_0B := LOK.by [] (by kernel_rfl) AllOK.nil
theorem f_impl_alikeBy_0z (x : f_impl_alikeBy_0i.D) : f_impl_alikeBy_0D.lp 0 x = none := by kernel_rfl
theorem f_impl_alikeBy_0ok (k : Nat) : EOK Try.prog x_impl_alikeBy k f_impl_alikeBy_0D.E (.block 0 (.loop f_impl_alikeBy_0B)) := loop_ok T_ok g_impl_alikeBy f_impl_alikeBy_0z f_impl_alikeBy_0h f_impl_alikeBy_0l k
theorem h_impl_alikeBy (k : Nat) (x : Tup d_impl_alikeBy.ps) : d_impl_alikeBy.f (k + 1) x = fnK d_impl_alikeBy x_impl_alikeBy c_impl_alikeBy k x := by kernel_rfl
theorem z_impl_alikeBy (x : Tup d_impl_alikeBy.ps) : d_impl_alikeBy.f 0 x = none := by kernel_rfl
theorem l_impl_alikeBy (k : Nat) : LOK Try.prog x_impl_alikeBy k c_impl_alikeBy := LOK.by [(f_impl_alikeBy_0D.E, .block 0 (.loop f_impl_alikeBy_0B))] (by kernel_rfl) (AllOK.cons (f_impl_alikeBy_0ok k) AllOK.nil)
theorem s_impl_alikeBy (k : Nat) : SoundAt Try.prog k 124 d_impl_alikeBy.E := @fn_all Try.prog d_impl_alikeBy x_impl_alikeBy 124 Try.f124 c_impl_alikeBy (by kernel_rfl) (by kernel_rfl) (by kernel_rfl) Try.func124 (by kernel_rfl) (by kernel_rfl) (by kernel_rfl) T_ok g_impl_alikeBy l_impl_alikeBy z_impl_alikeBy h_impl_alikeBy k
/-! function 126 -/
noncomputable def r_spec_paGood : List PK := [{ t := Ty.bool }]
noncomputable def q_spec_paGood : List PK := [{ t := Ty.pair (Ty.int IntKind.i64) (Ty.int IntKind.i64), agg := true }]
noncomputable def to_spec_paGood (r : Bool) : Tup r_spec_paGood × OutD := ((r, ()), none)
noncomputable def of_spec_paGood : Tup r_spec_paGood × OutD → Option (Bool)
  | (a, none) => some (a.1)
  | _ => none
theorem to_of_spec_paGood : ∀ b r, of_spec_paGood b = some r → to_spec_paGood r = b := by
  rintro ⟨a, o⟩ r h
  cases o with
  | none => injection h with h; subst h; rfl
  | some _ => cases h
noncomputable def f_spec_paGood : Nat → Int × Int → Option Bool
  | 0, _ => none
  | k + 1, p0 =>
    Option.bind (f_spec_l1In k (Prod.fst p0) (0 : Int) (7 : Int)) fun z0 => if z0 = true then if decide (Prod.snd p0 = (0 : Int)) = true then some true else if decide (Prod.snd p0 = (1 : Int)) = true then Option.bind (f_spec_paTurning k (Prod.fst p0, Prod.snd p0)) fun z1 => some z1 else some false else some false
noncomputable def d_spec_paGood : FnDef := .of q_spec_paGood r_spec_paGood (Bool) (fun k x => f_spec_paGood k x.1) to_spec_paGood of_spec_paGood to_of_spec_paGood
noncomputable def c_spec_paGood : Code := Try.f126.body.getD .skip
noncomputable def x_spec_paGood : Ctx (Tup r_spec_paGood × OutD) := { T := T, G := [(114, d_spec_l1In.E), (135, d_spec_paTurning.E)], mvs := [], no := 0, n := 20, res := resOf T q_spec_paGood r_spec_paGood Try.f126.results.toList, loops := [], regs := [], conds := [] }
theorem g_spec_paGood (k : Nat) : EnvOK Try.prog k x_spec_paGood.G := (EnvOK.cons (s_spec_l1In k) (EnvOK.cons (s_spec_paTurning k) (EnvOK.nil mixed)))
theorem h_spec_paGood (k : Nat) (x : Tup d_spec_paGood.ps) : d_spec_paGood.f (k + 1) x = fnK d_spec_paGood x_spec_paGood c_spec_paGood k x := by kernel_rfl
theorem z_spec_paGood (x : Tup d_spec_paGood.ps) : d_spec_paGood.f 0 x = none := by kernel_rfl
theorem l_spec_paGood (k : Nat) : LOK Try.prog x_spec_paGood k c_spec_paGood := LOK.by [] (by kernel_rfl) AllOK.nil
theorem s_spec_paGood (k : Nat) : SoundAt Try.prog k 126 d_spec_paGood.E := @fn_all Try.prog d_spec_paGood x_spec_paGood 126 Try.f126 c_spec_paGood (by kernel_rfl) (by kernel_rfl) (by kernel_rfl) Try.func126 (by kernel_rfl) (by kernel_rfl) (by kernel_rfl) T_ok g_spec_paGood l_spec_paGood z_spec_paGood h_spec_paGood k
/-! function 128 -/
noncomputable def r_impl_validCells : List PK := [{ t := Ty.bool }]
noncomputable def q_impl_validCells : List PK := [{ t := Ty.slice (116 : Nat) (Ty.pair (Ty.int IntKind.i64) (Ty.int IntKind.i64)) }]
noncomputable def to_impl_validCells (r : Bool) : Tup r_impl_validCells × OutD := ((r, ()), none)
noncomputable def of_impl_validCells : Tup r_impl_validCells × OutD → Option (Bool)
  | (a, none) => some (a.1)
  | _ => none
theorem to_of_impl_validCells : ∀ b r, of_impl_validCells b = some r → to_impl_validCells r = b := by
  rintro ⟨a, o⟩ r h
  cases o with
  | none => injection h with h; subst h; rfl
  | some _ => cases h
noncomputable def f_impl_validCells_0 : Nat → List (Int × Int) → Int → Int → Option (LR Unit Bool)
  | 0, _, _, _ => none
  | k + 1, v8, v9, v10 =>
    if decide (v10 < v9) = true then if (0 : Int) ≤ v10 then if v10 < (↑(List.length v8) : Int) then Option.bind (f_impl_IsCell k (Prod.fst (List.getD v8 (Int.toNat v10) ((0 : Int), (0 : Int))), Prod.snd (List.getD v8 (Int.toNat v10) ((0 : Int), (0 : Int))))) fun z0 => if (!z0) = true then some (LR.ret false) else f_impl_validCells_0 k v8 v9 (wrap64 (v10 + (1 : Int))) else none else none else some (LR.go ())
noncomputable def f_impl_validCells_0i : Spec := { objs := [OSh.ro], tmps := [((8 : Nat), TSh.at (Sh.snap (0 : Nat) (Ty.pair (Ty.int IntKind.i64) (Ty.int IntKind.i64)))), ((9 : Nat), TSh.at (Sh.int IntKind.i64)), ((10 : Nat), TSh.at (Sh.int IntKind.i64))] }
noncomputable def f_impl_validCells_0o : Spec := { objs := [OSh.ro], tmps := [] }
noncomputable def f_impl_validCells_0D : LoopDef (Tup r_impl_validCells × OutD) := .rets f_impl_validCells_0i f_impl_validCells_0o (Unit) (Bool) (fun k x => f_impl_validCells_0 k x.2.1 x.2.2.1 x.2.2.2.1) (fun z => (((), ()), (()))) (fun y => ()) (fun _ => rfl) to_impl_validCells of_impl_validCells to_of_impl_validCells
noncomputable def f_impl_validCells : Nat → List (Int × Int) → Option Bool
  | 0, _ => none
  | k + 1, p0 =>
    if decide ((↑(List.length p0) : Int) > (90 : Int)) = true then some false else Option.bind (f_impl_validCells_0 k p0 (↑(List.length p0) : Int) (0 : Int)) fun z1 => LR.on z1 (fun y1 => some true) fun r1 => some r1
noncomputable def d_impl_validCells : FnDef := .of q_impl_validCells r_impl_validCells (Bool) (fun k x => f_impl_validCells k x.1) to_impl_validCells of_impl_validCells to_of_impl_validCells
noncomputable def c_impl_validCells : Code := Try.f128.body.getD .skip
noncomputable def x_impl_validCells : Ctx (Tup r_impl_validCells × OutD) := { T := T, G := [(140, d_impl_IsCell.E)], mvs := [], no := 0, n := 18, res := resOf T q_impl_validCells r_impl_validCells Try.f128.results.toList, loops := [(0, f_impl_validCells_0D.E)], regs := [], conds := [] }
theorem g_impl_validCells (k : Nat) : EnvOK Try.prog k x_impl_validCells.G := (EnvOK.cons (s_impl_IsCell k) (EnvOK.nil mixed))
noncomputable def f_impl_validCells_0B : Code := (findLoop 0 c_impl_validCells).getD .skip
theorem f_impl_validCells_0h (k : Nat) (x : f_impl_validCells_0i.D) : f_impl_validCells_0D.lp (k + 1) x = loopK x_impl_validCells f_impl_validCells_0D 0 f_impl_validCells_0B k x := by kernel_rfl
theorem f_impl_validCells_0l (k : Nat) : LOK Try.prog x_impl_validCells k f_impl_validCells_0B := LOK.by [] (by kernel_rfl) AllOK.nil
theorem f_impl_validCells_0z (x : f_impl_validCells_0i.D) : f_impl_validCells_0D.lp 0 x = none := by kernel_rfl
theorem f_impl_validCells_0ok (k : Nat) : EOK Try.prog x_impl_validCells k f_impl_validCells_0D.E (.block 0 (.loop f_impl_validCells_0B)) := loop_ok T_ok g_impl_validCells f_impl_validCells_0z f_impl_validCells_0h f_impl_validCells_0l k
theorem h_impl_validCells (k : Nat) (x : Tup d_impl_validCells.ps) : d_impl_validCells.f (k + 1) x = fnK d_impl_validCells x_impl_validCells c_impl_validCells k x := by kernel_rfl
theorem z_impl_validCells (x : Tup d_impl_validCells.ps) : d_impl_validCells.f 0 x = none := by kernel_rfl
theorem l_impl_validCells (k : Nat) : LOK Try.prog x_impl_validCells k c_impl_validCells := LOK.by [(f_impl_validCells_0D.E, .block 0 (.loop f_impl_validCells_0B))] (by kernel_rfl) (AllOK.cons (f_impl_validCells_0ok k) AllOK.nil)
theorem s_impl_validCells (k : Nat) : SoundAt Try.prog k 128 d_impl_validCells.E := @fn_all Try.prog d_impl_validCells x_impl_validCells 128 Try.f128 c_impl_validCells (by kernel_rfl) (by kernel_rfl) (by kernel_rfl) Try.func128 (by kernel_rfl) (by kernel_rfl) (by kernel_rfl) T_ok g_impl_validCells l_impl_validCells z_impl_validCells h_impl_validCells k
/-! function 129 -/
noncomputable def r_impl_IsTurning : List PK := [{ t := Ty.bool }]
noncomputable def q_impl_IsTurning : List PK := [{ t := Ty.pair (Ty.int IntKind.i64) (Ty.int IntKind.i64), agg := true }]
noncomputable def to_impl_IsTurning (r : Bool) : Tup r_impl_IsTurning × OutD := ((r, ()), none)
noncomputable def of_impl_IsTurning : Tup r_impl_IsTurning × OutD → Option (Bool)
  | (a, none) => some (a.1)
  | _ => none
theorem to_of_impl_IsTurning : ∀ b r, of_impl_IsTurning b = some r → to_impl_IsTurning r = b := by
  rintro ⟨a, o⟩ r h
  cases o with
  | none => injection h with h; subst h; rfl
  | some _ => cases h
noncomputable def f_impl_IsTurning : Nat → Int × Int → Option Bool
  | 0, _ => none
  | k + 1, p0 =>
    Option.bind (f_impl_IsCell k (Prod.fst p0, Prod.snd p0)) fun z0 => if z0 = true then if decide (Prod.fst p0 = (3 : Int)) = true then some true else some (decide (Prod.fst p0 = (6 : Int))) else some false
noncomputable def d_impl_IsTurning : FnDef := .of q_impl_IsTurning r_impl_IsTurning (Bool) (fun k x => f_impl_IsTurning k x.1) to_impl_IsTurning of_impl_IsTurning to_of_impl_IsTurning
noncomputable def c_impl_IsTurning : Code := Try.f129.body.getD .skip
noncomputable def x_impl_IsTurning : Ctx (Tup r_impl_IsTurning × OutD) := { T := T, G := [(140, d_impl_IsCell.E)], mvs := [], no := 0, n := 15, res := resOf T q_impl_IsTurning r_impl_IsTurning Try.f129.results.toList, loops := [], regs := [], conds := [] }
theorem g_impl_IsTurning (k : Nat) : EnvOK Try.prog k x_impl_IsTurning.G := (EnvOK.cons (s_impl_IsCell k) (EnvOK.nil mixed))
theorem h_impl_IsTurning (k : Nat) (x : Tup d_impl_IsTurning.ps) : d_impl_IsTurning.f (k + 1) x = fnK d_impl_IsTurning x_impl_IsTurning c_impl_IsTurning k x := by kernel_rfl
theorem z_impl_IsTurning (x : Tup d_impl_IsTurning.ps) : d_impl_IsTurning.f 0 x = none := by kernel_rfl
theorem l_impl_IsTurning (k : Nat) : LOK Try.prog x_impl_IsTurning k c_impl_IsTurning := LOK.by [] (by kernel_rfl) AllOK.nil
theorem s_impl_IsTurning (k : Nat) : SoundAt Try.prog k 129 d_impl_IsTurning.E := @fn_all Try.prog d_impl_IsTurning x_impl_IsTurning 129 Try.f129 c_impl_IsTurning (by kernel_rfl) (by kernel_rfl) (by kernel_rfl) Try.func129 (by kernel_rfl) (by kernel_rfl) (by kernel_rfl) T_ok g_impl_IsTurning l_impl_IsTurning z_impl_IsTurning h_impl_IsTurning k
/-! function 131 -/
noncomputable def r_impl_groupNumbers : List PK := [{ t := Ty.slice (3 : Nat) (Ty.int IntKind.i64) }]
noncomputable def q_impl_groupNumbers : List PK := [{ t := Ty.pair (Ty.int IntKind.i64) (Ty.pair (Ty.int IntKind.i64) (Ty.slice (116 : Nat) (Ty.pair (Ty.int IntKind.i64) (Ty.int IntKind.i64)))), agg := true }]
noncomputable def to_impl_groupNumbers (r : List Int) : Tup r_impl_groupNumbers × OutD := ((r, ()), none)
noncomputable def of_impl_groupNumbers : Tup r_impl_groupNumbers × OutD → Option (List Int)
  | (a, none) => some (a.1)
  | _ => none
theorem to_of_impl_groupNumbers : ∀ b r, of_impl_groupNumbers b = some r → to_impl_groupNumbers r = b := by
  rintro ⟨a, o⟩ r h
  cases o with
  | none => injection h with h; subst h; rfl
  | some _ => cases h
noncomputable def f_impl_groupNumbers_0 : Nat → Int → Int → List (Int × Int) → List Int → Int → Int → Option (Int × Int × List (Int × Int) × List Int)
  | 0, _, _, _, _, _, _ => none
  | k + 1, b1_0, b1_1, b1_2, o2, v17, v18 =>
    if decide (v18 < v17) = true then if (0 : Int) ≤ v18 then if v18 < (↑(List.length o2) : Int) then f_impl_groupNumbers_0 k b1_0 b1_1 b1_2 (List.set o2 (Int.toNat v18) (-1 : Int)) v17 (wrap64 (v18 + (1 : Int))) else none else none else some (b1_0, b1_1, b1_2, o2)
noncomputable def f_impl_groupNumbers_0i : Spec := { objs := [OSh.ro, OSh.box (32 : Nat) [Sh.int IntKind.i64, Sh.int IntKind.i64, Sh.snap (0 : Nat) (Ty.pair (Ty.int IntKind.i64) (Ty.int IntKind.i64))], OSh.row true (3 : Nat) (Ty.int IntKind.i64)], tmps := [((1 : Nat), TSh.at (Sh.ptr (1 : Nat) (0 : Nat))), ((3 : Nat), TSh.at (Sh.sl (2 : Nat))), ((17 : Nat), TSh.at (Sh.int IntKind.i64)), ((18 : Nat), TSh.at (Sh.int IntKind.i64))] }
noncomputable def f_impl_groupNumbers_0o : Spec := { objs := [OSh.ro, OSh.box (32 : Nat) [Sh.int IntKind.i64, Sh.int IntKind.i64, Sh.snap (0 : Nat) (Ty.pair (Ty.int IntKind.i64) (Ty.int IntKind.i64))], OSh.row true (3 : Nat) (Ty.int IntKind.i64)], tmps := [((1 : Nat), TSh.at (Sh.ptr (1 : Nat) (0 : Nat))), ((3 : Nat), TSh.at (Sh.sl (2 : Nat)))] }
noncomputable def f_impl_groupNumbers_0D : LoopDef (Tup r_impl_groupNumbers × OutD) := .plain f_impl_groupNumbers_0i f_impl_groupNumbers_0o (Int × Int × List (Int × Int) × List Int) (fun k x => f_impl_groupNumbers_0 k x.1.2.1.1 x.1.2.1.2.1 x.1.2.1.2.2.1 x.1.2.2.1 x.2.2.2.1 x.2.2.2.2.1) (fun z => (((), (z.1, z.2.1, z.2.2.1, ()), z.2.2.2, ()), ((), (), ()))) (fun y => (y.1.2.1.1, y.1.2.1.2.1, y.1.2.1.2.2.1, y.1.2.2.1)) (fun _ => rfl)
noncomputable def f_impl_groupNumbers_6 : Nat → Int → Int → List (Int × Int) → List Int → List Int → List Int → Int → List (Int × Int) → Int → Int → Int → Int → Option (Int × Int × List (Int × Int) × List Int × List Int × Int × List (Int × Int) × Int × Int)
  | 0, _, _, _, _, _, _, _, _, _, _, _, _ => none
  | k + 1, b1_0, b1_1, b1_2, o2, o3, o4, v5, v26, v27, v28, v60, v61 =>
    if decide (v61 < v60) = true then if (0 : Int) ≤ v61 then if v61 < (↑(List.length o4) : Int) then if (0 : Int) ≤ List.getD o4 (Int.toNat v61) (0 : Int) then if List.getD o4 (Int.toNat v61) (0 : Int) < (↑(List.length b1_2) : Int) then Option.bind (f_impl_isGeared k (Prod.fst (List.getD b1_2 (Int.toNat (List.getD o4 (Int.toNat v61) (0 : Int))) ((0 : Int), (0 : Int))), Prod.snd (List.getD b1_2 (Int.toNat (List.getD o4 (Int.toNat v61) (0 : Int))) ((0 : Int), (0 : Int))))) fun z3 => if z3 = true then if (0 : Int) ≤ List.getD o4 (Int.toNat v61) (0 : Int) then if List.getD o4 (Int.toNat v61) (0 : Int) < (↑(List.length o2) : Int) then if decide (List.getD o2 (Int.toNat (List.getD o4 (Int.toNat v61) (0 : Int))) (0 : Int) < (0 : Int)) = true then if (0 : Int) ≤ List.getD o4 (Int.toNat v61) (0 : Int) then if List.getD o4 (Int.toNat v61) (0 : Int) < (↑(List.length o2) : Int) then if List.length o3 + List.length [List.getD o4 (Int.toNat v61) (0 : Int)] ≤ (140737488355328 / 8 : Nat) then f_impl_groupNumbers_6 k b1_0 b1_1 b1_2 (List.set o2 (Int.toNat (List.getD o4 (Int.toNat v61) (0 : Int))) v5) (o3 ++ [List.getD o4 (Int.toNat v61) (0 : Int)]) o4 v5 v26 v27 v28 v60 (wrap64 (v61 + (1 : Int))) else none else none else none else f_impl_groupNumbers_6 k b1_0 b1_1 b1_2 o2 o3 o4 v5 v26 v27 v28 v60 (wrap64 (v61 + (1 : Int))) else none else none else f_impl_groupNumbers_6 k b1_0 b1_1 b1_2 o2 o3 o4 v5 v26 v27 v28 v60 (wrap64 (v61 + (1 : Int))) else none else none else none else none else some (b1_0, b1_1, b1_2, o2, o3, v5, v26, v27, v28)
noncomputable def f_impl_groupNumbers_6i : Spec := { objs := [OSh.ro, OSh.box (32 : Nat) [Sh.int IntKind.i64, Sh.int IntKind.i64, Sh.snap (0 : Nat) (Ty.pair (Ty.int IntKind.i64) (Ty.int IntKind.i64))], OSh.row true (3 : Nat) (Ty.int IntKind.i64), OSh.row true (3 : Nat) (Ty.int IntKind.i64), OSh.row true (3 : Nat) (Ty.int IntKind.i64)], tmps := [((1 : Nat), TSh.at (Sh.ptr (1 : Nat) (0 : Nat))), ((3 : Nat), TSh.at (Sh.sl (2 : Nat))), ((5 : Nat), TSh.at (Sh.int IntKind.i64)), ((8 : Nat), TSh.at (Sh.sl (3 : Nat))), ((26 : Nat), TSh.at (Sh.snap (0 : Nat) (Ty.pair (Ty.int IntKind.i64) (Ty.int IntKind.i64)))), ((27 : Nat), TSh.at (Sh.int IntKind.i64)), ((28 : Nat), TSh.at (Sh.int IntKind.i64)), ((59 : Nat), TSh.at (Sh.sl (4 : Nat))), ((60 : Nat), TSh.at (Sh.int IntKind.i64)), ((61 : Nat), TSh.at (Sh.int IntKind.i64))] }
noncomputable def f_impl_groupNumbers_6o : Spec := { objs := [OSh.ro, OSh.box (32 : Nat) [Sh.int IntKind.i64, Sh.int IntKind.i64, Sh.snap (0 : Nat) (Ty.pair (Ty.int IntKind.i64) (Ty.int IntKind.i64))], OSh.row true (3 : Nat) (Ty.int IntKind.i64), OSh.row true (3 : Nat) (Ty.int IntKind.i64)], tmps := [((1 : Nat), TSh.at (Sh.ptr (1 : Nat) (0 : Nat))), ((3 : Nat), TSh.at (Sh.sl (2 : Nat))), ((5 : Nat), TSh.at (Sh.int IntKind.i64)), ((8 : Nat), TSh.at (Sh.sl (3 : Nat))), ((26 : Nat), TSh.at (Sh.snap (0 : Nat) (Ty.pair (Ty.int IntKind.i64) (Ty.int IntKind.i64)))), ((27 : Nat), TSh.at (Sh.int IntKind.i64)), ((28 : Nat), TSh.at (Sh.int IntKind.i64))] }
noncomputable def f_impl_groupNumbers_6D : LoopDef (Tup r_impl_groupNumbers × OutD) := .plain f_impl_groupNumbers_6i f_impl_groupNumbers_6o (Int × Int × List (Int × Int) × List Int × List Int × Int × List (Int × Int) × Int × Int) (fun k x => f_impl_groupNumbers_6 k x.1.2.1.1 x.1.2.1.2.1 x.1.2.1.2.2.1 x.1.2.2.1 x.1.2.2.2.1 x.1.2.2.2.2.1 x.2.2.2.1 x.2.2.2.2.2.1 x.2.2.2.2.2.2.1 x.2.2.2.2.2.2.2.1 x.2.2.2.2.2.2.2.2.2.1 x.2.2.2.2.2.2.2.2.2.2.1) (fun z => (((), (z.1, z.2.1, z.2.2.1, ()), z.2.2.2.1, z.2.2.2.2.1, ()), ((), (), z.2.2.2.2.2.1, (), z.2.2.2.2.2.2.1, z.2.2.2.2.2.2.2.1, z.2.2.2.2.2.2.2.2, ()))) (fun y => (y.1.2.1.1, y.1.2.1.2.1, y.1.2.1.2.2.1, y.1.2.2.1, y.1.2.2.2.1, y.2.2.2.1, y.2.2.2.2.2.1, y.2.2.2.2.2.2.1, y.2.2.2.2.2.2.2.1)) (fun _ => rfl)
noncomputable def f_impl_groupNumbers_4 : Nat → Int → Int → List (Int × Int) → List Int → List Int → Int → List (Int × Int) → Int → Int → Option (Int × Int × List (Int × Int) × List Int × Int × List (Int × Int) × Int × Int)
  | 0, _, _, _, _, _, _, _, _, _ => none
  | k + 1, b1_0, b1_1, b1_2, o2, o3, v5, v26, v27, v28 =>
    if decide ((↑(List.length o3) : Int) > (0 : Int)) = true then if (0 : Int) < (↑(List.length o3) : Int) then if (1 : Int) ≤ (↑(List.length o3) : Int) then if (↑(List.length o3) : Int) ≤ (↑(List.length o3) : Int) then Option.bind (f_impl_besideOf k (b1_0, b1_1, b1_2) (List.getD o3 (Int.toNat (0 : Int)) (0 : Int))) fun z2 => Option.bind (f_impl_groupNumbers_6 k b1_0 b1_1 b1_2 o2 (List.drop (Int.toNat (1 : Int)) o3) z2 v5 v26 v27 v28 (↑(List.length z2) : Int) (0 : Int)) fun z4 => f_impl_groupNumbers_4 k (Prod.fst z4) (Prod.fst (Prod.snd z4)) (Prod.fst (Prod.snd (Prod.snd z4))) (Prod.fst (Prod.snd (Prod.snd (Prod.snd z4)))) (Prod.fst (Prod.snd (Prod.snd (Prod.snd (Prod.snd z4))))) (Prod.fst (Prod.snd (Prod.snd (Prod.snd (Prod.snd (Prod.snd z4)))))) (Prod.fst (Prod.snd (Prod.snd (Prod.snd (Prod.snd (Prod.snd (Prod.snd z4))))))) (Prod.fst (Prod.snd (Prod.snd (Prod.snd (Prod.snd (Prod.snd (Prod.snd (Prod.snd z4)))))))) (Prod.snd (Prod.snd (Prod.snd (Prod.snd (Prod.snd (Prod.snd (Prod.snd (Prod.snd z4)))))))) else none else none else none else some (b1_0, b1_1, b1_2, o2, v5, v26, v27, v28)
noncomputable def f_impl_groupNumbers_4i : Spec := { objs := [OSh.ro, OSh.box (32 : Nat) [Sh.int IntKind.i64, Sh.int IntKind.i64, Sh.snap (0 : Nat) (Ty.pair (Ty.int IntKind.i64) (Ty.int IntKind.i64))], OSh.row true (3 : Nat) (Ty.int IntKind.i64), OSh.row true (3 : Nat) (Ty.int IntKind.i64)], tmps := [((1 : Nat), TSh.at (Sh.ptr (1 : Nat) (0 : Nat))), ((3 : Nat), TSh.at (Sh.sl (2 : Nat))), ((5 : Nat), TSh.at (Sh.int IntKind.i64)), ((8 : Nat), TSh.at (Sh.sl (3 : Nat))), ((26 : Nat), TSh.at (Sh.snap (0 : Nat) (Ty.pair (Ty.int IntKind.i64) (Ty.int IntKind.i64)))), ((27 : Nat), TSh.at (Sh.int IntKind.i64)), ((28 : Nat), TSh.at (Sh.int IntKind.i64))] }
noncomputable def f_impl_groupNumbers_4o : Spec := { objs := [OSh.ro, OSh.box (32 : Nat) [Sh.int IntKind.i64, Sh.int IntKind.i64, Sh.snap (0 : Nat) (Ty.pair (Ty.int IntKind.i64) (Ty.int IntKind.i64))], OSh.row true (3 : Nat) (Ty.int IntKind.i64)], tmps := [((1 : Nat), TSh.at (Sh.ptr (1 : Nat) (0 : Nat))), ((3 : Nat), TSh.at (Sh.sl (2 : Nat))), ((5 : Nat), TSh.at (Sh.int IntKind.i64)), ((26 : Nat), TSh.at (Sh.snap (0 : Nat) (Ty.pair (Ty.int IntKind.i64) (Ty.int IntKind.i64)))), ((27 : Nat), TSh.at (Sh.int IntKind.i64)), ((28 : Nat), TSh.at (Sh.int IntKind.i64))] }
noncomputable def f_impl_groupNumbers_4D : LoopDef (Tup r_impl_groupNumbers × OutD) := .plain f_impl_groupNumbers_4i f_impl_groupNumbers_4o (Int × Int × List (Int × Int) × List Int × Int × List (Int × Int) × Int × Int) (fun k x => f_impl_groupNumbers_4 k x.1.2.1.1 x.1.2.1.2.1 x.1.2.1.2.2.1 x.1.2.2.1 x.1.2.2.2.1 x.2.2.2.1 x.2.2.2.2.2.1 x.2.2.2.2.2.2.1 x.2.2.2.2.2.2.2.1) (fun z => (((), (z.1, z.2.1, z.2.2.1, ()), z.2.2.2.1, ()), ((), (), z.2.2.2.2.1, z.2.2.2.2.2.1, z.2.2.2.2.2.2.1, z.2.2.2.2.2.2.2, ()))) (fun y => (y.1.2.1.1, y.1.2.1.2.1, y.1.2.1.2.2.1, y.1.2.2.1, y.2.2.2.1, y.2.2.2.2.1, y.2.2.2.2.2.1, y.2.2.2.2.2.2.1)) (fun _ => rfl)
noncomputable def f_impl_groupNumbers_2 : Nat → Int → Int → List (Int × Int) → List Int → Int → List (Int × Int) → Int → Int → Option (List Int)
  | 0, _, _, _, _, _, _, _, _ => none
  | k + 1, b1_0, b1_1, b1_2, o2, v5, v26, v27, v28 =>
    if decide (v28 < v27) = true then if (0 : Int) ≤ v28 then if v28 < (↑(List.length v26) : Int) then Option.bind (f_impl_isGeared k (Prod.fst (List.getD v26 (Int.toNat v28) ((0 : Int), (0 : Int))), Prod.snd (List.getD v26 (Int.toNat v28) ((0 : Int), (0 : Int))))) fun z1 => if (!z1) = true then f_impl_groupNumbers_2 k b1_0 b1_1 b1_2 o2 v5 v26 v27 (wrap64 (v28 + (1 : Int))) else if (0 : Int) ≤ v28 then if v28 < (↑(List.length o2) : Int) then if decide (List.getD o2 (Int.toNat v28) (0 : Int) ≥ (0 : Int)) = true then f_impl_groupNumbers_2 k b1_0 b1_1 b1_2 o2 v5 v26 v27 (wrap64 (v28 + (1 : Int))) else if (0 : Int) ≤ v28 then if v28 < (↑(List.length o2) : Int) then Option.bind (f_impl_groupNumbers_4 k b1_0 b1_1 b1_2 (List.set o2 (Int.toNat v28) v5) [v28] v5 v26 v27 v28) fun z5 => f_impl_groupNumbers_2 k (Prod.fst z5) (Prod.fst (Prod.snd z5)) (Prod.fst (Prod.snd (Prod.snd z5))) (Prod.fst (Prod.snd (Prod.snd (Prod.snd z5)))) (wrap64 (Prod.fst (Prod.snd (Prod.snd (Prod.snd (Prod.snd z5)))) + (1 : Int))) (Prod.fst (Prod.snd (Prod.snd (Prod.snd (Prod.snd (Prod.snd z5)))))) (Prod.fst (Prod.snd (Prod.snd (Prod.snd (Prod.snd (Prod.snd (Prod.snd z5))))))) (wrap64 (Prod.snd (Prod.snd (Prod.snd (Prod.snd (Prod.snd (Prod.snd (Prod.snd z5)))))) + (1 : Int))) else none else none else none else none else none else none else some o2
noncomputable def f_impl_groupNumbers_2i : Spec := { objs := [OSh.ro, OSh.box (32 : Nat) [Sh.int IntKind.i64, Sh.int IntKind.i64, Sh.snap (0 : Nat) (Ty.pair (Ty.int IntKind.i64) (Ty.int IntKind.i64))], OSh.row true (3 : Nat) (Ty.int IntKind.i64)], tmps := [((1 : Nat), TSh.at (Sh.ptr (1 : Nat) (0 : Nat))), ((3 : Nat), TSh.at (Sh.sl (2 : Nat))), ((5 : Nat), TSh.at (Sh.int IntKind.i64)), ((26 : Nat), TSh.at (Sh.snap (0 : Nat) (Ty.pair (Ty.int IntKind.i64) (Ty.int IntKind.i64)))), ((27 : Nat), TSh.at (Sh.int IntKind.i64)), ((28 : Nat), TSh.at (Sh.int IntKind.i64))] }
noncomputable def f_impl_groupNumbers_2o : Spec := { objs := [OSh.ro, OSh.row true (3 : Nat) (Ty.int IntKind.i64)], tmps := [((3 : Nat), TSh.at (Sh.sl (1 : Nat)))] }
noncomputable def f_impl_groupNumbers_2D : LoopDef (Tup r_impl_groupNumbers × OutD) := .plain f_impl_groupNumbers_2i f_impl_groupNumbers_2o (List Int) (fun k x => f_impl_groupNumbers_2 k x.1.2.1.1 x.1.2.1.2.1 x.1.2.1.2.2.1 x.1.2.2.1 x.2.2.2.1 x.2.2.2.2.1 x.2.2.2.2.2.1 x.2.2.2.2.2.2.1) (fun z => (((), z, ()), ((), ()))) (fun y => (y.1.2.1)) (fun _ => rfl)
noncomputable def f_impl_groupNumbers : Nat → Int × Int × List (Int × Int) → Option (List Int)
  | 0, _ => none
  | k + 1, p0 =>
    if Int.toNat (↑(List.length (Prod.snd (Prod.snd p0))) : Int) * (8 : Nat) ≤ (281474976710656 : Nat) then Option.bind (f_impl_groupNumbers_0 k (Prod.fst p0) (Prod.fst (Prod.snd p0)) (Prod.snd (Prod.snd p0)) (List.replicate (Int.toNat (↑(List.length (Prod.snd (Prod.snd p0))) : Int)) (0 : Int)) (↑(List.length (List.replicate (Int.toNat (↑(List.length (Prod.snd (Prod.snd p0))) : Int)) (0 : Int))) : Int) (0 : Int)) fun z0 => Option.bind (f_impl_groupNumbers_2 k (Prod.fst z0) (Prod.fst (Prod.snd z0)) (Prod.fst (Prod.snd (Prod.snd z0))) (Prod.snd (Prod.snd (Prod.snd z0))) (0 : Int) (Prod.fst (Prod.snd (Prod.snd z0))) (↑(List.length (Prod.fst (Prod.snd (Prod.snd z0)))) : Int) (0 : Int)) fun z6 => some z6 else none
noncomputable def d_impl_groupNumbers : FnDef := .of q_impl_groupNumbers r_impl_groupNumbers (List Int) (fun k x => f_impl_groupNumbers k x.1) to_impl_groupNumbers of_impl_groupNumbers to_of_impl_groupNumbers
noncomputable def c_impl_groupNumbers : Code := Try.f131.body.getD .skip
noncomputable def x_impl_groupNumbers : Ctx (Tup r_impl_groupNumbers × OutD) := { T := T, G := [(141, d_impl_isGeared.E), (142, d_impl_besideOf.E)], mvs := [56], no := 0, n := 91, res := resOf T q_impl_groupNumbers r_impl_groupNumbers Try.f131.results.toList, loops := [(0, f_impl_groupNumbers_0D.E), (6, f_impl_groupNumbers_6D.E), (4, f_impl_groupNumbers_4D.E), (2, f_impl_groupNumbers_2D.E)], regs := [], conds := [] }
theorem g_impl_groupNumbers (k : Nat) : EnvOK Try.prog k x_impl_groupNumbers.G := (EnvOK.cons (s_impl_isGeared k) (EnvOK.cons (s_impl_besideOf k) (EnvOK.nil mixed)))
noncomputable def f_impl_groupNumbers_0B : Code := (findLoop 0 c_impl_groupNumbers).getD .skip
theorem f_impl_groupNumbers_0h (k : Nat) (x : f_impl_groupNumbers_0i.D) : f_impl_groupNumbers_0D.lp (k + 1) x = loopK x_impl_groupNumbers f_impl_groupNumbers_0D 0 f_impl_groupNumbers_0B k x := by kernel_rfl
theorem f_impl_groupNumbers_0l (k : Nat) : LOK Try.prog x_impl_groupNumbers k f_impl_groupNumbers_0B := LOK.by [] (by kernel_rfl) AllOK.nil
theorem f_impl_groupNumbers_0z (x : f_impl_groupNumbers_0i.D) : f_impl_groupNumbers_0D.lp 0 x = none := by kernel_rfl
theorem f_impl_groupNumbers_0ok (k : Nat) : EOK Try.prog x_impl_groupNumbers k f_impl_groupNumbers_0D.E (.block 0 (.loop f_impl_groupNumbers_0B)) := loop_ok T_ok g_impl_groupNumbers f_impl_groupNumbers_0z f_impl_groupNumbers_0h f_impl_groupNumbers_0l k
noncomputable def f_impl_groupNumbers_6B : Code := (findLoop 6 c_impl_groupNumbers).getD .skip
theorem f_impl_groupNumbers_6h (k : Nat) (x : f_impl_groupNumbers_6i.D) : f_impl_groupNumbers_6D.lp (k + 1) x = loopK x_impl_groupNumbers f_impl_groupNumbers_6D 6 f_impl_groupNumbers_6B k x := by kernel_rfl
theorem f_impl_groupNumbers_6l (k : Nat) : LOK Try.prog x_impl_groupNumbers k f_impl_groupNumbers_6B := LOK.by [] (by kernel_rfl) AllOK.nil
theorem f_impl_groupNumbers_6z (x : f_impl_groupNumbers_6i.D) : f_impl_groupNumbers_6D.lp 0 x = none := by kernel_rfl
theorem f_impl_groupNumbers_6ok (k : Nat) : EOK Try.prog x_impl_groupNumbers k f_impl_groupNumbers_6D.E (.block 6 (.loop f_impl_groupNumbers_6B)) := loop_ok T_ok g_impl_groupNumbers f_impl_groupNumbers_6z f_impl_groupNumbers_6h f_impl_groupNumbers_6l k
noncomputable def f_impl_groupNumbers_4B : Code := (findLoop 4 c_impl_groupNumbers).getD .skip
theorem f_impl_groupNumbers_4h (k : Nat) (x : f_impl_groupNumbers_4i.D) : f_impl_groupNumbers_4D.lp (k + 1) x = loopK x_impl_groupNumbers f_impl_groupNumbers_4D 4 f_impl_groupNumbers_4B k x := by kernel_rfl
theorem f_impl_groupNumbers_4l (k : Nat) : LOK Try.prog x_impl_groupNumbers k f_impl_groupNumbers_4B := LOK.by [(f_impl_groupNumbers_6D.E, .block 6 (.loop f_impl_groupNumbers_6B))] (by kernel_rfl) (AllOK.cons (f_impl_groupNumbers_6ok k) AllOK.nil)
theorem f_impl_groupNumbers_4z (x : f_impl_groupNumbers_4i.D) : f_impl_groupNumbers_4D.lp 0 x = none := by kernel_rfl
theorem f_impl_groupNumbers_4ok (k : Nat) : EOK Try.prog x_impl_groupNumbers k f_impl_groupNumbers_4D.E (.block 4 (.loop f_impl_groupNumbers_4B)) := loop_ok T_ok g_impl_groupNumbers f_impl_groupNumbers_4z f_impl_groupNumbers_4h f_impl_groupNumbers_4l k
noncomputable def f_impl_groupNumbers_2B : Code := (findLoop 2 c_impl_groupNumbers).getD .skip
theorem f_impl_groupNumbers_2h (k : Nat) (x : f_impl_groupNumbers_2i.D) : f_impl_groupNumbers_2D.lp (k + 1) x = loopK x_impl_groupNumbers f_impl_groupNumbers_2D 2 f_impl_groupNumbers_2B k x := by kernel_rfl
theorem f_impl_groupNumbers_2l (k : Nat) : LOK Try.prog x_impl_groupNumbers k f_impl_groupNumbers_2B := LOK.by [(f_impl_groupNumbers_4D.E, .block 4 (.loop f_impl_groupNumbers_4B))] (by kernel_rfl) (AllOK.cons (f_impl_groupNumbers_4ok k) AllOK.nil)
theorem f_impl_groupNumbers_2z (x : f_impl_groupNumbers_2i.D) : f_impl_groupNumbers_2D.lp 0 x = none := by kernel_rfl
theorem f_impl_groupNumbers_2ok (k : Nat) : EOK Try.prog x_impl_groupNumbers k f_impl_groupNumbers_2D.E (.block 2 (.loop f_impl_groupNumbers_2B)) := loop_ok T_ok g_impl_groupNumbers f_impl_groupNumbers_2z f_impl_groupNumbers_2h f_impl_groupNumbers_2l k
theorem h_impl_groupNumbers (k : Nat) (x : Tup d_impl_groupNumbers.ps) : d_impl_groupNumbers.f (k + 1) x = fnK d_impl_groupNumbers x_impl_groupNumbers c_impl_groupNumbers k x := by kernel_rfl
theorem z_impl_groupNumbers (x : Tup d_impl_groupNumbers.ps) : d_impl_groupNumbers.f 0 x = none := by kernel_rfl
theorem l_impl_groupNumbers (k : Nat) : LOK Try.prog x_impl_groupNumbers k c_impl_groupNumbers := LOK.by [(f_impl_groupNumbers_0D.E, .block 0 (.loop f_impl_groupNumbers_0B)), (f_impl_groupNumbers_2D.E, .block 2 (.loop f_impl_groupNumbers_2B))] (by kernel_rfl) (AllOK.cons (f_impl_groupNumbers_0ok k) (AllOK.cons (f_impl_groupNumbers_2ok k) AllOK.nil))
theorem s_impl_groupNumbers (k : Nat) : SoundAt Try.prog k 131 d_impl_groupNumbers.E := @fn_all Try.prog d_impl_groupNumbers x_impl_groupNumbers 131 Try.f131 c_impl_groupNumbers (by kernel_rfl) (by kernel_rfl) (by kernel_rfl) Try.func131 (by kernel_rfl) (by kernel_rfl) (by kernel_rfl) T_ok g_impl_groupNumbers l_impl_groupNumbers z_impl_groupNumbers h_impl_groupNumbers k
/-! function 137 -/
noncomputable def r_spec_ggGroups : List PK := [{ t := Ty.slice (3 : Nat) (Ty.int IntKind.i64) }]
noncomputable def q_spec_ggGroups : List PK := [{ t := Ty.pair (Ty.int IntKind.i64) (Ty.pair (Ty.int IntKind.i64) (Ty.slice (116 : Nat) (Ty.pair (Ty.int IntKind.i64) (Ty.int IntKind.i64)))), agg := true }]
noncomputable def to_spec_ggGroups (r : List Int) : Tup r_spec_ggGroups × OutD := ((r, ()), none)
noncomputable def of_spec_ggGroups : Tup r_spec_ggGroups × OutD → Option (List Int)
  | (a, none) => some (a.1)
  | _ => none
theorem to_of_spec_ggGroups : ∀ b r, of_spec_ggGroups b = some r → to_spec_ggGroups r = b := by
  rintro ⟨a, o⟩ r h
  cases o with
  | none => injection h with h; subst h; rfl
  | some _ => cases h
noncomputable def f_spec_ggGroups_0 : Nat → Int → Int → List (Int × Int) → List Int → Int → Int → Option (Int × Int × List (Int × Int) × List Int)
  | 0, _, _, _, _, _, _ => none
  | k + 1, b1_0, b1_1, b1_2, o2, v17, v18 =>
    if decide (v18 < v17) = true then if (0 : Int) ≤ v18 then if v18 < (↑(List.length o2) : Int) then f_spec_ggGroups_0 k b1_0 b1_1 b1_2 (List.set o2 (Int.toNat v18) (-1 : Int)) v17 (wrap64 (v18 + (1 : Int))) else none else none else some (b1_0, b1_1, b1_2, o2)
noncomputable def f_spec_ggGroups_0i : Spec := { objs := [OSh.ro, OSh.box (32 : Nat) [Sh.int IntKind.i64, Sh.int IntKind.i64, Sh.snap (0 : Nat) (Ty.pair (Ty.int IntKind.i64) (Ty.int IntKind.i64))], OSh.row true (3 : Nat) (Ty.int IntKind.i64)], tmps := [((1 : Nat), TSh.at (Sh.ptr (1 : Nat) (0 : Nat))), ((3 : Nat), TSh.at (Sh.sl (2 : Nat))), ((17 : Nat), TSh.at (Sh.int IntKind.i64)), ((18 : Nat), TSh.at (Sh.int IntKind.i64))] }
noncomputable def f_spec_ggGroups_0o : Spec := { objs := [OSh.ro, OSh.box (32 : Nat) [Sh.int IntKind.i64, Sh.int IntKind.i64, Sh.snap (0 : Nat) (Ty.pair (Ty.int IntKind.i64) (Ty.int IntKind.i64))], OSh.row true (3 : Nat) (Ty.int IntKind.i64)], tmps := [((1 : Nat), TSh.at (Sh.ptr (1 : Nat) (0 : Nat))), ((3 : Nat), TSh.at (Sh.sl (2 : Nat)))] }
noncomputable def f_spec_ggGroups_0D : LoopDef (Tup r_spec_ggGroups × OutD) := .plain f_spec_ggGroups_0i f_spec_ggGroups_0o (Int × Int × List (Int × Int) × List Int) (fun k x => f_spec_ggGroups_0 k x.1.2.1.1 x.1.2.1.2.1 x.1.2.1.2.2.1 x.1.2.2.1 x.2.2.2.1 x.2.2.2.2.1) (fun z => (((), (z.1, z.2.1, z.2.2.1, ()), z.2.2.2, ()), ((), (), ()))) (fun y => (y.1.2.1.1, y.1.2.1.2.1, y.1.2.1.2.2.1, y.1.2.2.1)) (fun _ => rfl)
noncomputable def f_spec_ggGroups_6 : Nat → Int → Int → List (Int × Int) → List Int → List Int → List Int → Int → Int → List (Int × Int) → Int → Int → Int → Int → Option (Int × Int × List (Int × Int) × List Int × List Int × Int × Int × List (Int × Int) × Int × Int)
  | 0, _, _, _, _, _, _, _, _, _, _, _, _, _ => none
  | k + 1, b1_0, b1_1, b1_2, o2, o3, o4, v5, v9, v26, v27, v28, v61, v62 =>
    if decide (v62 < v61) = true then if (0 : Int) ≤ v62 then if v62 < (↑(List.length o4) : Int) then if (0 : Int) ≤ List.getD o4 (Int.toNat v62) (0 : Int) then if List.getD o4 (Int.toNat v62) (0 : Int) < (↑(List.length b1_2) : Int) then Option.bind (f_spec_ggGear k (Prod.fst (List.getD b1_2 (Int.toNat (List.getD o4 (Int.toNat v62) (0 : Int))) ((0 : Int), (0 : Int))), Prod.snd (List.getD b1_2 (Int.toNat (List.getD o4 (Int.toNat v62) (0 : Int))) ((0 : Int), (0 : Int))))) fun z3 => if z3 = true then if (0 : Int) ≤ List.getD o4 (Int.toNat v62) (0 : Int) then if List.getD o4 (Int.toNat v62) (0 : Int) < (↑(List.length o2) : Int) then if decide (List.getD o2 (Int.toNat (List.getD o4 (Int.toNat v62) (0 : Int))) (0 : Int) < (0 : Int)) = true then if (0 : Int) ≤ List.getD o4 (Int.toNat v62) (0 : Int) then if List.getD o4 (Int.toNat v62) (0 : Int) < (↑(List.length o2) : Int) then if List.length o3 + List.length [List.getD o4 (Int.toNat v62) (0 : Int)] ≤ (140737488355328 / 8 : Nat) then f_spec_ggGroups_6 k b1_0 b1_1 b1_2 (List.set o2 (Int.toNat (List.getD o4 (Int.toNat v62) (0 : Int))) v5) (o3 ++ [List.getD o4 (Int.toNat v62) (0 : Int)]) o4 v5 v9 v26 v27 v28 v61 (wrap64 (v62 + (1 : Int))) else none else none else none else f_spec_ggGroups_6 k b1_0 b1_1 b1_2 o2 o3 o4 v5 v9 v26 v27 v28 v61 (wrap64 (v62 + (1 : Int))) else none else none else f_spec_ggGroups_6 k b1_0 b1_1 b1_2 o2 o3 o4 v5 v9 v26 v27 v28 v61 (wrap64 (v62 + (1 : Int))) else none else none else none else none else some (b1_0, b1_1, b1_2, o2, o3, v5, v9, v26, v27, v28)
noncomputable def f_spec_ggGroups_6i : Spec := { objs := [OSh.ro, OSh.box (32 : Nat) [Sh.int IntKind.i64, Sh.int IntKind.i64, Sh.snap (0 : Nat) (Ty.pair (Ty.int IntKind.i64) (Ty.int IntKind.i64))], OSh.row true (3 : Nat) (Ty.int IntKind.i64), OSh.row true (3 : Nat) (Ty.int IntKind.i64), OSh.row true (3 : Nat) (Ty.int IntKind.i64)], tmps := [((1 : Nat), TSh.at (Sh.ptr (1 : Nat) (0 : Nat))), ((3 : Nat), TSh.at (Sh.sl (2 : Nat))), ((5 : Nat), TSh.at (Sh.int IntKind.i64)), ((8 : Nat), TSh.at (Sh.sl (3 : Nat))), ((9 : Nat), TSh.at (Sh.int IntKind.i64)), ((26 : Nat), TSh.at (Sh.snap (0 : Nat) (Ty.pair (Ty.int IntKind.i64) (Ty.int IntKind.i64)))), ((27 : Nat), TSh.at (Sh.int IntKind.i64)), ((28 : Nat), TSh.at (Sh.int IntKind.i64)), ((60 : Nat), TSh.at (Sh.sl (4 : Nat))), ((61 : Nat), TSh.at (Sh.int IntKind.i64)), ((62 : Nat), TSh.at (Sh.int IntKind.i64))] }
noncomputable def f_spec_ggGroups_6o : Spec := { objs := [OSh.ro, OSh.box (32 : Nat) [Sh.int IntKind.i64, Sh.int IntKind.i64, Sh.snap (0 : Nat) (Ty.pair (Ty.int IntKind.i64) (Ty.int IntKind.i64))], OSh.row true (3 : Nat) (Ty.int IntKind.i64), OSh.row true (3 : Nat) (Ty.int IntKind.i64)], tmps := [((1 : Nat), TSh.at (Sh.ptr (1 : Nat) (0 : Nat))), ((3 : Nat), TSh.at (Sh.sl (2 : Nat))), ((5 : Nat), TSh.at (Sh.int IntKind.i64)), ((8 : Nat), TSh.at (Sh.sl (3 : Nat))), ((9 : Nat), TSh.at (Sh.int IntKind.i64)), ((26 : Nat), TSh.at (Sh.snap (0 : Nat) (Ty.pair (Ty.int IntKind.i64) (Ty.int IntKind.i64)))), ((27 : Nat), TSh.at (Sh.int IntKind.i64)), ((28 : Nat), TSh.at (Sh.int IntKind.i64))] }
noncomputable def f_spec_ggGroups_6D : LoopDef (Tup r_spec_ggGroups × OutD) := .plain f_spec_ggGroups_6i f_spec_ggGroups_6o (Int × Int × List (Int × Int) × List Int × List Int × Int × Int × List (Int × Int) × Int × Int) (fun k x => f_spec_ggGroups_6 k x.1.2.1.1 x.1.2.1.2.1 x.1.2.1.2.2.1 x.1.2.2.1 x.1.2.2.2.1 x.1.2.2.2.2.1 x.2.2.2.1 x.2.2.2.2.2.1 x.2.2.2.2.2.2.1 x.2.2.2.2.2.2.2.1 x.2.2.2.2.2.2.2.2.1 x.2.2.2.2.2.2.2.2.2.2.1 x.2.2.2.2.2.2.2.2.2.2.2.1) (fun z => (((), (z.1, z.2.1, z.2.2.1, ()), z.2.2.2.1, z.2.2.2.2.1, ()), ((), (), z.2.2.2.2.2.1, (), z.2.2.2.2.2.2.1, z.2.2.2.2.2.2.2.1, z.2.2.2.2.2.2.2.2.1, z.2.2.2.2.2.2.2.2.2, ()))) (fun y => (y.1.2.1.1, y.1.2.1.2.1, y.1.2.1.2.2.1, y.1.2.2.1, y.1.2.2.2.1, y.2.2.2.1, y.2.2.2.2.2.1, y.2.2.2.2.2.2.1, y.2.2.2.2.2.2.2.1, y.2.2.2.2.2.2.2.2.1)) (fun _ => rfl)
noncomputable def f_spec_ggGroups_4 : Nat → Int → Int → List (Int × Int) → List Int → List Int → Int → Int → List (Int × Int) → Int → Int → Option (Int × Int × List (Int × Int) × List Int × Int × List (Int × Int) × Int × Int)
  | 0, _, _, _, _, _, _, _, _, _, _ => none
  | k + 1, b1_0, b1_1, b1_2, o2, o3, v5, v9, v26, v27, v28 =>
    if decide (v9 < (↑(List.length o3) : Int)) = true then if (0 : Int) ≤ v9 then if v9 < (↑(List.length o3) : Int) then Option.bind (f_spec_ggNear k (b1_0, b1_1, b1_2) (List.getD o3 (Int.toNat v9) (0 : Int))) fun z2 => Option.bind (f_spec_ggGroups_6 k b1_0 b1_1 b1_2 o2 o3 z2 v5 v9 v26 v27 v28 (↑(List.length z2) : Int) (0 : Int)) fun z4 => f_spec_ggGroups_4 k (Prod.fst z4) (Prod.fst (Prod.snd z4)) (Prod.fst (Prod.snd (Prod.snd z4))) (Prod.fst (Prod.snd (Prod.snd (Prod.snd z4)))) (Prod.fst (Prod.snd (Prod.snd (Prod.snd (Prod.snd z4))))) (Prod.fst (Prod.snd (Prod.snd (Prod.snd (Prod.snd (Prod.snd z4)))))) (wrap64 (Prod.fst (Prod.snd (Prod.snd (Prod.snd (Prod.snd (Prod.snd (Prod.snd z4)))))) + (1 : Int))) (Prod.fst (Prod.snd (Prod.snd (Prod.snd (Prod.snd (Prod.snd (Prod.snd (Prod.snd z4)))))))) (Prod.fst (Prod.snd (Prod.snd (Prod.snd (Prod.snd (Prod.snd (Prod.snd (Prod.snd (Prod.snd z4))))))))) (Prod.snd (Prod.snd (Prod.snd (Prod.snd (Prod.snd (Prod.snd (Prod.snd (Prod.snd (Prod.snd z4))))))))) else none else none else some (b1_0, b1_1, b1_2, o2, v5, v26, v27, v28)
noncomputable def f_spec_ggGroups_4i : Spec := { objs := [OSh.ro, OSh.box (32 : Nat) [Sh.int IntKind.i64, Sh.int IntKind.i64, Sh.snap (0 : Nat) (Ty.pair (Ty.int IntKind.i64) (Ty.int IntKind.i64))], OSh.row true (3 : Nat) (Ty.int IntKind.i64), OSh.row true (3 : Nat) (Ty.int IntKind.i64)], tmps := [((1 : Nat), TSh.at (Sh.ptr (1 : Nat) (0 : Nat))), ((3 : Nat), TSh.at (Sh.sl (2 : Nat))), ((5 : Nat), TSh.at (Sh.int IntKind.i64)), ((8 : Nat), TSh.at (Sh.sl (3 : Nat))), ((9 : Nat), TSh.at (Sh.int IntKind.i64)), ((26 : Nat), TSh.at (Sh.snap (0 : Nat) (Ty.pair (Ty.int IntKind.i64) (Ty.int IntKind.i64)))), ((27 : Nat), TSh.at (Sh.int IntKind.i64)), ((28 : Nat), TSh.at (Sh.int IntKind.i64))] }
noncomputable def f_spec_ggGroups_4o : Spec := { objs := [OSh.ro, OSh.box (32 : Nat) [Sh.int IntKind.i64, Sh.int IntKind.i64, Sh.snap (0 : Nat) (Ty.pair (Ty.int IntKind.i64) (Ty.int IntKind.i64))], OSh.row true (3 : Nat) (Ty.int IntKind.i64)], tmps := [((1 : Nat), TSh.at (Sh.ptr (1 : Nat) (0 : Nat))), ((3 : Nat), TSh.at (Sh.sl (2 : Nat))), ((5 : Nat), TSh.at (Sh.int IntKind.i64)), ((26 : Nat), TSh.at (Sh.snap (0 : Nat) (Ty.pair (Ty.int IntKind.i64) (Ty.int IntKind.i64)))), ((27 : Nat), TSh.at (Sh.int IntKind.i64)), ((28 : Nat), TSh.at (Sh.int IntKind.i64))] }
noncomputable def f_spec_ggGroups_4D : LoopDef (Tup r_spec_ggGroups × OutD) := .plain f_spec_ggGroups_4i f_spec_ggGroups_4o (Int × Int × List (Int × Int) × List Int × Int × List (Int × Int) × Int × Int) (fun k x => f_spec_ggGroups_4 k x.1.2.1.1 x.1.2.1.2.1 x.1.2.1.2.2.1 x.1.2.2.1 x.1.2.2.2.1 x.2.2.2.1 x.2.2.2.2.2.1 x.2.2.2.2.2.2.1 x.2.2.2.2.2.2.2.1 x.2.2.2.2.2.2.2.2.1) (fun z => (((), (z.1, z.2.1, z.2.2.1, ()), z.2.2.2.1, ()), ((), (), z.2.2.2.2.1, z.2.2.2.2.2.1, z.2.2.2.2.2.2.1, z.2.2.2.2.2.2.2, ()))) (fun y => (y.1.2.1.1, y.1.2.1.2.1, y.1.2.1.2.2.1, y.1.2.2.1, y.2.2.2.1, y.2.2.2.2.1, y.2.2.2.2.2.1, y.2.2.2.2.2.2.1)) (fun _ => rfl)
noncomputable def f_spec_ggGroups_2 : Nat → Int → Int → List (Int × Int) → List Int → Int → List (Int × Int) → Int → Int → Option (List Int)
  | 0, _, _, _, _, _, _, _, _ => none
  | k + 1, b1_0, b1_1, b1_2, o2, v5, v26, v27, v28 =>
    if decide (v28 < v27) = true then if (0 : Int) ≤ v28 then if v28 < (↑(List.length v26) : Int) then Option.bind (f_spec_ggGear k (Prod.fst (List.getD v26 (Int.toNat v28) ((0 : Int), (0 : Int))), Prod.snd (List.getD v26 (Int.toNat v28) ((0 : Int), (0 : Int))))) fun z1 => if (!z1) = true then f_spec_ggGroups_2 k b1_0 b1_1 b1_2 o2 v5 v26 v27 (wrap64 (v28 + (1 : Int))) else if (0 : Int) ≤ v28 then if v28 < (↑(List.length o2) : Int) then if decide (List.getD o2 (Int.toNat v28) (0 : Int) ≥ (0 : Int)) = true then f_spec_ggGroups_2 k b1_0 b1_1 b1_2 o2 v5 v26 v27 (wrap64 (v28 + (1 : Int))) else if (0 : Int) ≤ v28 then if v28 < (↑(List.length o2) : Int) then Option.bind (f_spec_ggGroups_4 k b1_0 b1_1 b1_2 (List.set o2 (Int.toNat v28) v5) [v28] v5 (0 : Int) v26 v27 v28) fun z5 => f_spec_ggGroups_2 k (Prod.fst z5) (Prod.fst (Prod.snd z5)) (Prod.fst (Prod.snd (Prod.snd z5))) (Prod.fst (Prod.snd (Prod.snd (Prod.snd z5)))) (wrap64 (Prod.fst (Prod.snd (Prod.snd (Prod.snd (Prod.snd z5)))) + (1 : Int))) (Prod.fst (Prod.snd (Prod.snd (Prod.snd (Prod.snd (Prod.snd z5)))))) (Prod.fst (Prod.snd (Prod.snd (Prod.snd (Prod.snd (Prod.snd (Prod.snd z5))))))) (wrap64 (Prod.snd (Prod.snd (Prod.snd (Prod.snd (Prod.snd (Prod.snd (Prod.snd z5)))))) + (1 : Int))) else none else none else none else none else none else none else some o2
noncomputable def f_spec_ggGroups_2i : Spec := { objs := [OSh.ro, OSh.box (32 : Nat) [Sh.int IntKind.i64, Sh.int IntKind.i64, Sh.snap (0 : Nat) (Ty.pair (Ty.int IntKind.i64) (Ty.int IntKind.i64))], OSh.row true (3 : Nat) (Ty.int IntKind.i64)], tmps := [((1 : Nat), TSh.at (Sh.ptr (1 : Nat) (0 : Nat))), ((3 : Nat), TSh.at (Sh.sl (2 : Nat))), ((5 : Nat), TSh.at (Sh.int IntKind.i64)), ((26 : Nat), TSh.at (Sh.snap (0 : Nat) (Ty.pair (Ty.int IntKind.i64) (Ty.int IntKind.i64)))), ((27 : Nat), TSh.at (Sh.int IntKind.i64)), ((28 : Nat), TSh.at (Sh.int IntKind.i64))] }
noncomputable def f_spec_ggGroups_2o : Spec := { objs := [OSh.ro, OSh.row true (3 : Nat) (Ty.int IntKind.i64)], tmps := [((3 : Nat), TSh.at (Sh.sl (1 : Nat)))] }
noncomputable def f_spec_ggGroups_2D : LoopDef (Tup r_spec_ggGroups × OutD) := .plain f_spec_ggGroups_2i f_spec_ggGroups_2o (List Int) (fun k x => f_spec_ggGroups_2 k x.1.2.1.1 x.1.2.1.2.1 x.1.2.1.2.2.1 x.1.2.2.1 x.2.2.2.1 x.2.2.2.2.1 x.2.2.2.2.2.1 x.2.2.2.2.2.2.1) (fun z => (((), z, ()), ((), ()))) (fun y => (y.1.2.1)) (fun _ => rfl)
noncomputable def f_spec_ggGroups : Nat → Int × Int × List (Int × Int) → Option (List Int)
  | 0, _ => none
  | k + 1, p0 =>
    if Int.toNat (↑(List.length (Prod.snd (Prod.snd p0))) : Int) * (8 : Nat) ≤ (281474976710656 : Nat) then Option.bind (f_spec_ggGroups_0 k (Prod.fst p0) (Prod.fst (Prod.snd p0)) (Prod.snd (Prod.snd p0)) (List.replicate (Int.toNat (↑(List.length (Prod.snd (Prod.snd p0))) : Int)) (0 : Int)) (↑(List.length (List.replicate (Int.toNat (↑(List.length (Prod.snd (Prod.snd p0))) : Int)) (0 : Int))) : Int) (0 : Int)) fun z0 => Option.bind (f_spec_ggGroups_2 k (Prod.fst z0) (Prod.fst (Prod.snd z0)) (Prod.fst (Prod.snd (Prod.snd z0))) (Prod.snd (Prod.snd (Prod.snd z0))) (0 : Int) (Prod.fst (Prod.snd (Prod.snd z0))) (↑(List.length (Prod.fst (Prod.snd (Prod.snd z0)))) : Int) (0 : Int)) fun z6 => some z6 else none
noncomputable def d_spec_ggGroups : FnDef := .of q_spec_ggGroups r_spec_ggGroups (List Int) (fun k x => f_spec_ggGroups k x.1) to_spec_ggGroups of_spec_ggGroups to_of_spec_ggGroups
noncomputable def c_spec_ggGroups : Code := Try.f137.body.getD .skip
noncomputable def x_spec_ggGroups : Ctx (Tup r_spec_ggGroups × OutD) := { T := T, G := [(146, d_spec_ggGear.E), (147, d_spec_ggNear.E)], mvs := [], no := 0, n := 92, res := resOf T q_spec_ggGroups r_spec_ggGroups Try.f137.results.toList, loops := [(0, f_spec_ggGroups_0D.E), (6, f_spec_ggGroups_6D.E), (4, f_spec_ggGroups_4D.E), (2, f_spec_ggGroups_2D.E)], regs := [], conds := [] }
theorem g_spec_ggGroups (k : Nat) : EnvOK Try.prog k x_spec_ggGroups.G := (EnvOK.cons (s_spec_ggGear k) (EnvOK.cons (s_spec_ggNear k) (EnvOK.nil mixed)))
noncomputable def f_spec_ggGroups_0B : Code := (findLoop 0 c_spec_ggGroups).getD .skip
theorem f_spec_ggGroups_0h (k : Nat) (x : f_spec_ggGroups_0i.D) : f_spec_ggGroups_0D.lp (k + 1) x = loopK x_spec_ggGroups f_spec_ggGroups_0D 0 f_spec_ggGroups_0B k x := by kernel_rfl
theorem f_spec_ggGroups_0l (k : Nat) : LOK Try.prog x_spec_ggGroups k f_spec_ggGroups_0B := LOK.by [] (by kernel_rfl) AllOK.nil
theorem f_spec_ggGroups_0z (x : f_spec_ggGroups_0i.D) : f_spec_ggGroups_0D.lp 0 x = none := by kernel_rfl
theorem f_spec_ggGroups_0ok (k : Nat) : EOK Try.prog x_spec_ggGroups k f_spec_ggGroups_0D.E (.block 0 (.loop f_spec_ggGroups_0B)) := loop_ok T_ok g_spec_ggGroups f_spec_ggGroups_0z f_spec_ggGroups_0h f_spec_ggGroups_0l k
noncomputable def f_spec_ggGroups_6B : Code := (findLoop 6 c_spec_ggGroups).getD .skip
theorem f_spec_ggGroups_6h (k : Nat) (x : f_spec_ggGroups_6i.D) : f_spec_ggGroups_6D.lp (k + 1) x = loopK x_spec_ggGroups f_spec_ggGroups_6D 6 f_spec_ggGroups_6B k x := by kernel_rfl
theorem f_spec_ggGroups_6l (k : Nat) : LOK Try.prog x_spec_ggGroups k f_spec_ggGroups_6B := LOK.by [] (by kernel_rfl) AllOK.nil
theorem f_spec_ggGroups_6z (x : f_spec_ggGroups_6i.D) : f_spec_ggGroups_6D.lp 0 x = none := by kernel_rfl
theorem f_spec_ggGroups_6ok (k : Nat) : EOK Try.prog x_spec_ggGroups k f_spec_ggGroups_6D.E (.block 6 (.loop f_spec_ggGroups_6B)) := loop_ok T_ok g_spec_ggGroups f_spec_ggGroups_6z f_spec_ggGroups_6h f_spec_ggGroups_6l k
noncomputable def f_spec_ggGroups_4B : Code := (findLoop 4 c_spec_ggGroups).getD .skip
theorem f_spec_ggGroups_4h (k : Nat) (x : f_spec_ggGroups_4i.D) : f_spec_ggGroups_4D.lp (k + 1) x = loopK x_spec_ggGroups f_spec_ggGroups_4D 4 f_spec_ggGroups_4B k x := by kernel_rfl
theorem f_spec_ggGroups_4l (k : Nat) : LOK Try.prog x_spec_ggGroups k f_spec_ggGroups_4B := LOK.by [(f_spec_ggGroups_6D.E, .block 6 (.loop f_spec_ggGroups_6B))] (by kernel_rfl) (AllOK.cons (f_spec_ggGroups_6ok k) AllOK.nil)
theorem f_spec_ggGroups_4z (x : f_spec_ggGroups_4i.D) : f_spec_ggGroups_4D.lp 0 x = none := by kernel_rfl
theorem f_spec_ggGroups_4ok (k : Nat) : EOK Try.prog x_spec_ggGroups k f_spec_ggGroups_4D.E (.block 4 (.loop f_spec_ggGroups_4B)) := loop_ok T_ok g_spec_ggGroups f_spec_ggGroups_4z f_spec_ggGroups_4h f_spec_ggGroups_4l k
noncomputable def f_spec_ggGroups_2B : Code := (findLoop 2 c_spec_ggGroups).getD .skip
theorem f_spec_ggGroups_2h (k : Nat) (x : f_spec_ggGroups_2i.D) : f_spec_ggGroups_2D.lp (k + 1) x = loopK x_spec_ggGroups f_spec_ggGroups_2D 2 f_spec_ggGroups_2B k x := by kernel_rfl
theorem f_spec_ggGroups_2l (k : Nat) : LOK Try.prog x_spec_ggGroups k f_spec_ggGroups_2B := LOK.by [(f_spec_ggGroups_4D.E, .block 4 (.loop f_spec_ggGroups_4B))] (by kernel_rfl) (AllOK.cons (f_spec_ggGroups_4ok k) AllOK.nil)
theorem f_spec_ggGroups_2z (x : f_spec_ggGroups_2i.D) : f_spec_ggGroups_2D.lp 0 x = none := by kernel_rfl
theorem f_spec_ggGroups_2ok (k : Nat) : EOK Try.prog x_spec_ggGroups k f_spec_ggGroups_2D.E (.block 2 (.loop f_spec_ggGroups_2B)) := loop_ok T_ok g_spec_ggGroups f_spec_ggGroups_2z f_spec_ggGroups_2h f_spec_ggGroups_2l k
theorem h_spec_ggGroups (k : Nat) (x : Tup d_spec_ggGroups.ps) : d_spec_ggGroups.f (k + 1) x = fnK d_spec_ggGroups x_spec_ggGroups c_spec_ggGroups k x := by kernel_rfl
theorem z_spec_ggGroups (x : Tup d_spec_ggGroups.ps) : d_spec_ggGroups.f 0 x = none := by kernel_rfl
theorem l_spec_ggGroups (k : Nat) : LOK Try.prog x_spec_ggGroups k c_spec_ggGroups := LOK.by [(f_spec_ggGroups_0D.E, .block 0 (.loop f_spec_ggGroups_0B)), (f_spec_ggGroups_2D.E, .block 2 (.loop f_spec_ggGroups_2B))] (by kernel_rfl) (AllOK.cons (f_spec_ggGroups_0ok k) (AllOK.cons (f_spec_ggGroups_2ok k) AllOK.nil))
theorem s_spec_ggGroups (k : Nat) : SoundAt Try.prog k 137 d_spec_ggGroups.E := @fn_all Try.prog d_spec_ggGroups x_spec_ggGroups 137 Try.f137 c_spec_ggGroups (by kernel_rfl) (by kernel_rfl) (by kernel_rfl) Try.func137 (by kernel_rfl) (by kernel_rfl) (by kernel_rfl) T_ok g_spec_ggGroups l_spec_ggGroups z_spec_ggGroups h_spec_ggGroups k
/-! function 143 -/
noncomputable def r_impl_GoesTo : List PK := [{ t := Ty.int IntKind.i64 }, { t := Ty.bool }]
noncomputable def q_impl_GoesTo : List PK := [{ t := Ty.pair (Ty.int IntKind.i64) (Ty.int IntKind.i64), agg := true }, { t := Ty.int IntKind.i64 }]
noncomputable def to_impl_GoesTo (r : Int × Bool) : Tup r_impl_GoesTo × OutD := ((r.1, r.2, ()), none)
noncomputable def of_impl_GoesTo : Tup r_impl_GoesTo × OutD → Option (Int × Bool)
  | (a, none) => some (a.1, a.2.1)
  | _ => none
theorem to_of_impl_GoesTo : ∀ b r, of_impl_GoesTo b = some r → to_impl_GoesTo r = b := by
  rintro ⟨a, o⟩ r h
  cases o with
  | none => injection h with h; subst h; rfl
  | some _ => cases h
noncomputable def f_impl_GoesTo : Nat → Int × Int → Int → Option (Int × Bool)
  | 0, _, _ => none
  | k + 1, p0, p1 =>
    Option.bind (f_impl_IsCell k (Prod.fst p0, Prod.snd p0)) fun z0 => if (!z0) = true then some ((0 : Int), false) else if decide (p1 < (-1 : Int)) = true then some ((0 : Int), false) else if decide (p1 > (1 : Int)) = true then some ((0 : Int), false) else if decide (Prod.fst p0 = (5 : Int)) = true then some ((0 : Int), false) else if decide (Prod.fst p0 = (1 : Int)) = true then some ((-1 : Int), true) else if decide (Prod.fst p0 = (2 : Int)) = true then some ((1 : Int), true) else if decide (Prod.fst p0 = (3 : Int)) = true then some (wrap64 (wrap64 ((2 : Int) * Prod.snd p0) - (1 : Int)), true) else if decide (Prod.fst p0 = (6 : Int)) = true then some (wrap64 (wrap64 ((2 : Int) * Prod.snd p0) - (1 : Int)), true) else if decide (Prod.fst p0 = (4 : Int)) = true then some (wrap64 ((0 : Int) - p1), true) else some ((0 : Int), true)
noncomputable def d_impl_GoesTo : FnDef := .of q_impl_GoesTo r_impl_GoesTo (Int × Bool) (fun k x => f_impl_GoesTo k x.1 x.2.1) to_impl_GoesTo of_impl_GoesTo to_of_impl_GoesTo
noncomputable def c_impl_GoesTo : Code := Try.f143.body.getD .skip
noncomputable def x_impl_GoesTo : Ctx (Tup r_impl_GoesTo × OutD) := { T := T, G := [(140, d_impl_IsCell.E)], mvs := [], no := 0, n := 39, res := resOf T q_impl_GoesTo r_impl_GoesTo Try.f143.results.toList, loops := [], regs := [], conds := [] }
theorem g_impl_GoesTo (k : Nat) : EnvOK Try.prog k x_impl_GoesTo.G := (EnvOK.cons (s_impl_IsCell k) (EnvOK.nil mixed))
theorem h_impl_GoesTo (k : Nat) (x : Tup d_impl_GoesTo.ps) : d_impl_GoesTo.f (k + 1) x = fnK d_impl_GoesTo x_impl_GoesTo c_impl_GoesTo k x := by kernel_rfl
theorem z_impl_GoesTo (x : Tup d_impl_GoesTo.ps) : d_impl_GoesTo.f 0 x = none := by kernel_rfl
theorem l_impl_GoesTo (k : Nat) : LOK Try.prog x_impl_GoesTo k c_impl_GoesTo := LOK.by [] (by kernel_rfl) AllOK.nil
theorem s_impl_GoesTo (k : Nat) : SoundAt Try.prog k 143 d_impl_GoesTo.E := @fn_all Try.prog d_impl_GoesTo x_impl_GoesTo 143 Try.f143 c_impl_GoesTo (by kernel_rfl) (by kernel_rfl) (by kernel_rfl) Try.func143 (by kernel_rfl) (by kernel_rfl) (by kernel_rfl) T_ok g_impl_GoesTo l_impl_GoesTo z_impl_GoesTo h_impl_GoesTo k
/-! function 150 -/
noncomputable def r_spec_flPass : List PK := []
noncomputable def q_spec_flPass : List PK := [{ t := Ty.pair (Ty.int IntKind.i64) (Ty.pair (Ty.int IntKind.i64) (Ty.slice (116 : Nat) (Ty.pair (Ty.int IntKind.i64) (Ty.int IntKind.i64)))), agg := true, own := some ((2 : Nat), (116 : Nat), Ty.pair (Ty.int IntKind.i64) (Ty.int IntKind.i64)) }, { t := Ty.slice (3 : Nat) (Ty.int IntKind.i64) }, { t := Ty.int IntKind.i64 }]
noncomputable def to_spec_flPass (r : List (Int × Int)) : Tup r_spec_flPass × OutD := ((()), some ⟨Ty.pair (Ty.int IntKind.i64) (Ty.int IntKind.i64), r⟩)
noncomputable def of_spec_flPass : Tup r_spec_flPass × OutD → Option (List (Int × Int))
  | (a, some ⟨u, ys⟩) => if h : u = Ty.pair (Ty.int IntKind.i64) (Ty.int IntKind.i64) then some (castU h ys) else none
  | _ => none
theorem to_of_spec_flPass : ∀ b r, of_spec_flPass b = some r → to_spec_flPass r = b := by
  rintro ⟨a, o⟩ r h
  cases o with
  | none => cases h
  | some s =>
    obtain ⟨u, ys⟩ := s
    simp only [of_spec_flPass] at h
    split at h
    · rename_i hu; subst hu; injection h with h; subst h; rfl
    · cases h
noncomputable def f_spec_flPass_1 : Nat → List (Int × Int) → Int → Int → List Int → Int → Int → Int → Option (List (Int × Int))
  | 0, _, _, _, _, _, _, _ => none
  | k + 1, o1, b2_0, b2_1, v1, v2, v28, v29 =>
    if decide (v29 < v28) = true then if (0 : Int) ≤ v29 then if v29 < (↑(List.length o1) : Int) then if decide (Prod.fst (List.getD o1 (Int.toNat v29) ((0 : Int), (0 : Int))) = (6 : Int)) = true then if (0 : Int) ≤ v29 then if v29 < (↑(List.length v1) : Int) then if (0 : Int) ≤ v2 then if v2 < (↑(List.length v1) : Int) then if decide (List.getD v1 (Int.toNat v29) (0 : Int) = List.getD v1 (Int.toNat v2) (0 : Int)) = true then Option.bind (f_spec_paTurn k (Prod.fst (List.getD o1 (Int.toNat v29) ((0 : Int), (0 : Int))), Prod.snd (List.getD o1 (Int.toNat v29) ((0 : Int), (0 : Int))))) fun z1 => if (0 : Int) ≤ v29 then if v29 < (↑(List.length o1) : Int) then f_spec_flPass_1 k (List.set o1 (Int.toNat v29) (Prod.fst z1, Prod.snd z1)) b2_0 b2_1 v1 v2 v28 (wrap64 (v29 + (1 : Int))) else none else none else f_spec_flPass_1 k o1 b2_0 b2_1 v1 v2 v28 (wrap64 (v29 + (1 : Int))) else none else none else none else none else f_spec_flPass_1 k o1 b2_0 b2_1 v1 v2 v28 (wrap64 (v29 + (1 : Int))) else none else none else some o1
noncomputable def f_spec_flPass_1i : Spec := { objs := [OSh.ro, OSh.row false (116 : Nat) (Ty.pair (Ty.int IntKind.i64) (Ty.int IntKind.i64)), OSh.box (32 : Nat) [Sh.int IntKind.i64, Sh.int IntKind.i64, Sh.sl (1 : Nat)]], tmps := [((1 : Nat), TSh.at (Sh.snap (0 : Nat) (Ty.int IntKind.i64))), ((2 : Nat), TSh.at (Sh.int IntKind.i64)), ((3 : Nat), TSh.at (Sh.ptr (2 : Nat) (0 : Nat))), ((27 : Nat), TSh.at (Sh.sl (1 : Nat))), ((28 : Nat), TSh.at (Sh.int IntKind.i64)), ((29 : Nat), TSh.at (Sh.int IntKind.i64))] }
noncomputable def f_spec_flPass_1o : Spec := { objs := [OSh.ro, OSh.row false (116 : Nat) (Ty.pair (Ty.int IntKind.i64) (Ty.int IntKind.i64))], tmps := [] }
noncomputable def f_spec_flPass_1D : LoopDef (Tup r_spec_flPass × OutD) := .plain f_spec_flPass_1i f_spec_flPass_1o (List (Int × Int)) (fun k x => f_spec_flPass_1 k x.1.2.1 x.1.2.2.1.1 x.1.2.2.1.2.1 x.2.1 x.2.2.1 x.2.2.2.2.2.1 x.2.2.2.2.2.2.1) (fun z => (((), z, ()), (()))) (fun y => (y.1.2.1)) (fun _ => rfl)
noncomputable def f_spec_flPass : Nat → Int × Int × List (Int × Int) → List Int → Int → Option (List (Int × Int))
  | 0, _, _, _ => none
  | k + 1, p0, p1, p2 =>
    if (0 : Int) ≤ p2 then if p2 < (↑(List.length (Prod.snd (Prod.snd p0))) : Int) then if decide (Prod.fst (List.getD (Prod.snd (Prod.snd p0)) (Int.toNat p2) ((0 : Int), (0 : Int))) = (3 : Int)) = true then Option.bind (f_spec_paTurn k (Prod.fst (List.getD (Prod.snd (Prod.snd p0)) (Int.toNat p2) ((0 : Int), (0 : Int))), Prod.snd (List.getD (Prod.snd (Prod.snd p0)) (Int.toNat p2) ((0 : Int), (0 : Int))))) fun z0 => if (0 : Int) ≤ p2 then if p2 < (↑(List.length (Prod.snd (Prod.snd p0))) : Int) then some (List.set (Prod.snd (Prod.snd p0)) (Int.toNat p2) (Prod.fst z0, Prod.snd z0)) else none else none else if decide (Prod.fst (List.getD (Prod.snd (Prod.snd p0)) (Int.toNat p2) ((0 : Int), (0 : Int))) = (6 : Int)) = true then Option.bind (f_spec_flPass_1 k (Prod.snd (Prod.snd p0)) (Prod.fst p0) (Prod.fst (Prod.snd p0)) p1 p2 (↑(List.length (Prod.snd (Prod.snd p0))) : Int) (0 : Int)) fun z2 => some z2 else some (Prod.snd (Prod.snd p0)) else none else none
noncomputable def d_spec_flPass : FnDef := .of q_spec_flPass r_spec_flPass (List (Int × Int)) (fun k x => f_spec_flPass k x.1 x.2.1 x.2.2.1) to_spec_flPass of_spec_flPass to_of_spec_flPass
noncomputable def c_spec_flPass : Code := Try.f150.body.getD .skip
noncomputable def x_spec_flPass : Ctx (Tup r_spec_flPass × OutD) := { T := T, G := [(151, d_spec_paTurn.E)], mvs := [], no := 1, n := 55, res := resOf T q_spec_flPass r_spec_flPass Try.f150.results.toList, loops := [(1, f_spec_flPass_1D.E)], regs := [], conds := [] }
theorem g_spec_flPass (k : Nat) : EnvOK Try.prog k x_spec_flPass.G := (EnvOK.cons (s_spec_paTurn k) (EnvOK.nil mixed))
noncomputable def f_spec_flPass_1B : Code := (findLoop 1 c_spec_flPass).getD .skip
theorem f_spec_flPass_1h (k : Nat) (x : f_spec_flPass_1i.D) : f_spec_flPass_1D.lp (k + 1) x = loopK x_spec_flPass f_spec_flPass_1D 1 f_spec_flPass_1B k x := by kernel_rfl
theorem f_spec_flPass_1l (k : Nat) : LOK Try.prog x_spec_flPass k f_spec_flPass_1B := LOK.by [] (by kernel_rfl) AllOK.nil
theorem f_spec_flPass_1z (x : f_spec_flPass_1i.D) : f_spec_flPass_1D.lp 0 x = none := by kernel_rfl
theorem f_spec_flPass_1ok (k : Nat) : EOK Try.prog x_spec_flPass k f_spec_flPass_1D.E (.block 1 (.loop f_spec_flPass_1B)) := loop_ok T_ok g_spec_flPass f_spec_flPass_1z f_spec_flPass_1h f_spec_flPass_1l k
theorem h_spec_flPass (k : Nat) (x : Tup d_spec_flPass.ps) : d_spec_flPass.f (k + 1) x = fnK d_spec_flPass x_spec_flPass c_spec_flPass k x := by kernel_rfl
theorem z_spec_flPass (x : Tup d_spec_flPass.ps) : d_spec_flPass.f 0 x = none := by kernel_rfl
theorem l_spec_flPass (k : Nat) : LOK Try.prog x_spec_flPass k c_spec_flPass := LOK.by [(f_spec_flPass_1D.E, .block 1 (.loop f_spec_flPass_1B))] (by kernel_rfl) (AllOK.cons (f_spec_flPass_1ok k) AllOK.nil)
theorem s_spec_flPass (k : Nat) : SoundAt Try.prog k 150 d_spec_flPass.E := @fn_all Try.prog d_spec_flPass x_spec_flPass 150 Try.f150 c_spec_flPass (by kernel_rfl) (by kernel_rfl) (by kernel_rfl) Try.func150 (by kernel_rfl) (by kernel_rfl) (by kernel_rfl) T_ok g_spec_flPass l_spec_flPass z_spec_flPass h_spec_flPass k
end
end Go.Proofs.Ytgpmbmnfcbippaa.Vs
