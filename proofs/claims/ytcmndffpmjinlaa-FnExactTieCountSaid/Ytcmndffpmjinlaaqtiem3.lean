/- The proof, part 4. -/
import Derived.Test.Ytcmndffpmjinlaaqtiem2
set_option maxRecDepth 100000
set_option linter.unusedVariables false
set_option linter.unusedSimpArgs false
namespace Go.Proofs.Ytcmndffpmjinlaa.Vs
open Go.RowKit
noncomputable section
/-! function 22 -/
/-! function 26 -/
/-! function 31 -/
/-! function 36 -/
noncomputable def r_laws_szIntSS : List PK := [{ t := Ty.int IntKind.i64 }]
noncomputable def q_laws_szIntSS : List PK := [{ t := Ty.slice (25 : Nat) (Ty.slice (3 : Nat) (Ty.int IntKind.i64)) }, { t := Ty.int IntKind.i64 }]
noncomputable def to_laws_szIntSS (r : Int) : Tup r_laws_szIntSS × OutD := ((r, ()), none)
noncomputable def of_laws_szIntSS : Tup r_laws_szIntSS × OutD → Option (Int)
  | (a, none) => some (a.1)
  | _ => none
theorem to_of_laws_szIntSS : ∀ b r, of_laws_szIntSS b = some r → to_laws_szIntSS r = b := by
  rintro ⟨a, o⟩ r h
  cases o with
  | none => injection h with h; subst h; rfl
  | some _ => cases h
noncomputable def f_laws_szIntSS_0 : Nat → List (List Int) → Int → Int → Option (LR Int Int)
  | 0, _, _, _ => none
  | k + 1, v0, v1, v5 =>
    if decide (v5 < (↑(List.length v0) : Int)) = true then if (0 : Int) ≤ v5 then if v5 < (↑(List.length v0) : Int) then Option.bind (f_laws_szIntS k (List.getD v0 (Int.toNat v5) []) v1) fun z0 => if decide (z0 < (0 : Int)) = true then some (LR.ret (-1 : Int)) else f_laws_szIntSS_0 k v0 z0 (wrap64 (v5 + (1 : Int))) else none else none else some (LR.go v1)
noncomputable def f_laws_szIntSS_0i : Spec := { objs := [OSh.ro], tmps := [((0 : Nat), TSh.at (Sh.snap (0 : Nat) (Ty.slice (3 : Nat) (Ty.int IntKind.i64)))), ((1 : Nat), TSh.at (Sh.int IntKind.i64)), ((5 : Nat), TSh.at (Sh.int IntKind.i64))] }
noncomputable def f_laws_szIntSS_0o : Spec := { objs := [OSh.ro], tmps := [((1 : Nat), TSh.at (Sh.int IntKind.i64))] }
noncomputable def f_laws_szIntSS_0D : LoopDef (Tup r_laws_szIntSS × OutD) := .rets f_laws_szIntSS_0i f_laws_szIntSS_0o (Int) (Int) (fun k x => f_laws_szIntSS_0 k x.2.1 x.2.2.1 x.2.2.2.1) (fun z => (((), ()), (z, ()))) (fun y => (y.2.1)) (fun _ => rfl) to_laws_szIntSS of_laws_szIntSS to_of_laws_szIntSS
noncomputable def f_laws_szIntSS : Nat → List (List Int) → Int → Option Int
  | 0, _, _ => none
  | k + 1, p0, p1 =>
    if decide (wrap64 (p1 - (↑(List.length p0) : Int)) < (0 : Int)) = true then some (-1 : Int) else Option.bind (f_laws_szIntSS_0 k p0 (wrap64 (p1 - (↑(List.length p0) : Int))) (0 : Int)) fun z1 => LR.on z1 (fun y1 => some y1) fun r1 => some r1
noncomputable def d_laws_szIntSS : FnDef := .of q_laws_szIntSS r_laws_szIntSS (Int) (fun k x => f_laws_szIntSS k x.1 x.2.1) to_laws_szIntSS of_laws_szIntSS to_of_laws_szIntSS
noncomputable def c_laws_szIntSS : Code := Try.f36.body.getD .skip
noncomputable def x_laws_szIntSS : Ctx (Tup r_laws_szIntSS × OutD) := { T := T, G := [(66, d_laws_szIntS.E)], mvs := [], no := 0, n := 27, res := resOf T q_laws_szIntSS r_laws_szIntSS Try.f36.results.toList, loops := [(0, f_laws_szIntSS_0D.E)], regs := [], conds := [] }
theorem g_laws_szIntSS (k : Nat) : EnvOK Try.prog k x_laws_szIntSS.G := (EnvOK.cons (s_laws_szIntS k) (EnvOK.nil mixed))
noncomputable def f_laws_szIntSS_0B : Code := (findLoop 0 c_laws_szIntSS).getD .skip
theorem f_laws_szIntSS_0h (k : Nat) (x : f_laws_szIntSS_0i.D) : f_laws_szIntSS_0D.lp (k + 1) x = loopK x_laws_szIntSS f_laws_szIntSS_0D 0 f_laws_szIntSS_0B k x := by kernel_rfl
theorem f_laws_szIntSS_0l (k : Nat) : LOK Try.prog x_laws_szIntSS k f_laws_szIntSS_0B := LOK.by [] (by kernel_rfl) AllOK.nil
theorem f_laws_szIntSS_0z (x : f_laws_szIntSS_0i.D) : f_laws_szIntSS_0D.lp 0 x = none := by kernel_rfl
theorem f_laws_szIntSS_0ok (k : Nat) : EOK Try.prog x_laws_szIntSS k f_laws_szIntSS_0D.E (.block 0 (.loop f_laws_szIntSS_0B)) := loop_ok T_ok g_laws_szIntSS f_laws_szIntSS_0z f_laws_szIntSS_0h f_laws_szIntSS_0l k
theorem h_laws_szIntSS (k : Nat) (x : Tup d_laws_szIntSS.ps) : d_laws_szIntSS.f (k + 1) x = fnK d_laws_szIntSS x_laws_szIntSS c_laws_szIntSS k x := by kernel_rfl
theorem z_laws_szIntSS (x : Tup d_laws_szIntSS.ps) : d_laws_szIntSS.f 0 x = none := by kernel_rfl
theorem l_laws_szIntSS (k : Nat) : LOK Try.prog x_laws_szIntSS k c_laws_szIntSS := LOK.by [(f_laws_szIntSS_0D.E, .block 0 (.loop f_laws_szIntSS_0B))] (by kernel_rfl) (AllOK.cons (f_laws_szIntSS_0ok k) AllOK.nil)
theorem s_laws_szIntSS (k : Nat) : SoundAt Try.prog k 36 d_laws_szIntSS.E := @fn_all Try.prog d_laws_szIntSS x_laws_szIntSS 36 Try.f36 c_laws_szIntSS (by kernel_rfl) (by kernel_rfl) (by kernel_rfl) Try.func36 (by kernel_rfl) (by kernel_rfl) (by kernel_rfl) T_ok g_laws_szIntSS l_laws_szIntSS z_laws_szIntSS h_laws_szIntSS k
/-! function 38 -/
noncomputable def r_laws_toIntSS : List PK := [{ t := Ty.slice (25 : Nat) (Ty.slice (3 : Nat) (Ty.int IntKind.i64)) }]
noncomputable def q_laws_toIntSS : List PK := [{ t := Ty.slice (25 : Nat) (Ty.slice (3 : Nat) (Ty.int IntKind.i64)) }]
noncomputable def to_laws_toIntSS (r : List (List Int)) : Tup r_laws_toIntSS × OutD := ((r, ()), none)
noncomputable def of_laws_toIntSS : Tup r_laws_toIntSS × OutD → Option (List (List Int))
  | (a, none) => some (a.1)
  | _ => none
theorem to_of_laws_toIntSS : ∀ b r, of_laws_toIntSS b = some r → to_laws_toIntSS r = b := by
  rintro ⟨a, o⟩ r h
  cases o with
  | none => injection h with h; subst h; rfl
  | some _ => cases h
noncomputable def f_laws_toIntSS_0 : Nat → List (List Int) → List (List Int) → Int → Option (List (List Int))
  | 0, _, _, _ => none
  | k + 1, o1, v0, v4 =>
    if decide (v4 < (↑(List.length v0) : Int)) = true then if (0 : Int) ≤ v4 then if v4 < (↑(List.length v0) : Int) then Option.bind (f_laws_toIntS k (List.getD v0 (Int.toNat v4) [])) fun z0 => if (0 : Int) ≤ v4 then if v4 < (↑(List.length o1) : Int) then f_laws_toIntSS_0 k (List.set o1 (Int.toNat v4) z0) v0 (wrap64 (v4 + (1 : Int))) else none else none else none else none else some o1
noncomputable def f_laws_toIntSS_0i : Spec := { objs := [OSh.ro, OSh.row true (25 : Nat) (Ty.slice (3 : Nat) (Ty.int IntKind.i64))], tmps := [((0 : Nat), TSh.at (Sh.snap (0 : Nat) (Ty.slice (3 : Nat) (Ty.int IntKind.i64)))), ((3 : Nat), TSh.at (Sh.sl (1 : Nat))), ((4 : Nat), TSh.at (Sh.int IntKind.i64))] }
noncomputable def f_laws_toIntSS_0o : Spec := { objs := [OSh.ro, OSh.row true (25 : Nat) (Ty.slice (3 : Nat) (Ty.int IntKind.i64))], tmps := [((3 : Nat), TSh.at (Sh.sl (1 : Nat)))] }
noncomputable def f_laws_toIntSS_0D : LoopDef (Tup r_laws_toIntSS × OutD) := .plain f_laws_toIntSS_0i f_laws_toIntSS_0o (List (List Int)) (fun k x => f_laws_toIntSS_0 k x.1.2.1 x.2.1 x.2.2.2.1) (fun z => (((), z, ()), ((), ()))) (fun y => (y.1.2.1)) (fun _ => rfl)
noncomputable def f_laws_toIntSS : Nat → List (List Int) → Option (List (List Int))
  | 0, _ => none
  | k + 1, p0 =>
    if Int.toNat (↑(List.length p0) : Int) * (24 : Nat) ≤ (281474976710656 : Nat) then Option.bind (f_laws_toIntSS_0 k (List.replicate (Int.toNat (↑(List.length p0) : Int)) []) p0 (0 : Int)) fun z1 => some z1 else none
noncomputable def d_laws_toIntSS : FnDef := .of q_laws_toIntSS r_laws_toIntSS (List (List Int)) (fun k x => f_laws_toIntSS k x.1) to_laws_toIntSS of_laws_toIntSS to_of_laws_toIntSS
noncomputable def c_laws_toIntSS : Code := Try.f38.body.getD .skip
noncomputable def x_laws_toIntSS : Ctx (Tup r_laws_toIntSS × OutD) := { T := T, G := [(18, d_laws_toIntS.E)], mvs := [], no := 0, n := 23, res := resOf T q_laws_toIntSS r_laws_toIntSS Try.f38.results.toList, loops := [(0, f_laws_toIntSS_0D.E)], regs := [], conds := [] }
theorem g_laws_toIntSS (k : Nat) : EnvOK Try.prog k x_laws_toIntSS.G := (EnvOK.cons (s_laws_toIntS k) (EnvOK.nil mixed))
noncomputable def f_laws_toIntSS_0B : Code := (findLoop 0 c_laws_toIntSS).getD .skip
theorem f_laws_toIntSS_0h (k : Nat) (x : f_laws_toIntSS_0i.D) : f_laws_toIntSS_0D.lp (k + 1) x = loopK x_laws_toIntSS f_laws_toIntSS_0D 0 f_laws_toIntSS_0B k x := by kernel_rfl
theorem f_laws_toIntSS_0l (k : Nat) : LOK Try.prog x_laws_toIntSS k f_laws_toIntSS_0B := LOK.by [] (by kernel_rfl) AllOK.nil
theorem f_laws_toIntSS_0z (x : f_laws_toIntSS_0i.D) : f_laws_toIntSS_0D.lp 0 x = none := by kernel_rfl
theorem f_laws_toIntSS_0ok (k : Nat) : EOK Try.prog x_laws_toIntSS k f_laws_toIntSS_0D.E (.block 0 (.loop f_laws_toIntSS_0B)) := loop_ok T_ok g_laws_toIntSS f_laws_toIntSS_0z f_laws_toIntSS_0h f_laws_toIntSS_0l k
theorem h_laws_toIntSS (k : Nat) (x : Tup d_laws_toIntSS.ps) : d_laws_toIntSS.f (k + 1) x = fnK d_laws_toIntSS x_laws_toIntSS c_laws_toIntSS k x := by kernel_rfl
theorem z_laws_toIntSS (x : Tup d_laws_toIntSS.ps) : d_laws_toIntSS.f 0 x = none := by kernel_rfl
theorem l_laws_toIntSS (k : Nat) : LOK Try.prog x_laws_toIntSS k c_laws_toIntSS := LOK.by [(f_laws_toIntSS_0D.E, .block 0 (.loop f_laws_toIntSS_0B))] (by kernel_rfl) (AllOK.cons (f_laws_toIntSS_0ok k) AllOK.nil)
theorem s_laws_toIntSS (k : Nat) : SoundAt Try.prog k 38 d_laws_toIntSS.E := @fn_all Try.prog d_laws_toIntSS x_laws_toIntSS 38 Try.f38 c_laws_toIntSS (by kernel_rfl) (by kernel_rfl) (by kernel_rfl) Try.func38 (by kernel_rfl) (by kernel_rfl) (by kernel_rfl) T_ok g_laws_toIntSS l_laws_toIntSS z_laws_toIntSS h_laws_toIntSS k
/-! function 40 -/
noncomputable def r_laws_eqIntSS : List PK := [{ t := Ty.bool }]
noncomputable def q_laws_eqIntSS : List PK := [{ t := Ty.slice (25 : Nat) (Ty.slice (3 : Nat) (Ty.int IntKind.i64)) }, { t := Ty.slice (25 : Nat) (Ty.slice (3 : Nat) (Ty.int IntKind.i64)) }]
noncomputable def to_laws_eqIntSS (r : Bool) : Tup r_laws_eqIntSS × OutD := ((r, ()), none)
noncomputable def of_laws_eqIntSS : Tup r_laws_eqIntSS × OutD → Option (Bool)
  | (a, none) => some (a.1)
  | _ => none
theorem to_of_laws_eqIntSS : ∀ b r, of_laws_eqIntSS b = some r → to_laws_eqIntSS r = b := by
  rintro ⟨a, o⟩ r h
  cases o with
  | none => injection h with h; subst h; rfl
  | some _ => cases h
noncomputable def f_laws_eqIntSS_0 : Nat → List (List Int) → List (List Int) → Int → Option (LR Unit Bool)
  | 0, _, _, _ => none
  | k + 1, v0, v1, v5 =>
    if decide (v5 < (↑(List.length v0) : Int)) = true then if (0 : Int) ≤ v5 then if v5 < (↑(List.length v0) : Int) then if (0 : Int) ≤ v5 then if v5 < (↑(List.length v1) : Int) then Option.bind (f_laws_eqIntS k (List.getD v0 (Int.toNat v5) []) (List.getD v1 (Int.toNat v5) [])) fun z0 => if (!z0) = true then some (LR.ret false) else f_laws_eqIntSS_0 k v0 v1 (wrap64 (v5 + (1 : Int))) else none else none else none else none else some (LR.go ())
noncomputable def f_laws_eqIntSS_0i : Spec := { objs := [OSh.ro], tmps := [((0 : Nat), TSh.at (Sh.snap (0 : Nat) (Ty.slice (3 : Nat) (Ty.int IntKind.i64)))), ((1 : Nat), TSh.at (Sh.snap (0 : Nat) (Ty.slice (3 : Nat) (Ty.int IntKind.i64)))), ((5 : Nat), TSh.at (Sh.int IntKind.i64))] }
noncomputable def f_laws_eqIntSS_0o : Spec := { objs := [OSh.ro], tmps := [] }
noncomputable def f_laws_eqIntSS_0D : LoopDef (Tup r_laws_eqIntSS × OutD) := .rets f_laws_eqIntSS_0i f_laws_eqIntSS_0o (Unit) (Bool) (fun k x => f_laws_eqIntSS_0 k x.2.1 x.2.2.1 x.2.2.2.1) (fun z => (((), ()), (()))) (fun y => ()) (fun _ => rfl) to_laws_eqIntSS of_laws_eqIntSS to_of_laws_eqIntSS
noncomputable def f_laws_eqIntSS : Nat → List (List Int) → List (List Int) → Option Bool
  | 0, _, _ => none
  | k + 1, p0, p1 =>
    if decide ((↑(List.length p0) : Int) ≠ (↑(List.length p1) : Int)) = true then some false else Option.bind (f_laws_eqIntSS_0 k p0 p1 (0 : Int)) fun z1 => LR.on z1 (fun y1 => some true) fun r1 => some r1
noncomputable def d_laws_eqIntSS : FnDef := .of q_laws_eqIntSS r_laws_eqIntSS (Bool) (fun k x => f_laws_eqIntSS k x.1 x.2.1) to_laws_eqIntSS of_laws_eqIntSS to_of_laws_eqIntSS
noncomputable def c_laws_eqIntSS : Code := Try.f40.body.getD .skip
noncomputable def x_laws_eqIntSS : Ctx (Tup r_laws_eqIntSS × OutD) := { T := T, G := [(20, d_laws_eqIntS.E)], mvs := [], no := 0, n := 27, res := resOf T q_laws_eqIntSS r_laws_eqIntSS Try.f40.results.toList, loops := [(0, f_laws_eqIntSS_0D.E)], regs := [], conds := [] }
theorem g_laws_eqIntSS (k : Nat) : EnvOK Try.prog k x_laws_eqIntSS.G := (EnvOK.cons (s_laws_eqIntS k) (EnvOK.nil mixed))
noncomputable def f_laws_eqIntSS_0B : Code := (findLoop 0 c_laws_eqIntSS).getD .skip
theorem f_laws_eqIntSS_0h (k : Nat) (x : f_laws_eqIntSS_0i.D) : f_laws_eqIntSS_0D.lp (k + 1) x = loopK x_laws_eqIntSS f_laws_eqIntSS_0D 0 f_laws_eqIntSS_0B k x := by kernel_rfl
theorem f_laws_eqIntSS_0l (k : Nat) : LOK Try.prog x_laws_eqIntSS k f_laws_eqIntSS_0B := LOK.by [] (by kernel_rfl) AllOK.nil
theorem f_laws_eqIntSS_0z (x : f_laws_eqIntSS_0i.D) : f_laws_eqIntSS_0D.lp 0 x = none := by kernel_rfl
theorem f_laws_eqIntSS_0ok (k : Nat) : EOK Try.prog x_laws_eqIntSS k f_laws_eqIntSS_0D.E (.block 0 (.loop f_laws_eqIntSS_0B)) := loop_ok T_ok g_laws_eqIntSS f_laws_eqIntSS_0z f_laws_eqIntSS_0h f_laws_eqIntSS_0l k
theorem h_laws_eqIntSS (k : Nat) (x : Tup d_laws_eqIntSS.ps) : d_laws_eqIntSS.f (k + 1) x = fnK d_laws_eqIntSS x_laws_eqIntSS c_laws_eqIntSS k x := by kernel_rfl
theorem z_laws_eqIntSS (x : Tup d_laws_eqIntSS.ps) : d_laws_eqIntSS.f 0 x = none := by kernel_rfl
theorem l_laws_eqIntSS (k : Nat) : LOK Try.prog x_laws_eqIntSS k c_laws_eqIntSS := LOK.by [(f_laws_eqIntSS_0D.E, .block 0 (.loop f_laws_eqIntSS_0B))] (by kernel_rfl) (AllOK.cons (f_laws_eqIntSS_0ok k) AllOK.nil)
theorem s_laws_eqIntSS (k : Nat) : SoundAt Try.prog k 40 d_laws_eqIntSS.E := @fn_all Try.prog d_laws_eqIntSS x_laws_eqIntSS 40 Try.f40 c_laws_eqIntSS (by kernel_rfl) (by kernel_rfl) (by kernel_rfl) Try.func40 (by kernel_rfl) (by kernel_rfl) (by kernel_rfl) T_ok g_laws_eqIntSS l_laws_eqIntSS z_laws_eqIntSS h_laws_eqIntSS k
/-! function 43 -/
/-! function 48 -/
/-! function 53 -/
noncomputable def r_spec_voCopies : List PK := [{ t := Ty.bool }]
noncomputable def q_spec_voCopies : List PK := [{ t := Ty.int IntKind.i64 }]
noncomputable def to_spec_voCopies (r : Bool) : Tup r_spec_voCopies × OutD := ((r, ()), none)
noncomputable def of_spec_voCopies : Tup r_spec_voCopies × OutD → Option (Bool)
  | (a, none) => some (a.1)
  | _ => none
theorem to_of_spec_voCopies : ∀ b r, of_spec_voCopies b = some r → to_spec_voCopies r = b := by
  rintro ⟨a, o⟩ r h
  cases o with
  | none => injection h with h; subst h; rfl
  | some _ => cases h
noncomputable def f_spec_voCopies : Nat → Int → Option Bool
  | 0, _ => none
  | k + 1, p0 =>
    Option.bind (f_spec_l1In k p0 (1 : Int) (9 : Int)) fun z0 => some z0
noncomputable def d_spec_voCopies : FnDef := .of q_spec_voCopies r_spec_voCopies (Bool) (fun k x => f_spec_voCopies k x.1) to_spec_voCopies of_spec_voCopies to_of_spec_voCopies
noncomputable def c_spec_voCopies : Code := Try.f53.body.getD .skip
noncomputable def x_spec_voCopies : Ctx (Tup r_spec_voCopies × OutD) := { T := T, G := [(55, d_spec_l1In.E)], mvs := [], no := 0, n := 5, res := resOf T q_spec_voCopies r_spec_voCopies Try.f53.results.toList, loops := [], regs := [], conds := [] }
theorem g_spec_voCopies (k : Nat) : EnvOK Try.prog k x_spec_voCopies.G := (EnvOK.cons (s_spec_l1In k) (EnvOK.nil mixed))
theorem h_spec_voCopies (k : Nat) (x : Tup d_spec_voCopies.ps) : d_spec_voCopies.f (k + 1) x = fnK d_spec_voCopies x_spec_voCopies c_spec_voCopies k x := by kernel_rfl
theorem z_spec_voCopies (x : Tup d_spec_voCopies.ps) : d_spec_voCopies.f 0 x = none := by kernel_rfl
theorem l_spec_voCopies (k : Nat) : LOK Try.prog x_spec_voCopies k c_spec_voCopies := LOK.by [] (by kernel_rfl) AllOK.nil
theorem s_spec_voCopies (k : Nat) : SoundAt Try.prog k 53 d_spec_voCopies.E := @fn_all Try.prog d_spec_voCopies x_spec_voCopies 53 Try.f53 c_spec_voCopies (by kernel_rfl) (by kernel_rfl) (by kernel_rfl) Try.func53 (by kernel_rfl) (by kernel_rfl) (by kernel_rfl) T_ok g_spec_voCopies l_spec_voCopies z_spec_voCopies h_spec_voCopies k
/-! function 57 -/
/-! function 58 -/
/-! function 63 -/
noncomputable def r_spec_l1All : List PK := [{ t := Ty.bool }]
noncomputable def q_spec_l1All : List PK := [{ t := Ty.slice (3 : Nat) (Ty.int IntKind.i64) }, { t := Ty.int IntKind.i64 }, { t := Ty.int IntKind.i64 }]
noncomputable def to_spec_l1All (r : Bool) : Tup r_spec_l1All × OutD := ((r, ()), none)
noncomputable def of_spec_l1All : Tup r_spec_l1All × OutD → Option (Bool)
  | (a, none) => some (a.1)
  | _ => none
theorem to_of_spec_l1All : ∀ b r, of_spec_l1All b = some r → to_spec_l1All r = b := by
  rintro ⟨a, o⟩ r h
  cases o with
  | none => injection h with h; subst h; rfl
  | some _ => cases h
noncomputable def f_spec_l1All_0 : Nat → Int → Int → List Int → Int → Int → Option (LR Unit Bool)
  | 0, _, _, _, _, _ => none
  | k + 1, v1, v2, v9, v10, v11 =>
    if decide (v11 < v10) = true then if (0 : Int) ≤ v11 then if v11 < (↑(List.length v9) : Int) then Option.bind (f_spec_l1In k (List.getD v9 (Int.toNat v11) (0 : Int)) v1 v2) fun z0 => if (!z0) = true then some (LR.ret false) else f_spec_l1All_0 k v1 v2 v9 v10 (wrap64 (v11 + (1 : Int))) else none else none else some (LR.go ())
noncomputable def f_spec_l1All_0i : Spec := { objs := [OSh.ro], tmps := [((1 : Nat), TSh.at (Sh.int IntKind.i64)), ((2 : Nat), TSh.at (Sh.int IntKind.i64)), ((9 : Nat), TSh.at (Sh.snap (0 : Nat) (Ty.int IntKind.i64))), ((10 : Nat), TSh.at (Sh.int IntKind.i64)), ((11 : Nat), TSh.at (Sh.int IntKind.i64))] }
noncomputable def f_spec_l1All_0o : Spec := { objs := [OSh.ro], tmps := [] }
noncomputable def f_spec_l1All_0D : LoopDef (Tup r_spec_l1All × OutD) := .rets f_spec_l1All_0i f_spec_l1All_0o (Unit) (Bool) (fun k x => f_spec_l1All_0 k x.2.1 x.2.2.1 x.2.2.2.1 x.2.2.2.2.1 x.2.2.2.2.2.1) (fun z => (((), ()), (()))) (fun y => ()) (fun _ => rfl) to_spec_l1All of_spec_l1All to_of_spec_l1All
noncomputable def f_spec_l1All : Nat → List Int → Int → Int → Option Bool
  | 0, _, _, _ => none
  | k + 1, p0, p1, p2 =>
    Option.bind (f_spec_l1All_0 k p1 p2 p0 (↑(List.length p0) : Int) (0 : Int)) fun z1 => LR.on z1 (fun y1 => some true) fun r1 => some r1
noncomputable def d_spec_l1All : FnDef := .of q_spec_l1All r_spec_l1All (Bool) (fun k x => f_spec_l1All k x.1 x.2.1 x.2.2.1) to_spec_l1All of_spec_l1All to_of_spec_l1All
noncomputable def c_spec_l1All : Code := Try.f63.body.getD .skip
noncomputable def x_spec_l1All : Ctx (Tup r_spec_l1All × OutD) := { T := T, G := [(55, d_spec_l1In.E)], mvs := [], no := 0, n := 21, res := resOf T q_spec_l1All r_spec_l1All Try.f63.results.toList, loops := [(0, f_spec_l1All_0D.E)], regs := [], conds := [] }
theorem g_spec_l1All (k : Nat) : EnvOK Try.prog k x_spec_l1All.G := (EnvOK.cons (s_spec_l1In k) (EnvOK.nil mixed))
noncomputable def f_spec_l1All_0B : Code := (findLoop 0 c_spec_l1All).getD .skip
theorem f_spec_l1All_0h (k : Nat) (x : f_spec_l1All_0i.D) : f_spec_l1All_0D.lp (k + 1) x = loopK x_spec_l1All f_spec_l1All_0D 0 f_spec_l1All_0B k x := by kernel_rfl
theorem f_spec_l1All_0l (k : Nat) : LOK Try.prog x_spec_l1All k f_spec_l1All_0B := LOK.by [] (by kernel_rfl) AllOK.nil
theorem f_spec_l1All_0z (x : f_spec_l1All_0i.D) : f_spec_l1All_0D.lp 0 x = none := by kernel_rfl
theorem f_spec_l1All_0ok (k : Nat) : EOK Try.prog x_spec_l1All k f_spec_l1All_0D.E (.block 0 (.loop f_spec_l1All_0B)) := loop_ok T_ok g_spec_l1All f_spec_l1All_0z f_spec_l1All_0h f_spec_l1All_0l k
theorem h_spec_l1All (k : Nat) (x : Tup d_spec_l1All.ps) : d_spec_l1All.f (k + 1) x = fnK d_spec_l1All x_spec_l1All c_spec_l1All k x := by kernel_rfl
theorem z_spec_l1All (x : Tup d_spec_l1All.ps) : d_spec_l1All.f 0 x = none := by kernel_rfl
theorem l_spec_l1All (k : Nat) : LOK Try.prog x_spec_l1All k c_spec_l1All := LOK.by [(f_spec_l1All_0D.E, .block 0 (.loop f_spec_l1All_0B))] (by kernel_rfl) (AllOK.cons (f_spec_l1All_0ok k) AllOK.nil)
theorem s_spec_l1All (k : Nat) : SoundAt Try.prog k 63 d_spec_l1All.E := @fn_all Try.prog d_spec_l1All x_spec_l1All 63 Try.f63 c_spec_l1All (by kernel_rfl) (by kernel_rfl) (by kernel_rfl) Try.func63 (by kernel_rfl) (by kernel_rfl) (by kernel_rfl) T_ok g_spec_l1All l_spec_l1All z_spec_l1All h_spec_l1All k
/-! function 65 -/
/-! function 69 -/
/-! function 70 -/
/-! function 72 -/
/-! function 75 -/
noncomputable def r_impl_areRows : List PK := [{ t := Ty.bool }]
noncomputable def q_impl_areRows : List PK := [{ t := Ty.slice (25 : Nat) (Ty.slice (3 : Nat) (Ty.int IntKind.i64)) }]
noncomputable def to_impl_areRows (r : Bool) : Tup r_impl_areRows × OutD := ((r, ()), none)
noncomputable def of_impl_areRows : Tup r_impl_areRows × OutD → Option (Bool)
  | (a, none) => some (a.1)
  | _ => none
theorem to_of_impl_areRows : ∀ b r, of_impl_areRows b = some r → to_impl_areRows r = b := by
  rintro ⟨a, o⟩ r h
  cases o with
  | none => injection h with h; subst h; rfl
  | some _ => cases h
noncomputable def f_impl_areRows_0 : Nat → List (List Int) → List (List Int) → Int → Int → Option (LR Unit Bool)
  | 0, _, _, _, _ => none
  | k + 1, v0, v13, v14, v15 =>
    if decide (v15 < v14) = true then if (0 : Int) ≤ v15 then if v15 < (↑(List.length v13) : Int) then if (0 : Int) < (↑(List.length v0) : Int) then if decide ((↑(List.length (List.getD v13 (Int.toNat v15) [])) : Int) ≠ (↑(List.length (List.getD v0 (Int.toNat (0 : Int)) [])) : Int)) = true then some (LR.ret false) else if decide ((↑(List.length (List.getD v13 (Int.toNat v15) [])) : Int) > (40 : Int)) = true then some (LR.ret false) else Option.bind (f_impl_areDigits k (List.getD v13 (Int.toNat v15) [])) fun z0 => if (!z0) = true then some (LR.ret false) else f_impl_areRows_0 k v0 v13 v14 (wrap64 (v15 + (1 : Int))) else none else none else none else some (LR.go ())
noncomputable def f_impl_areRows_0i : Spec := { objs := [OSh.ro], tmps := [((0 : Nat), TSh.at (Sh.snap (0 : Nat) (Ty.slice (3 : Nat) (Ty.int IntKind.i64)))), ((13 : Nat), TSh.at (Sh.snap (0 : Nat) (Ty.slice (3 : Nat) (Ty.int IntKind.i64)))), ((14 : Nat), TSh.at (Sh.int IntKind.i64)), ((15 : Nat), TSh.at (Sh.int IntKind.i64))] }
noncomputable def f_impl_areRows_0o : Spec := { objs := [OSh.ro], tmps := [] }
noncomputable def f_impl_areRows_0D : LoopDef (Tup r_impl_areRows × OutD) := .rets f_impl_areRows_0i f_impl_areRows_0o (Unit) (Bool) (fun k x => f_impl_areRows_0 k x.2.1 x.2.2.1 x.2.2.2.1 x.2.2.2.2.1) (fun z => (((), ()), (()))) (fun y => ()) (fun _ => rfl) to_impl_areRows of_impl_areRows to_of_impl_areRows
noncomputable def f_impl_areRows : Nat → List (List Int) → Option Bool
  | 0, _ => none
  | k + 1, p0 =>
    if decide ((↑(List.length p0) : Int) < (1 : Int)) = true then some false else if decide ((↑(List.length p0) : Int) > (9 : Int)) = true then some false else Option.bind (f_impl_areRows_0 k p0 p0 (↑(List.length p0) : Int) (0 : Int)) fun z1 => LR.on z1 (fun y1 => some true) fun r1 => some r1
noncomputable def d_impl_areRows : FnDef := .of q_impl_areRows r_impl_areRows (Bool) (fun k x => f_impl_areRows k x.1) to_impl_areRows of_impl_areRows to_of_impl_areRows
noncomputable def c_impl_areRows : Code := Try.f75.body.getD .skip
noncomputable def x_impl_areRows : Ctx (Tup r_impl_areRows × OutD) := { T := T, G := [(88, d_impl_areDigits.E)], mvs := [], no := 0, n := 37, res := resOf T q_impl_areRows r_impl_areRows Try.f75.results.toList, loops := [(0, f_impl_areRows_0D.E)], regs := [], conds := [] }
theorem g_impl_areRows (k : Nat) : EnvOK Try.prog k x_impl_areRows.G := (EnvOK.cons (s_impl_areDigits k) (EnvOK.nil mixed))
noncomputable def f_impl_areRows_0B : Code := (findLoop 0 c_impl_areRows).getD .skip
theorem f_impl_areRows_0h (k : Nat) (x : f_impl_areRows_0i.D) : f_impl_areRows_0D.lp (k + 1) x = loopK x_impl_areRows f_impl_areRows_0D 0 f_impl_areRows_0B k x := by kernel_rfl
theorem f_impl_areRows_0l (k : Nat) : LOK Try.prog x_impl_areRows k f_impl_areRows_0B := LOK.by [] (by kernel_rfl) AllOK.nil
theorem f_impl_areRows_0z (x : f_impl_areRows_0i.D) : f_impl_areRows_0D.lp 0 x = none := by kernel_rfl
theorem f_impl_areRows_0ok (k : Nat) : EOK Try.prog x_impl_areRows k f_impl_areRows_0D.E (.block 0 (.loop f_impl_areRows_0B)) := loop_ok T_ok g_impl_areRows f_impl_areRows_0z f_impl_areRows_0h f_impl_areRows_0l k
theorem h_impl_areRows (k : Nat) (x : Tup d_impl_areRows.ps) : d_impl_areRows.f (k + 1) x = fnK d_impl_areRows x_impl_areRows c_impl_areRows k x := by kernel_rfl
theorem z_impl_areRows (x : Tup d_impl_areRows.ps) : d_impl_areRows.f 0 x = none := by kernel_rfl
theorem l_impl_areRows (k : Nat) : LOK Try.prog x_impl_areRows k c_impl_areRows := LOK.by [(f_impl_areRows_0D.E, .block 0 (.loop f_impl_areRows_0B))] (by kernel_rfl) (AllOK.cons (f_impl_areRows_0ok k) AllOK.nil)
theorem s_impl_areRows (k : Nat) : SoundAt Try.prog k 75 d_impl_areRows.E := @fn_all Try.prog d_impl_areRows x_impl_areRows 75 Try.f75 c_impl_areRows (by kernel_rfl) (by kernel_rfl) (by kernel_rfl) Try.func75 (by kernel_rfl) (by kernel_rfl) (by kernel_rfl) T_ok g_impl_areRows l_impl_areRows z_impl_areRows h_impl_areRows k
/-! function 77 -/
/-! function 78 -/
/-! function 84 -/
/-! function 87 -/
/-! function 92 -/
/-! function 99 -/
/-! function 102 -/
/-! function 103 -/
end
end Go.Proofs.Ytcmndffpmjinlaa.Vs

set_option maxRecDepth 100000
set_option linter.unusedVariables false
set_option linter.unusedSimpArgs false
namespace Go.Proofs.Ytcmndffpmjinlaa.Vs
open Go.RowKit
noncomputable section
/-! function 15 -/
/-! function 19 -/
/-! function 24 -/
/-! function 28 -/
/-! function 30 -/
/-! function 33 -/
/-! function 34 -/
/-! function 35 -/
/-! function 39 -/
noncomputable def r_impl_TieCount : List PK := [{ t := Ty.int IntKind.i64 }, { t := Ty.bool }]
noncomputable def q_impl_TieCount : List PK := [{ t := Ty.slice (25 : Nat) (Ty.slice (3 : Nat) (Ty.int IntKind.i64)) }]
noncomputable def to_impl_TieCount (r : Int × Bool) : Tup r_impl_TieCount × OutD := ((r.1, r.2, ()), none)
noncomputable def of_impl_TieCount : Tup r_impl_TieCount × OutD → Option (Int × Bool)
  | (a, none) => some (a.1, a.2.1)
  | _ => none
theorem to_of_impl_TieCount : ∀ b r, of_impl_TieCount b = some r → to_impl_TieCount r = b := by
  rintro ⟨a, o⟩ r h
  cases o with
  | none => injection h with h; subst h; rfl
  | some _ => cases h
noncomputable def f_impl_TieCount_2 : Nat → Int → Int → Int → Int → Int → Int → Int → Int → Int → Int → List (List Int) → Int → Int → Int → Int → List (List Int) → Int → Int → Option (Int × Int × Int × Int × Int × Int × Int × Int × Int × Int × List (List Int) × Int × Int × Int × Int)
  | 0, _, _, _, _, _, _, _, _, _, _, _, _, _, _, _, _, _, _ => none
  | k + 1, b1_0, b1_1, b1_2, b1_3, b1_4, b1_5, b1_6, b1_7, b1_8, b1_9, v0, v4, v5, v20, v21, v25, v26, v27 =>
    if decide (v27 < v26) = true then if (0 : Int) ≤ v27 then if v27 < (↑(List.length v25) : Int) then if (0 : Int) ≤ v5 then if v5 < (↑(List.length (List.getD v25 (Int.toNat v27) [])) : Int) then if (0 : Int) ≤ List.getD (List.getD v25 (Int.toNat v27) []) (Int.toNat v5) (0 : Int) then if List.getD (List.getD v25 (Int.toNat v27) []) (Int.toNat v5) (0 : Int) < (↑(10 : Nat) : Int) then if Int.toNat (List.getD (List.getD v25 (Int.toNat v27) []) (Int.toNat v5) (0 : Int)) < List.length [b1_0, b1_1, b1_2, b1_3, b1_4, b1_5, b1_6, b1_7, b1_8, b1_9] then if (0 : Int) ≤ List.getD (List.getD v25 (Int.toNat v27) []) (Int.toNat v5) (0 : Int) then if List.getD (List.getD v25 (Int.toNat v27) []) (Int.toNat v5) (0 : Int) < (↑(10 : Nat) : Int) then if Int.toNat (List.getD (List.getD v25 (Int.toNat v27) []) (Int.toNat v5) (0 : Int)) < List.length [b1_0, b1_1, b1_2, b1_3, b1_4, b1_5, b1_6, b1_7, b1_8, b1_9] then f_impl_TieCount_2 k (List.getD (List.set [b1_0, b1_1, b1_2, b1_3, b1_4, b1_5, b1_6, b1_7, b1_8, b1_9] (Int.toNat (List.getD (List.getD v25 (Int.toNat v27) []) (Int.toNat v5) (0 : Int))) (wrap64 (List.getD [b1_0, b1_1, b1_2, b1_3, b1_4, b1_5, b1_6, b1_7, b1_8, b1_9] (Int.toNat (List.getD (List.getD v25 (Int.toNat v27) []) (Int.toNat v5) (0 : Int))) (0 : Int) + (1 : Int)))) (0 : Nat) (0 : Int)) (List.getD (List.set [b1_0, b1_1, b1_2, b1_3, b1_4, b1_5, b1_6, b1_7, b1_8, b1_9] (Int.toNat (List.getD (List.getD v25 (Int.toNat v27) []) (Int.toNat v5) (0 : Int))) (wrap64 (List.getD [b1_0, b1_1, b1_2, b1_3, b1_4, b1_5, b1_6, b1_7, b1_8, b1_9] (Int.toNat (List.getD (List.getD v25 (Int.toNat v27) []) (Int.toNat v5) (0 : Int))) (0 : Int) + (1 : Int)))) ((0 : Nat) + (1 : Nat)) (0 : Int)) (List.getD (List.set [b1_0, b1_1, b1_2, b1_3, b1_4, b1_5, b1_6, b1_7, b1_8, b1_9] (Int.toNat (List.getD (List.getD v25 (Int.toNat v27) []) (Int.toNat v5) (0 : Int))) (wrap64 (List.getD [b1_0, b1_1, b1_2, b1_3, b1_4, b1_5, b1_6, b1_7, b1_8, b1_9] (Int.toNat (List.getD (List.getD v25 (Int.toNat v27) []) (Int.toNat v5) (0 : Int))) (0 : Int) + (1 : Int)))) ((0 : Nat) + (1 : Nat) + (1 : Nat)) (0 : Int)) (List.getD (List.set [b1_0, b1_1, b1_2, b1_3, b1_4, b1_5, b1_6, b1_7, b1_8, b1_9] (Int.toNat (List.getD (List.getD v25 (Int.toNat v27) []) (Int.toNat v5) (0 : Int))) (wrap64 (List.getD [b1_0, b1_1, b1_2, b1_3, b1_4, b1_5, b1_6, b1_7, b1_8, b1_9] (Int.toNat (List.getD (List.getD v25 (Int.toNat v27) []) (Int.toNat v5) (0 : Int))) (0 : Int) + (1 : Int)))) ((0 : Nat) + (1 : Nat) + (1 : Nat) + (1 : Nat)) (0 : Int)) (List.getD (List.set [b1_0, b1_1, b1_2, b1_3, b1_4, b1_5, b1_6, b1_7, b1_8, b1_9] (Int.toNat (List.getD (List.getD v25 (Int.toNat v27) []) (Int.toNat v5) (0 : Int))) (wrap64 (List.getD [b1_0, b1_1, b1_2, b1_3, b1_4, b1_5, b1_6, b1_7, b1_8, b1_9] (Int.toNat (List.getD (List.getD v25 (Int.toNat v27) []) (Int.toNat v5) (0 : Int))) (0 : Int) + (1 : Int)))) ((0 : Nat) + (1 : Nat) + (1 : Nat) + (1 : Nat) + (1 : Nat)) (0 : Int)) (List.getD (List.set [b1_0, b1_1, b1_2, b1_3, b1_4, b1_5, b1_6, b1_7, b1_8, b1_9] (Int.toNat (List.getD (List.getD v25 (Int.toNat v27) []) (Int.toNat v5) (0 : Int))) (wrap64 (List.getD [b1_0, b1_1, b1_2, b1_3, b1_4, b1_5, b1_6, b1_7, b1_8, b1_9] (Int.toNat (List.getD (List.getD v25 (Int.toNat v27) []) (Int.toNat v5) (0 : Int))) (0 : Int) + (1 : Int)))) ((0 : Nat) + (1 : Nat) + (1 : Nat) + (1 : Nat) + (1 : Nat) + (1 : Nat)) (0 : Int)) (List.getD (List.set [b1_0, b1_1, b1_2, b1_3, b1_4, b1_5, b1_6, b1_7, b1_8, b1_9] (Int.toNat (List.getD (List.getD v25 (Int.toNat v27) []) (Int.toNat v5) (0 : Int))) (wrap64 (List.getD [b1_0, b1_1, b1_2, b1_3, b1_4, b1_5, b1_6, b1_7, b1_8, b1_9] (Int.toNat (List.getD (List.getD v25 (Int.toNat v27) []) (Int.toNat v5) (0 : Int))) (0 : Int) + (1 : Int)))) ((0 : Nat) + (1 : Nat) + (1 : Nat) + (1 : Nat) + (1 : Nat) + (1 : Nat) + (1 : Nat)) (0 : Int)) (List.getD (List.set [b1_0, b1_1, b1_2, b1_3, b1_4, b1_5, b1_6, b1_7, b1_8, b1_9] (Int.toNat (List.getD (List.getD v25 (Int.toNat v27) []) (Int.toNat v5) (0 : Int))) (wrap64 (List.getD [b1_0, b1_1, b1_2, b1_3, b1_4, b1_5, b1_6, b1_7, b1_8, b1_9] (Int.toNat (List.getD (List.getD v25 (Int.toNat v27) []) (Int.toNat v5) (0 : Int))) (0 : Int) + (1 : Int)))) ((0 : Nat) + (1 : Nat) + (1 : Nat) + (1 : Nat) + (1 : Nat) + (1 : Nat) + (1 : Nat) + (1 : Nat)) (0 : Int)) (List.getD (List.set [b1_0, b1_1, b1_2, b1_3, b1_4, b1_5, b1_6, b1_7, b1_8, b1_9] (Int.toNat (List.getD (List.getD v25 (Int.toNat v27) []) (Int.toNat v5) (0 : Int))) (wrap64 (List.getD [b1_0, b1_1, b1_2, b1_3, b1_4, b1_5, b1_6, b1_7, b1_8, b1_9] (Int.toNat (List.getD (List.getD v25 (Int.toNat v27) []) (Int.toNat v5) (0 : Int))) (0 : Int) + (1 : Int)))) ((0 : Nat) + (1 : Nat) + (1 : Nat) + (1 : Nat) + (1 : Nat) + (1 : Nat) + (1 : Nat) + (1 : Nat) + (1 : Nat)) (0 : Int)) (List.getD (List.set [b1_0, b1_1, b1_2, b1_3, b1_4, b1_5, b1_6, b1_7, b1_8, b1_9] (Int.toNat (List.getD (List.getD v25 (Int.toNat v27) []) (Int.toNat v5) (0 : Int))) (wrap64 (List.getD [b1_0, b1_1, b1_2, b1_3, b1_4, b1_5, b1_6, b1_7, b1_8, b1_9] (Int.toNat (List.getD (List.getD v25 (Int.toNat v27) []) (Int.toNat v5) (0 : Int))) (0 : Int) + (1 : Int)))) ((0 : Nat) + (1 : Nat) + (1 : Nat) + (1 : Nat) + (1 : Nat) + (1 : Nat) + (1 : Nat) + (1 : Nat) + (1 : Nat) + (1 : Nat)) (0 : Int)) v0 v4 v5 v20 v21 v25 v26 (wrap64 (v27 + (1 : Int))) else none else none else none else none else none else none else none else none else none else none else some (b1_0, b1_1, b1_2, b1_3, b1_4, b1_5, b1_6, b1_7, b1_8, b1_9, v0, v4, v5, v20, v21)
noncomputable def f_impl_TieCount_2i : Spec := { objs := [OSh.ro, OSh.box (77 : Nat) [Sh.int IntKind.i64, Sh.int IntKind.i64, Sh.int IntKind.i64, Sh.int IntKind.i64, Sh.int IntKind.i64, Sh.int IntKind.i64, Sh.int IntKind.i64, Sh.int IntKind.i64, Sh.int IntKind.i64, Sh.int IntKind.i64]], tmps := [((0 : Nat), TSh.at (Sh.snap (0 : Nat) (Ty.slice (3 : Nat) (Ty.int IntKind.i64)))), ((4 : Nat), TSh.at (Sh.int IntKind.i64)), ((5 : Nat), TSh.at (Sh.int IntKind.i64)), ((6 : Nat), TSh.at (Sh.ptr (1 : Nat) (0 : Nat))), ((20 : Nat), TSh.at (Sh.int IntKind.i64)), ((21 : Nat), TSh.at (Sh.int IntKind.i64)), ((25 : Nat), TSh.at (Sh.snap (0 : Nat) (Ty.slice (3 : Nat) (Ty.int IntKind.i64)))), ((26 : Nat), TSh.at (Sh.int IntKind.i64)), ((27 : Nat), TSh.at (Sh.int IntKind.i64))] }
noncomputable def f_impl_TieCount_2o : Spec := { objs := [OSh.ro, OSh.box (77 : Nat) [Sh.int IntKind.i64, Sh.int IntKind.i64, Sh.int IntKind.i64, Sh.int IntKind.i64, Sh.int IntKind.i64, Sh.int IntKind.i64, Sh.int IntKind.i64, Sh.int IntKind.i64, Sh.int IntKind.i64, Sh.int IntKind.i64]], tmps := [((0 : Nat), TSh.at (Sh.snap (0 : Nat) (Ty.slice (3 : Nat) (Ty.int IntKind.i64)))), ((4 : Nat), TSh.at (Sh.int IntKind.i64)), ((5 : Nat), TSh.at (Sh.int IntKind.i64)), ((6 : Nat), TSh.at (Sh.ptr (1 : Nat) (0 : Nat))), ((20 : Nat), TSh.at (Sh.int IntKind.i64)), ((21 : Nat), TSh.at (Sh.int IntKind.i64))] }
noncomputable def f_impl_TieCount_2D : LoopDef (Tup r_impl_TieCount × OutD) := .plain f_impl_TieCount_2i f_impl_TieCount_2o (Int × Int × Int × Int × Int × Int × Int × Int × Int × Int × List (List Int) × Int × Int × Int × Int) (fun k x => f_impl_TieCount_2 k x.1.2.1.1 x.1.2.1.2.1 x.1.2.1.2.2.1 x.1.2.1.2.2.2.1 x.1.2.1.2.2.2.2.1 x.1.2.1.2.2.2.2.2.1 x.1.2.1.2.2.2.2.2.2.1 x.1.2.1.2.2.2.2.2.2.2.1 x.1.2.1.2.2.2.2.2.2.2.2.1 x.1.2.1.2.2.2.2.2.2.2.2.2.1 x.2.1 x.2.2.1 x.2.2.2.1 x.2.2.2.2.2.1 x.2.2.2.2.2.2.1 x.2.2.2.2.2.2.2.1 x.2.2.2.2.2.2.2.2.1 x.2.2.2.2.2.2.2.2.2.1) (fun z => (((), (z.1, z.2.1, z.2.2.1, z.2.2.2.1, z.2.2.2.2.1, z.2.2.2.2.2.1, z.2.2.2.2.2.2.1, z.2.2.2.2.2.2.2.1, z.2.2.2.2.2.2.2.2.1, z.2.2.2.2.2.2.2.2.2.1, ()), ()), (z.2.2.2.2.2.2.2.2.2.2.1, z.2.2.2.2.2.2.2.2.2.2.2.1, z.2.2.2.2.2.2.2.2.2.2.2.2.1, (), z.2.2.2.2.2.2.2.2.2.2.2.2.2.1, z.2.2.2.2.2.2.2.2.2.2.2.2.2.2, ()))) (fun y => (y.1.2.1.1, y.1.2.1.2.1, y.1.2.1.2.2.1, y.1.2.1.2.2.2.1, y.1.2.1.2.2.2.2.1, y.1.2.1.2.2.2.2.2.1, y.1.2.1.2.2.2.2.2.2.1, y.1.2.1.2.2.2.2.2.2.2.1, y.1.2.1.2.2.2.2.2.2.2.2.1, y.1.2.1.2.2.2.2.2.2.2.2.2.1, y.2.1, y.2.2.1, y.2.2.2.1, y.2.2.2.2.2.1, y.2.2.2.2.2.2.1)) (fun _ => rfl)
noncomputable def f_impl_TieCount_4 : Nat → List (List Int) → Int → Int → Int → Int → Int → Int → Int → Int → Int → Int → Int → Int → Int → Int → Int → Int → Option (List (List Int) × Int × Int × Int × Int)
  | 0, _, _, _, _, _, _, _, _, _, _, _, _, _, _, _, _, _ => none
  | k + 1, v0, v4, v10, v11, v20, v21, v47_0, v47_1, v47_2, v47_3, v47_4, v47_5, v47_6, v47_7, v47_8, v47_9, v48 =>
    if decide (v48 < (10 : Int)) = true then if (0 : Int) ≤ v48 then if v48 < (↑(10 : Nat) : Int) then if decide (List.getD [v47_0, v47_1, v47_2, v47_3, v47_4, v47_5, v47_6, v47_7, v47_8, v47_9] (Int.toNat v48) (0 : Int) = v10) = true then f_impl_TieCount_4 k v0 v4 v10 (wrap64 (v11 + (1 : Int))) v20 v21 v47_0 v47_1 v47_2 v47_3 v47_4 v47_5 v47_6 v47_7 v47_8 v47_9 (wrap64 (v48 + (1 : Int))) else f_impl_TieCount_4 k v0 v4 v10 v11 v20 v21 v47_0 v47_1 v47_2 v47_3 v47_4 v47_5 v47_6 v47_7 v47_8 v47_9 (wrap64 (v48 + (1 : Int))) else none else none else some (v0, v4, v11, v20, v21)
noncomputable def f_impl_TieCount_4i : Spec := { objs := [OSh.ro], tmps := [((0 : Nat), TSh.at (Sh.snap (0 : Nat) (Ty.slice (3 : Nat) (Ty.int IntKind.i64)))), ((4 : Nat), TSh.at (Sh.int IntKind.i64)), ((10 : Nat), TSh.at (Sh.int IntKind.i64)), ((11 : Nat), TSh.at (Sh.int IntKind.i64)), ((20 : Nat), TSh.at (Sh.int IntKind.i64)), ((21 : Nat), TSh.at (Sh.int IntKind.i64)), ((47 : Nat), TSh.agg [Sh.int IntKind.i64, Sh.int IntKind.i64, Sh.int IntKind.i64, Sh.int IntKind.i64, Sh.int IntKind.i64, Sh.int IntKind.i64, Sh.int IntKind.i64, Sh.int IntKind.i64, Sh.int IntKind.i64, Sh.int IntKind.i64]), ((48 : Nat), TSh.at (Sh.int IntKind.i64))] }
noncomputable def f_impl_TieCount_4o : Spec := { objs := [OSh.ro], tmps := [((0 : Nat), TSh.at (Sh.snap (0 : Nat) (Ty.slice (3 : Nat) (Ty.int IntKind.i64)))), ((4 : Nat), TSh.at (Sh.int IntKind.i64)), ((11 : Nat), TSh.at (Sh.int IntKind.i64)), ((20 : Nat), TSh.at (Sh.int IntKind.i64)), ((21 : Nat), TSh.at (Sh.int IntKind.i64))] }
noncomputable def f_impl_TieCount_4D : LoopDef (Tup r_impl_TieCount × OutD) := .plain f_impl_TieCount_4i f_impl_TieCount_4o (List (List Int) × Int × Int × Int × Int) (fun k x => f_impl_TieCount_4 k x.2.1 x.2.2.1 x.2.2.2.1 x.2.2.2.2.1 x.2.2.2.2.2.1 x.2.2.2.2.2.2.1 x.2.2.2.2.2.2.2.1.1 x.2.2.2.2.2.2.2.1.2.1 x.2.2.2.2.2.2.2.1.2.2.1 x.2.2.2.2.2.2.2.1.2.2.2.1 x.2.2.2.2.2.2.2.1.2.2.2.2.1 x.2.2.2.2.2.2.2.1.2.2.2.2.2.1 x.2.2.2.2.2.2.2.1.2.2.2.2.2.2.1 x.2.2.2.2.2.2.2.1.2.2.2.2.2.2.2.1 x.2.2.2.2.2.2.2.1.2.2.2.2.2.2.2.2.1 x.2.2.2.2.2.2.2.1.2.2.2.2.2.2.2.2.2.1 x.2.2.2.2.2.2.2.2.1) (fun z => (((), ()), (z.1, z.2.1, z.2.2.1, z.2.2.2.1, z.2.2.2.2, ()))) (fun y => (y.2.1, y.2.2.1, y.2.2.2.1, y.2.2.2.2.1, y.2.2.2.2.2.1)) (fun _ => rfl)
noncomputable def f_impl_TieCount_0 : Nat → List (List Int) → Int → Int → Int → Option Int
  | 0, _, _, _, _ => none
  | k + 1, v0, v4, v20, v21 =>
    if decide (v21 < v20) = true then Option.bind (f_impl_TieCount_2 k (0 : Int) (0 : Int) (0 : Int) (0 : Int) (0 : Int) (0 : Int) (0 : Int) (0 : Int) (0 : Int) (0 : Int) v0 v4 v21 v20 v21 v0 (↑(List.length v0) : Int) (0 : Int)) fun z1 => Option.bind (f_impl_column k (Prod.fst (Prod.snd (Prod.snd (Prod.snd (Prod.snd (Prod.snd (Prod.snd (Prod.snd (Prod.snd (Prod.snd (Prod.snd z1))))))))))) (Prod.fst (Prod.snd (Prod.snd (Prod.snd (Prod.snd (Prod.snd (Prod.snd (Prod.snd (Prod.snd (Prod.snd (Prod.snd (Prod.snd (Prod.snd z1)))))))))))))) fun z2 => Option.bind (f_impl_mostVoted k z2) fun z3 => Option.bind (f_impl_TieCount_4 k (Prod.fst (Prod.snd (Prod.snd (Prod.snd (Prod.snd (Prod.snd (Prod.snd (Prod.snd (Prod.snd (Prod.snd (Prod.snd z1))))))))))) (Prod.fst (Prod.snd (Prod.snd (Prod.snd (Prod.snd (Prod.snd (Prod.snd (Prod.snd (Prod.snd (Prod.snd (Prod.snd (Prod.snd z1)))))))))))) (Prod.snd z3) (0 : Int) (Prod.fst (Prod.snd (Prod.snd (Prod.snd (Prod.snd (Prod.snd (Prod.snd (Prod.snd (Prod.snd (Prod.snd (Prod.snd (Prod.snd (Prod.snd (Prod.snd z1)))))))))))))) (Prod.snd (Prod.snd (Prod.snd (Prod.snd (Prod.snd (Prod.snd (Prod.snd (Prod.snd (Prod.snd (Prod.snd (Prod.snd (Prod.snd (Prod.snd (Prod.snd z1)))))))))))))) (Prod.fst z1) (Prod.fst (Prod.snd z1)) (Prod.fst (Prod.snd (Prod.snd z1))) (Prod.fst (Prod.snd (Prod.snd (Prod.snd z1)))) (Prod.fst (Prod.snd (Prod.snd (Prod.snd (Prod.snd z1))))) (Prod.fst (Prod.snd (Prod.snd (Prod.snd (Prod.snd (Prod.snd z1)))))) (Prod.fst (Prod.snd (Prod.snd (Prod.snd (Prod.snd (Prod.snd (Prod.snd z1))))))) (Prod.fst (Prod.snd (Prod.snd (Prod.snd (Prod.snd (Prod.snd (Prod.snd (Prod.snd z1)))))))) (Prod.fst (Prod.snd (Prod.snd (Prod.snd (Prod.snd (Prod.snd (Prod.snd (Prod.snd (Prod.snd z1))))))))) (Prod.fst (Prod.snd (Prod.snd (Prod.snd (Prod.snd (Prod.snd (Prod.snd (Prod.snd (Prod.snd (Prod.snd z1)))))))))) (0 : Int)) fun z4 => if decide (Prod.fst (Prod.snd (Prod.snd z4)) > (1 : Int)) = true then f_impl_TieCount_0 k (Prod.fst z4) (wrap64 (Prod.fst (Prod.snd z4) + (1 : Int))) (Prod.fst (Prod.snd (Prod.snd (Prod.snd z4)))) (wrap64 (Prod.snd (Prod.snd (Prod.snd (Prod.snd z4))) + (1 : Int))) else f_impl_TieCount_0 k (Prod.fst z4) (Prod.fst (Prod.snd z4)) (Prod.fst (Prod.snd (Prod.snd (Prod.snd z4)))) (wrap64 (Prod.snd (Prod.snd (Prod.snd (Prod.snd z4))) + (1 : Int))) else some v4
noncomputable def f_impl_TieCount_0i : Spec := { objs := [OSh.ro], tmps := [((0 : Nat), TSh.at (Sh.snap (0 : Nat) (Ty.slice (3 : Nat) (Ty.int IntKind.i64)))), ((4 : Nat), TSh.at (Sh.int IntKind.i64)), ((20 : Nat), TSh.at (Sh.int IntKind.i64)), ((21 : Nat), TSh.at (Sh.int IntKind.i64))] }
noncomputable def f_impl_TieCount_0o : Spec := { objs := [OSh.ro], tmps := [((4 : Nat), TSh.at (Sh.int IntKind.i64))] }
noncomputable def f_impl_TieCount_0D : LoopDef (Tup r_impl_TieCount × OutD) := .plain f_impl_TieCount_0i f_impl_TieCount_0o (Int) (fun k x => f_impl_TieCount_0 k x.2.1 x.2.2.1 x.2.2.2.1 x.2.2.2.2.1) (fun z => (((), ()), (z, ()))) (fun y => (y.2.1)) (fun _ => rfl)
noncomputable def f_impl_TieCount : Nat → List (List Int) → Option (Int × Bool)
  | 0, _ => none
  | k + 1, p0 =>
    Option.bind (f_impl_areRows k p0) fun z0 => if (!z0) = true then some ((0 : Int), false) else if (0 : Int) < (↑(List.length p0) : Int) then Option.bind (f_impl_TieCount_0 k p0 (0 : Int) (↑(List.length (List.getD p0 (Int.toNat (0 : Int)) [])) : Int) (0 : Int)) fun z5 => some (z5, true) else none
noncomputable def d_impl_TieCount : FnDef := .of q_impl_TieCount r_impl_TieCount (Int × Bool) (fun k x => f_impl_TieCount k x.1) to_impl_TieCount of_impl_TieCount to_of_impl_TieCount
noncomputable def c_impl_TieCount : Code := Try.f39.body.getD .skip
noncomputable def x_impl_TieCount : Ctx (Tup r_impl_TieCount × OutD) := { T := T, G := [(75, d_impl_areRows.E), (76, d_impl_column.E), (62, d_impl_mostVoted.E)], mvs := [], no := 0, n := 63, res := resOf T q_impl_TieCount r_impl_TieCount Try.f39.results.toList, loops := [(2, f_impl_TieCount_2D.E), (4, f_impl_TieCount_4D.E), (0, f_impl_TieCount_0D.E)], regs := [], conds := [] }
theorem g_impl_TieCount (k : Nat) : EnvOK Try.prog k x_impl_TieCount.G := (EnvOK.cons (s_impl_areRows k) (EnvOK.cons (s_impl_column k) (EnvOK.cons (s_impl_mostVoted k) (EnvOK.nil mixed))))
noncomputable def f_impl_TieCount_2B : Code := (findLoop 2 c_impl_TieCount).getD .skip
theorem f_impl_TieCount_2h (k : Nat) (x : f_impl_TieCount_2i.D) : f_impl_TieCount_2D.lp (k + 1) x = loopK x_impl_TieCount f_impl_TieCount_2D 2 f_impl_TieCount_2B k x := by kernel_rfl
theorem f_impl_TieCount_2l (k : Nat) : LOK Try.prog x_impl_TieCount k f_impl_TieCount_2B := LOK.by [] (by kernel_rfl) AllOK.nil
theorem f_impl_TieCount_2z (x : f_impl_TieCount_2i.D) : f_impl_TieCount_2D.lp 0 x = none := by kernel_rfl
theorem f_impl_TieCount_2ok (k : Nat) : EOK Try.prog x_impl_TieCount k f_impl_TieCount_2D.E (.block 2 (.loop f_impl_TieCount_2B)) := loop_ok T_ok g_impl_TieCount f_impl_TieCount_2z f_impl_TieCount_2h f_impl_TieCount_2l k
noncomputable def f_impl_TieCount_4B : Code := (findLoop 4 c_impl_TieCount).getD .skip
theorem f_impl_TieCount_4h (k : Nat) (x : f_impl_TieCount_4i.D) : f_impl_TieCount_4D.lp (k + 1) x = loopK x_impl_TieCount f_impl_TieCount_4D 4 f_impl_TieCount_4B k x := by kernel_rfl
theorem f_impl_TieCount_4l (k : Nat) : LOK Try.prog x_impl_TieCount k f_impl_TieCount_4B := LOK.by [] (by kernel_rfl) AllOK.nil
theorem f_impl_TieCount_4z (x : f_impl_TieCount_4i.D) : f_impl_TieCount_4D.lp 0 x = none := by kernel_rfl
theorem f_impl_TieCount_4ok (k : Nat) : EOK Try.prog x_impl_TieCount k f_impl_TieCount_4D.E (.block 4 (.loop f_impl_TieCount_4B)) := loop_ok T_ok g_impl_TieCount f_impl_TieCount_4z f_impl_TieCount_4h f_impl_TieCount_4l k
noncomputable def f_impl_TieCount_0B : Code := (findLoop 0 c_impl_TieCount).getD .skip
theorem f_impl_TieCount_0h (k : Nat) (x : f_impl_TieCount_0i.D) : f_impl_TieCount_0D.lp (k + 1) x = loopK x_impl_TieCount f_impl_TieCount_0D 0 f_impl_TieCount_0B k x := by kernel_rfl
theorem f_impl_TieCount_0l (k : Nat) : LOK Try.prog x_impl_TieCount k f_impl_TieCount_0B := LOK.by [(f_impl_TieCount_2D.E, .block 2 (.loop f_impl_TieCount_2B)), (f_impl_TieCount_4D.E, .block 4 (.loop f_impl_TieCount_4B))] (by kernel_rfl) (AllOK.cons (f_impl_TieCount_2ok k) (AllOK.cons (f_impl_TieCount_4ok k) AllOK.nil))
theorem f_impl_TieCount_0z (x : f_impl_TieCount_0i.D) : f_impl_TieCount_0D.lp 0 x = none := by kernel_rfl
theorem f_impl_TieCount_0ok (k : Nat) : EOK Try.prog x_impl_TieCount k f_impl_TieCount_0D.E (.block 0 (.loop f_impl_TieCount_0B)) := loop_ok T_ok g_impl_TieCount f_impl_TieCount_0z f_impl_TieCount_0h f_impl_TieCount_0l k
theorem h_impl_TieCount (k : Nat) (x : Tup d_impl_TieCount.ps) : d_impl_TieCount.f (k + 1) x = fnK d_impl_TieCount x_impl_TieCount c_impl_TieCount k x := by kernel_rfl
theorem z_impl_TieCount (x : Tup d_impl_TieCount.ps) : d_impl_TieCount.f 0 x = none := by kernel_rfl
theorem l_impl_TieCount (k : Nat) : LOK Try.prog x_impl_TieCount k c_impl_TieCount := LOK.by [(f_impl_TieCount_0D.E, .block 0 (.loop f_impl_TieCount_0B))] (by kernel_rfl) (AllOK.cons (f_impl_TieCount_0ok k) AllOK.nil)
theorem s_impl_TieCount (k : Nat) : SoundAt Try.prog k 39 d_impl_TieCount.E := @fn_all Try.prog d_impl_TieCount x_impl_TieCount 39 Try.f39 c_impl_TieCount (by kernel_rfl) (by kernel_rfl) (by kernel_rfl) Try.func39 (by kernel_rfl) (by kernel_rfl) (by kernel_rfl) T_ok g_impl_TieCount l_impl_TieCount z_impl_TieCount h_impl_TieCount k
/-! function 42 -/
/-! function 47 -/
/-! function 50 -/
/-! function 52 -/
/-! function 54 -/
/-! function 68 -/
/-! function 73 -/
noncomputable def r_spec_voRows : List PK := [{ t := Ty.bool }]
noncomputable def q_spec_voRows : List PK := [{ t := Ty.slice (25 : Nat) (Ty.slice (3 : Nat) (Ty.int IntKind.i64)) }]
noncomputable def to_spec_voRows (r : Bool) : Tup r_spec_voRows × OutD := ((r, ()), none)
noncomputable def of_spec_voRows : Tup r_spec_voRows × OutD → Option (Bool)
  | (a, none) => some (a.1)
  | _ => none
theorem to_of_spec_voRows : ∀ b r, of_spec_voRows b = some r → to_spec_voRows r = b := by
  rintro ⟨a, o⟩ r h
  cases o with
  | none => injection h with h; subst h; rfl
  | some _ => cases h
noncomputable def f_spec_voRows_0 : Nat → List (List Int) → List (List Int) → Int → Int → Option (LR (List (List Int)) Bool)
  | 0, _, _, _, _ => none
  | k + 1, v0, v5, v6, v7 =>
    if decide (v7 < v6) = true then if (0 : Int) ≤ v7 then if v7 < (↑(List.length v5) : Int) then if (0 : Int) < (↑(List.length v0) : Int) then if decide ((↑(List.length (List.getD v5 (Int.toNat v7) [])) : Int) ≠ (↑(List.length (List.getD v0 (Int.toNat (0 : Int)) [])) : Int)) = true then some (LR.ret false) else if decide ((↑(List.length (List.getD v5 (Int.toNat v7) [])) : Int) > (40 : Int)) = true then some (LR.ret false) else Option.bind (f_spec_l1All k (List.getD v5 (Int.toNat v7) []) (0 : Int) (9 : Int)) fun z0 => if (!z0) = true then some (LR.ret false) else f_spec_voRows_0 k v0 v5 v6 (wrap64 (v7 + (1 : Int))) else none else none else none else some (LR.go v0)
noncomputable def f_spec_voRows_0i : Spec := { objs := [OSh.ro], tmps := [((0 : Nat), TSh.at (Sh.snap (0 : Nat) (Ty.slice (3 : Nat) (Ty.int IntKind.i64)))), ((5 : Nat), TSh.at (Sh.snap (0 : Nat) (Ty.slice (3 : Nat) (Ty.int IntKind.i64)))), ((6 : Nat), TSh.at (Sh.int IntKind.i64)), ((7 : Nat), TSh.at (Sh.int IntKind.i64))] }
noncomputable def f_spec_voRows_0o : Spec := { objs := [OSh.ro], tmps := [((0 : Nat), TSh.at (Sh.snap (0 : Nat) (Ty.slice (3 : Nat) (Ty.int IntKind.i64))))] }
noncomputable def f_spec_voRows_0D : LoopDef (Tup r_spec_voRows × OutD) := .rets f_spec_voRows_0i f_spec_voRows_0o (List (List Int)) (Bool) (fun k x => f_spec_voRows_0 k x.2.1 x.2.2.1 x.2.2.2.1 x.2.2.2.2.1) (fun z => (((), ()), (z, ()))) (fun y => (y.2.1)) (fun _ => rfl) to_spec_voRows of_spec_voRows to_of_spec_voRows
noncomputable def f_spec_voRows : Nat → List (List Int) → Option Bool
  | 0, _ => none
  | k + 1, p0 =>
    Option.bind (f_spec_voRows_0 k p0 p0 (↑(List.length p0) : Int) (0 : Int)) fun z1 => LR.on z1 (fun y1 => Option.bind (f_spec_voCopies k (↑(List.length y1) : Int)) fun z2 => some z2) fun r1 => some r1
noncomputable def d_spec_voRows : FnDef := .of q_spec_voRows r_spec_voRows (Bool) (fun k x => f_spec_voRows k x.1) to_spec_voRows of_spec_voRows to_of_spec_voRows
noncomputable def c_spec_voRows : Code := Try.f73.body.getD .skip
noncomputable def x_spec_voRows : Ctx (Tup r_spec_voRows × OutD) := { T := T, G := [(63, d_spec_l1All.E), (53, d_spec_voCopies.E)], mvs := [], no := 0, n := 32, res := resOf T q_spec_voRows r_spec_voRows Try.f73.results.toList, loops := [(0, f_spec_voRows_0D.E)], regs := [], conds := [] }
theorem g_spec_voRows (k : Nat) : EnvOK Try.prog k x_spec_voRows.G := (EnvOK.cons (s_spec_l1All k) (EnvOK.cons (s_spec_voCopies k) (EnvOK.nil mixed)))
noncomputable def f_spec_voRows_0B : Code := (findLoop 0 c_spec_voRows).getD .skip
theorem f_spec_voRows_0h (k : Nat) (x : f_spec_voRows_0i.D) : f_spec_voRows_0D.lp (k + 1) x = loopK x_spec_voRows f_spec_voRows_0D 0 f_spec_voRows_0B k x := by kernel_rfl
theorem f_spec_voRows_0l (k : Nat) : LOK Try.prog x_spec_voRows k f_spec_voRows_0B := LOK.by [] (by kernel_rfl) AllOK.nil
theorem f_spec_voRows_0z (x : f_spec_voRows_0i.D) : f_spec_voRows_0D.lp 0 x = none := by kernel_rfl
theorem f_spec_voRows_0ok (k : Nat) : EOK Try.prog x_spec_voRows k f_spec_voRows_0D.E (.block 0 (.loop f_spec_voRows_0B)) := loop_ok T_ok g_spec_voRows f_spec_voRows_0z f_spec_voRows_0h f_spec_voRows_0l k
theorem h_spec_voRows (k : Nat) (x : Tup d_spec_voRows.ps) : d_spec_voRows.f (k + 1) x = fnK d_spec_voRows x_spec_voRows c_spec_voRows k x := by kernel_rfl
theorem z_spec_voRows (x : Tup d_spec_voRows.ps) : d_spec_voRows.f 0 x = none := by kernel_rfl
theorem l_spec_voRows (k : Nat) : LOK Try.prog x_spec_voRows k c_spec_voRows := LOK.by [(f_spec_voRows_0D.E, .block 0 (.loop f_spec_voRows_0B))] (by kernel_rfl) (AllOK.cons (f_spec_voRows_0ok k) AllOK.nil)
theorem s_spec_voRows (k : Nat) : SoundAt Try.prog k 73 d_spec_voRows.E := @fn_all Try.prog d_spec_voRows x_spec_voRows 73 Try.f73 c_spec_voRows (by kernel_rfl) (by kernel_rfl) (by kernel_rfl) Try.func73 (by kernel_rfl) (by kernel_rfl) (by kernel_rfl) T_ok g_spec_voRows l_spec_voRows z_spec_voRows h_spec_voRows k
/-! function 83 -/
/-! function 85 -/
/-! function 90 -/
/-! function 97 -/
end
end Go.Proofs.Ytcmndffpmjinlaa.Vs

set_option maxRecDepth 100000
set_option linter.unusedVariables false
set_option linter.unusedSimpArgs false
namespace Go.Proofs.Ytcmndffpmjinlaa.Vs
open Go.RowKit
noncomputable section
/-! function 3 -/
/-! function 17 -/
/-! function 23 -/
/-! function 27 -/
/-! function 29 -/
/-! function 32 -/
/-! function 37 -/
noncomputable def r_spec_TieCount : List PK := [{ t := Ty.int IntKind.i64 }, { t := Ty.bool }]
noncomputable def q_spec_TieCount : List PK := [{ t := Ty.slice (25 : Nat) (Ty.slice (3 : Nat) (Ty.int IntKind.i64)) }]
noncomputable def to_spec_TieCount (r : Int × Bool) : Tup r_spec_TieCount × OutD := ((r.1, r.2, ()), none)
noncomputable def of_spec_TieCount : Tup r_spec_TieCount × OutD → Option (Int × Bool)
  | (a, none) => some (a.1, a.2.1)
  | _ => none
theorem to_of_spec_TieCount : ∀ b r, of_spec_TieCount b = some r → to_spec_TieCount r = b := by
  rintro ⟨a, o⟩ r h
  cases o with
  | none => injection h with h; subst h; rfl
  | some _ => cases h
noncomputable def f_spec_TieCount_4 : Nat → List Int → List (List Int) → Int → Int → Int → Int → Int → Int → Int → Int → Int → Option (List Int × List (List Int) × Int × Int × Int × Int × Int × Int × Int)
  | 0, _, _, _, _, _, _, _, _, _, _, _ => none
  | k + 1, o1, v0, v4, v8, v9, v10, v11, v20, v21, v37, v38 =>
    if decide (v38 < v37) = true then if (0 : Int) ≤ v38 then if v38 < (↑(List.length o1) : Int) then if decide (List.getD o1 (Int.toNat v38) (0 : Int) = v10) = true then f_spec_TieCount_4 k o1 v0 v4 v8 v9 v10 (wrap64 (v11 + (1 : Int))) v20 v21 v37 (wrap64 (v38 + (1 : Int))) else f_spec_TieCount_4 k o1 v0 v4 v8 v9 v10 v11 v20 v21 v37 (wrap64 (v38 + (1 : Int))) else none else none else some (o1, v0, v4, v8, v9, v10, v11, v20, v21)
noncomputable def f_spec_TieCount_4i : Spec := { objs := [OSh.ro, OSh.row true (3 : Nat) (Ty.int IntKind.i64)], tmps := [((0 : Nat), TSh.at (Sh.snap (0 : Nat) (Ty.slice (3 : Nat) (Ty.int IntKind.i64)))), ((4 : Nat), TSh.at (Sh.int IntKind.i64)), ((6 : Nat), TSh.at (Sh.sl (1 : Nat))), ((8 : Nat), TSh.at (Sh.int IntKind.i64)), ((9 : Nat), TSh.at (Sh.int IntKind.i64)), ((10 : Nat), TSh.at (Sh.int IntKind.i64)), ((11 : Nat), TSh.at (Sh.int IntKind.i64)), ((20 : Nat), TSh.at (Sh.int IntKind.i64)), ((21 : Nat), TSh.at (Sh.int IntKind.i64)), ((36 : Nat), TSh.at (Sh.sl (1 : Nat))), ((37 : Nat), TSh.at (Sh.int IntKind.i64)), ((38 : Nat), TSh.at (Sh.int IntKind.i64))] }
noncomputable def f_spec_TieCount_4o : Spec := { objs := [OSh.ro, OSh.row true (3 : Nat) (Ty.int IntKind.i64)], tmps := [((0 : Nat), TSh.at (Sh.snap (0 : Nat) (Ty.slice (3 : Nat) (Ty.int IntKind.i64)))), ((4 : Nat), TSh.at (Sh.int IntKind.i64)), ((6 : Nat), TSh.at (Sh.sl (1 : Nat))), ((8 : Nat), TSh.at (Sh.int IntKind.i64)), ((9 : Nat), TSh.at (Sh.int IntKind.i64)), ((10 : Nat), TSh.at (Sh.int IntKind.i64)), ((11 : Nat), TSh.at (Sh.int IntKind.i64)), ((20 : Nat), TSh.at (Sh.int IntKind.i64)), ((21 : Nat), TSh.at (Sh.int IntKind.i64))] }
noncomputable def f_spec_TieCount_4D : LoopDef (Tup r_spec_TieCount × OutD) := .plain f_spec_TieCount_4i f_spec_TieCount_4o (List Int × List (List Int) × Int × Int × Int × Int × Int × Int × Int) (fun k x => f_spec_TieCount_4 k x.1.2.1 x.2.1 x.2.2.1 x.2.2.2.2.1 x.2.2.2.2.2.1 x.2.2.2.2.2.2.1 x.2.2.2.2.2.2.2.1 x.2.2.2.2.2.2.2.2.1 x.2.2.2.2.2.2.2.2.2.1 x.2.2.2.2.2.2.2.2.2.2.2.1 x.2.2.2.2.2.2.2.2.2.2.2.2.1) (fun z => (((), z.1, ()), (z.2.1, z.2.2.1, (), z.2.2.2.1, z.2.2.2.2.1, z.2.2.2.2.2.1, z.2.2.2.2.2.2.1, z.2.2.2.2.2.2.2.1, z.2.2.2.2.2.2.2.2, ()))) (fun y => (y.1.2.1, y.2.1, y.2.2.1, y.2.2.2.2.1, y.2.2.2.2.2.1, y.2.2.2.2.2.2.1, y.2.2.2.2.2.2.2.1, y.2.2.2.2.2.2.2.2.1, y.2.2.2.2.2.2.2.2.2.1)) (fun _ => rfl)
noncomputable def f_spec_TieCount_2 : Nat → List Int → List (List Int) → Int → Int → Int → Int → Int → Int → Option (List (List Int) × Int × Int × Int × Int)
  | 0, _, _, _, _, _, _, _, _ => none
  | k + 1, o1, v0, v4, v8, v9, v10, v20, v21 =>
    if decide (v10 ≤ (9 : Int)) = true then Option.bind (f_spec_TieCount_4 k o1 v0 v4 v8 v9 v10 (0 : Int) v20 v21 (↑(List.length o1) : Int) (0 : Int)) fun z3 => if decide (Prod.fst (Prod.snd (Prod.snd (Prod.snd (Prod.snd (Prod.snd (Prod.snd z3)))))) = Prod.fst (Prod.snd (Prod.snd (Prod.snd z3)))) = true then f_spec_TieCount_2 k (Prod.fst z3) (Prod.fst (Prod.snd z3)) (Prod.fst (Prod.snd (Prod.snd z3))) (Prod.fst (Prod.snd (Prod.snd (Prod.snd z3)))) (wrap64 (Prod.fst (Prod.snd (Prod.snd (Prod.snd (Prod.snd z3)))) + (1 : Int))) (wrap64 (Prod.fst (Prod.snd (Prod.snd (Prod.snd (Prod.snd (Prod.snd z3))))) + (1 : Int))) (Prod.fst (Prod.snd (Prod.snd (Prod.snd (Prod.snd (Prod.snd (Prod.snd (Prod.snd z3)))))))) (Prod.snd (Prod.snd (Prod.snd (Prod.snd (Prod.snd (Prod.snd (Prod.snd (Prod.snd z3)))))))) else f_spec_TieCount_2 k (Prod.fst z3) (Prod.fst (Prod.snd z3)) (Prod.fst (Prod.snd (Prod.snd z3))) (Prod.fst (Prod.snd (Prod.snd (Prod.snd z3)))) (Prod.fst (Prod.snd (Prod.snd (Prod.snd (Prod.snd z3))))) (wrap64 (Prod.fst (Prod.snd (Prod.snd (Prod.snd (Prod.snd (Prod.snd z3))))) + (1 : Int))) (Prod.fst (Prod.snd (Prod.snd (Prod.snd (Prod.snd (Prod.snd (Prod.snd (Prod.snd z3)))))))) (Prod.snd (Prod.snd (Prod.snd (Prod.snd (Prod.snd (Prod.snd (Prod.snd (Prod.snd z3)))))))) else some (v0, v4, v9, v20, v21)
noncomputable def f_spec_TieCount_2i : Spec := { objs := [OSh.ro, OSh.row true (3 : Nat) (Ty.int IntKind.i64)], tmps := [((0 : Nat), TSh.at (Sh.snap (0 : Nat) (Ty.slice (3 : Nat) (Ty.int IntKind.i64)))), ((4 : Nat), TSh.at (Sh.int IntKind.i64)), ((6 : Nat), TSh.at (Sh.sl (1 : Nat))), ((8 : Nat), TSh.at (Sh.int IntKind.i64)), ((9 : Nat), TSh.at (Sh.int IntKind.i64)), ((10 : Nat), TSh.at (Sh.int IntKind.i64)), ((20 : Nat), TSh.at (Sh.int IntKind.i64)), ((21 : Nat), TSh.at (Sh.int IntKind.i64))] }
noncomputable def f_spec_TieCount_2o : Spec := { objs := [OSh.ro], tmps := [((0 : Nat), TSh.at (Sh.snap (0 : Nat) (Ty.slice (3 : Nat) (Ty.int IntKind.i64)))), ((4 : Nat), TSh.at (Sh.int IntKind.i64)), ((9 : Nat), TSh.at (Sh.int IntKind.i64)), ((20 : Nat), TSh.at (Sh.int IntKind.i64)), ((21 : Nat), TSh.at (Sh.int IntKind.i64))] }
noncomputable def f_spec_TieCount_2D : LoopDef (Tup r_spec_TieCount × OutD) := .plain f_spec_TieCount_2i f_spec_TieCount_2o (List (List Int) × Int × Int × Int × Int) (fun k x => f_spec_TieCount_2 k x.1.2.1 x.2.1 x.2.2.1 x.2.2.2.2.1 x.2.2.2.2.2.1 x.2.2.2.2.2.2.1 x.2.2.2.2.2.2.2.1 x.2.2.2.2.2.2.2.2.1) (fun z => (((), ()), (z.1, z.2.1, z.2.2.1, z.2.2.2.1, z.2.2.2.2, ()))) (fun y => (y.2.1, y.2.2.1, y.2.2.2.1, y.2.2.2.2.1, y.2.2.2.2.2.1)) (fun _ => rfl)
noncomputable def f_spec_TieCount_0 : Nat → List (List Int) → Int → Int → Int → Option Int
  | 0, _, _, _, _ => none
  | k + 1, v0, v4, v20, v21 =>
    if decide (v21 < v20) = true then Option.bind (f_spec_voPlace k v0 v21) fun z1 => Option.bind (f_spec_voMost k z1) fun z2 => Option.bind (f_spec_TieCount_2 k z1 v0 v4 (Prod.snd z2) (0 : Int) (0 : Int) v20 v21) fun z4 => if decide (Prod.fst (Prod.snd (Prod.snd z4)) > (1 : Int)) = true then f_spec_TieCount_0 k (Prod.fst z4) (wrap64 (Prod.fst (Prod.snd z4) + (1 : Int))) (Prod.fst (Prod.snd (Prod.snd (Prod.snd z4)))) (wrap64 (Prod.snd (Prod.snd (Prod.snd (Prod.snd z4))) + (1 : Int))) else f_spec_TieCount_0 k (Prod.fst z4) (Prod.fst (Prod.snd z4)) (Prod.fst (Prod.snd (Prod.snd (Prod.snd z4)))) (wrap64 (Prod.snd (Prod.snd (Prod.snd (Prod.snd z4))) + (1 : Int))) else some v4
noncomputable def f_spec_TieCount_0i : Spec := { objs := [OSh.ro], tmps := [((0 : Nat), TSh.at (Sh.snap (0 : Nat) (Ty.slice (3 : Nat) (Ty.int IntKind.i64)))), ((4 : Nat), TSh.at (Sh.int IntKind.i64)), ((20 : Nat), TSh.at (Sh.int IntKind.i64)), ((21 : Nat), TSh.at (Sh.int IntKind.i64))] }
noncomputable def f_spec_TieCount_0o : Spec := { objs := [OSh.ro], tmps := [((4 : Nat), TSh.at (Sh.int IntKind.i64))] }
noncomputable def f_spec_TieCount_0D : LoopDef (Tup r_spec_TieCount × OutD) := .plain f_spec_TieCount_0i f_spec_TieCount_0o (Int) (fun k x => f_spec_TieCount_0 k x.2.1 x.2.2.1 x.2.2.2.1 x.2.2.2.2.1) (fun z => (((), ()), (z, ()))) (fun y => (y.2.1)) (fun _ => rfl)
noncomputable def f_spec_TieCount : Nat → List (List Int) → Option (Int × Bool)
  | 0, _ => none
  | k + 1, p0 =>
    Option.bind (f_spec_voRows k p0) fun z0 => if (!z0) = true then some ((0 : Int), false) else if (0 : Int) < (↑(List.length p0) : Int) then Option.bind (f_spec_TieCount_0 k p0 (0 : Int) (↑(List.length (List.getD p0 (Int.toNat (0 : Int)) [])) : Int) (0 : Int)) fun z5 => some (z5, true) else none
noncomputable def d_spec_TieCount : FnDef := .of q_spec_TieCount r_spec_TieCount (Int × Bool) (fun k x => f_spec_TieCount k x.1) to_spec_TieCount of_spec_TieCount to_of_spec_TieCount
noncomputable def c_spec_TieCount : Code := Try.f37.body.getD .skip
noncomputable def x_spec_TieCount : Ctx (Tup r_spec_TieCount × OutD) := { T := T, G := [(73, d_spec_voRows.E), (74, d_spec_voPlace.E), (61, d_spec_voMost.E)], mvs := [], no := 0, n := 59, res := resOf T q_spec_TieCount r_spec_TieCount Try.f37.results.toList, loops := [(4, f_spec_TieCount_4D.E), (2, f_spec_TieCount_2D.E), (0, f_spec_TieCount_0D.E)], regs := [], conds := [] }
theorem g_spec_TieCount (k : Nat) : EnvOK Try.prog k x_spec_TieCount.G := (EnvOK.cons (s_spec_voRows k) (EnvOK.cons (s_spec_voPlace k) (EnvOK.cons (s_spec_voMost k) (EnvOK.nil mixed))))
noncomputable def f_spec_TieCount_4B : Code := (findLoop 4 c_spec_TieCount).getD .skip
theorem f_spec_TieCount_4h (k : Nat) (x : f_spec_TieCount_4i.D) : f_spec_TieCount_4D.lp (k + 1) x = loopK x_spec_TieCount f_spec_TieCount_4D 4 f_spec_TieCount_4B k x := by kernel_rfl
theorem f_spec_TieCount_4l (k : Nat) : LOK Try.prog x_spec_TieCount k f_spec_TieCount_4B := LOK.by [] (by kernel_rfl) AllOK.nil
theorem f_spec_TieCount_4z (x : f_spec_TieCount_4i.D) : f_spec_TieCount_4D.lp 0 x = none := by kernel_rfl
theorem f_spec_TieCount_4ok (k : Nat) : EOK Try.prog x_spec_TieCount k f_spec_TieCount_4D.E (.block 4 (.loop f_spec_TieCount_4B)) := loop_ok T_ok g_spec_TieCount f_spec_TieCount_4z f_spec_TieCount_4h f_spec_TieCount_4l k
noncomputable def f_spec_TieCount_2B : Code := (findLoop 2 c_spec_TieCount).getD .skip
theorem f_spec_TieCount_2h (k : Nat) (x : f_spec_TieCount_2i.D) : f_spec_TieCount_2D.lp (k + 1) x = loopK x_spec_TieCount f_spec_TieCount_2D 2 f_spec_TieCount_2B k x := by kernel_rfl
theorem f_spec_TieCount_2l (k : Nat) : LOK Try.prog x_spec_TieCount k f_spec_TieCount_2B := LOK.by [(f_spec_TieCount_4D.E, .block 4 (.loop f_spec_TieCount_4B))] (by kernel_rfl) (AllOK.cons (f_spec_TieCount_4ok k) AllOK.nil)
theorem f_spec_TieCount_2z (x : f_spec_TieCount_2i.D) : f_spec_TieCount_2D.lp 0 x = none := by kernel_rfl
theorem f_spec_TieCount_2ok (k : Nat) : EOK Try.prog x_spec_TieCount k f_spec_TieCount_2D.E (.block 2 (.loop f_spec_TieCount_2B)) := loop_ok T_ok g_spec_TieCount f_spec_TieCount_2z f_spec_TieCount_2h f_spec_TieCount_2l k
noncomputable def f_spec_TieCount_0B : Code := (findLoop 0 c_spec_TieCount).getD .skip
theorem f_spec_TieCount_0h (k : Nat) (x : f_spec_TieCount_0i.D) : f_spec_TieCount_0D.lp (k + 1) x = loopK x_spec_TieCount f_spec_TieCount_0D 0 f_spec_TieCount_0B k x := by kernel_rfl
theorem f_spec_TieCount_0l (k : Nat) : LOK Try.prog x_spec_TieCount k f_spec_TieCount_0B := LOK.by [(f_spec_TieCount_2D.E, .block 2 (.loop f_spec_TieCount_2B))] (by kernel_rfl) (AllOK.cons (f_spec_TieCount_2ok k) AllOK.nil)
theorem f_spec_TieCount_0z (x : f_spec_TieCount_0i.D) : f_spec_TieCount_0D.lp 0 x = none := by kernel_rfl
theorem f_spec_TieCount_0ok (k : Nat) : EOK Try.prog x_spec_TieCount k f_spec_TieCount_0D.E (.block 0 (.loop f_spec_TieCount_0B)) := loop_ok T_ok g_spec_TieCount f_spec_TieCount_0z f_spec_TieCount_0h f_spec_TieCount_0l k
theorem h_spec_TieCount (k : Nat) (x : Tup d_spec_TieCount.ps) : d_spec_TieCount.f (k + 1) x = fnK d_spec_TieCount x_spec_TieCount c_spec_TieCount k x := by kernel_rfl
theorem z_spec_TieCount (x : Tup d_spec_TieCount.ps) : d_spec_TieCount.f 0 x = none := by kernel_rfl
theorem l_spec_TieCount (k : Nat) : LOK Try.prog x_spec_TieCount k c_spec_TieCount := LOK.by [(f_spec_TieCount_0D.E, .block 0 (.loop f_spec_TieCount_0B))] (by kernel_rfl) (AllOK.cons (f_spec_TieCount_0ok k) AllOK.nil)
theorem s_spec_TieCount (k : Nat) : SoundAt Try.prog k 37 d_spec_TieCount.E := @fn_all Try.prog d_spec_TieCount x_spec_TieCount 37 Try.f37 c_spec_TieCount (by kernel_rfl) (by kernel_rfl) (by kernel_rfl) Try.func37 (by kernel_rfl) (by kernel_rfl) (by kernel_rfl) T_ok g_spec_TieCount l_spec_TieCount z_spec_TieCount h_spec_TieCount k
/-! function 41 -/
/-! function 46 -/
/-! function 59 -/
/-! function 82 -/
/-! function 100 -/
end
end Go.Proofs.Ytcmndffpmjinlaa.Vs

set_option maxRecDepth 100000
set_option maxHeartbeats 2000000
set_option linter.unusedVariables false
set_option linter.unusedSimpArgs false
namespace Go.Proofs.Ytcmndffpmjinlaa.Vs
open Go.RowKit
noncomputable section
/-! function 4 -/
/-! function 6 -/
/-! function 8 -/
/-! function 10 -/
/-! function 11 -/
noncomputable def r_laws_FnExactTieCount : List PK := [{ t := Ty.bool }]
noncomputable def q_laws_FnExactTieCount : List PK := [{ t := Ty.slice (25 : Nat) (Ty.slice (3 : Nat) (Ty.int IntKind.i64)) }]
noncomputable def to_laws_FnExactTieCount (r : Bool) : Tup r_laws_FnExactTieCount × OutD := ((r, ()), none)
noncomputable def of_laws_FnExactTieCount : Tup r_laws_FnExactTieCount × OutD → Option (Bool)
  | (a, none) => some (a.1)
  | _ => none
theorem to_of_laws_FnExactTieCount : ∀ b r, of_laws_FnExactTieCount b = some r → to_laws_FnExactTieCount r = b := by
  rintro ⟨a, o⟩ r h
  cases o with
  | none => injection h with h; subst h; rfl
  | some _ => cases h
noncomputable def f_laws_FnExactTieCount : Nat → List (List Int) → Option Bool
  | 0, _ => none
  | k + 1, p0 =>
    Option.bind (f_laws_szIntSS k p0 (1048576 : Int)) fun z0 => if decide (z0 < (0 : Int)) = true then some true else Option.bind (f_laws_toIntSS k p0) fun z1 => Option.bind (f_spec_TieCount k z1) fun z2 => Option.bind (f_laws_toIntSS k p0) fun z3 => Option.bind (f_impl_TieCount k z3) fun z4 => if decide (Prod.fst z4 ≠ Prod.fst z2) = true then some false else if (!Prod.snd z4 == Prod.snd z2) = true then some false else Option.bind (f_laws_toIntSS k p0) fun z5 => Option.bind (f_laws_eqIntSS k z3 z5) fun z6 => if (!z6) = true then some false else some true
noncomputable def d_laws_FnExactTieCount : FnDef := .of q_laws_FnExactTieCount r_laws_FnExactTieCount (Bool) (fun k x => f_laws_FnExactTieCount k x.1) to_laws_FnExactTieCount of_laws_FnExactTieCount to_of_laws_FnExactTieCount
noncomputable def c_laws_FnExactTieCount : Code := Try.f11.body.getD .skip
noncomputable def x_laws_FnExactTieCount : Ctx (Tup r_laws_FnExactTieCount × OutD) := { T := T, G := [(36, d_laws_szIntSS.E), (38, d_laws_toIntSS.E), (37, d_spec_TieCount.E), (39, d_impl_TieCount.E), (40, d_laws_eqIntSS.E)], mvs := [], no := 0, n := 40, res := resOf T q_laws_FnExactTieCount r_laws_FnExactTieCount Try.f11.results.toList, loops := [], regs := [], conds := [] }
theorem g_laws_FnExactTieCount (k : Nat) : EnvOK Try.prog k x_laws_FnExactTieCount.G := (EnvOK.cons (s_laws_szIntSS k) (EnvOK.cons (s_laws_toIntSS k) (EnvOK.cons (s_spec_TieCount k) (EnvOK.cons (s_impl_TieCount k) (EnvOK.cons (s_laws_eqIntSS k) (EnvOK.nil mixed))))))
theorem h_laws_FnExactTieCount (k : Nat) (x : Tup d_laws_FnExactTieCount.ps) : d_laws_FnExactTieCount.f (k + 1) x = fnK d_laws_FnExactTieCount x_laws_FnExactTieCount c_laws_FnExactTieCount k x := by kernel_rfl
theorem z_laws_FnExactTieCount (x : Tup d_laws_FnExactTieCount.ps) : d_laws_FnExactTieCount.f 0 x = none := by kernel_rfl
theorem l_laws_FnExactTieCount (k : Nat) : LOK Try.prog x_laws_FnExactTieCount k c_laws_FnExactTieCount := LOK.by [] (by kernel_rfl) AllOK.nil
theorem s_laws_FnExactTieCount (k : Nat) : SoundAt Try.prog k 11 d_laws_FnExactTieCount.E := @fn_all Try.prog d_laws_FnExactTieCount x_laws_FnExactTieCount 11 Try.f11 c_laws_FnExactTieCount (by kernel_rfl) (by kernel_rfl) (by kernel_rfl) Try.func11 (by kernel_rfl) (by kernel_rfl) (by kernel_rfl) T_ok g_laws_FnExactTieCount l_laws_FnExactTieCount z_laws_FnExactTieCount h_laws_FnExactTieCount k
/-! function 12 -/
/-! function 13 -/
/-! function 21 -/
/-! function 25 -/
/-! function 49 -/
/-! function 86 -/
end
end Go.Proofs.Ytcmndffpmjinlaa.Vs

set_option maxRecDepth 100000
set_option maxHeartbeats 2000000
set_option linter.unusedVariables false
set_option linter.unusedSimpArgs false
namespace Go.Proofs.Ytcmndffpmjinlaa.Vs
open Go.RowKit
noncomputable section
/-! function 5 -/
/-! function 7 -/
/-! function 51 -/
end
end Go.Proofs.Ytcmndffpmjinlaa.Vs

set_option maxRecDepth 100000
set_option maxHeartbeats 2000000
set_option linter.unusedVariables false
set_option linter.unusedSimpArgs false
namespace Go.Proofs.Ytcmndffpmjinlaa.Vs
open Go.RowKit
noncomputable section
/-! function 14 -/
end
end Go.Proofs.Ytcmndffpmjinlaa.Vs

set_option linter.unusedVariables false
set_option linter.unusedSimpArgs false
namespace Go.Proofs.Ytcmndffpmjinlaa.Vs
open Go.RowKit
theorem e_spec_l1In (a b c : Int) : Ev (fun k => f_spec_l1In k a b c) (decide (b ≤ a ∧ a ≤ c)) := by
  refine Ev.succ ?_
  simp only [f_spec_l1In]
  refine Ev.of ?_
  by_cases h1 : b ≤ a <;> by_cases h2 : a ≤ c <;> simp [h1, h2]
theorem e_spec_l1All_0 (lo hi : Int) : ∀ (r pre : List Int), (pre ++ r).length ≤ 9223372036854775806 → Ev (fun k => f_spec_l1All_0 k lo hi (pre ++ r) ((pre ++ r).length : Int) (pre.length : Int)) (if r.all (fun n => decide (lo ≤ n ∧ n ≤ hi)) then LR.go () else LR.ret false)
  | [], pre, hl => by
    refine Ev.succ ?_
    simp only [f_spec_l1All_0, nlt_end, decide_false, Bool.false_eq_true, if_false, List.all_nil, if_true]
    exact Ev.some _
  | x :: r, pre, hl => by
    have ih := e_spec_l1All_0 lo hi r (pre ++ [x]) (by simpa using hl)
    refine Ev.succ ?_
    simp only [f_spec_l1All_0, lt_mid, ge_mid, decide_true, if_true, Int.toNat_natCast, getD_mid]
    rw [next_mid pre x r (by omega)]
    rw [← shift_mid] at ih
    refine Ev.bind (e_spec_l1In x lo hi) ?_
    by_cases hx : lo ≤ x ∧ x ≤ hi
    · simp only [hx, and_self, List.all_cons, decide_true, Bool.true_and, Bool.not_true, Bool.false_eq_true, if_false]; exact ih
    · simp only [hx, List.all_cons, decide_false, Bool.false_and, Bool.not_false, if_true, Bool.false_eq_true, if_false]; exact Ev.some _
theorem e_spec_l1All (l : List Int) (lo hi : Int) (hl : l.length ≤ 9223372036854775806) : Ev (fun k => f_spec_l1All k l lo hi) (l.all fun n => decide (lo ≤ n ∧ n ≤ hi)) := by
  refine Ev.succ ?_
  simp only [f_spec_l1All]
  refine Ev.bind (e_spec_l1All_0 lo hi l [] (by simpa using hl)) ?_
  cases hx : l.all fun n => decide (lo ≤ n ∧ n ≤ hi) with
  | true => simp only [if_true]; exact Ev.go (Ev.some _)
  | false => simp only [Bool.false_eq_true, if_false]; exact Ev.ret (Ev.some _)
end Go.Proofs.Ytcmndffpmjinlaa.Vs

set_option linter.unusedVariables false
set_option linter.unusedSimpArgs false
namespace Go.Proofs.Ytcmndffpmjinlaa.Vs
open Go.RowKit
theorem e_laws_szIntS (l : List Int) (n : Int) (h0 : 0 ≤ n) (h1 : n ≤ 1048576) (hl : l.length ≤ 9223372036854775807) : Ev (fun k => f_laws_szIntS k l n) (if n - l.length < 0 then -1 else n - l.length) := by
  refine Ev.succ ?_
  simp only [f_laws_szIntS]
  refine Ev.of ?_
  rw [w64 (by omega) (by omega)]
  by_cases h : n - (l.length : Int) < 0 <;> simp [h]
theorem e_laws_toIntS_0 : ∀ (r pre rest : List Int), rest.length = r.length → (pre ++ r).length ≤ 1048576 → Ev (fun k => f_laws_toIntS_0 k (pre ++ rest) (pre ++ r) (pre.length : Int)) (pre ++ r)
  | [], pre, rest, h, hl => by
    obtain rfl : rest = [] := List.eq_nil_of_length_eq_zero h
    refine Ev.succ ?_
    simp only [f_laws_toIntS_0, nlt_end, decide_false, Bool.false_eq_true, if_false]
    exact Ev.some _
  | x :: r, pre, [], h, hl => by simp at h
  | x :: r, pre, y :: rest, h, hl => by
    have ih := e_laws_toIntS_0 r (pre ++ [x]) rest (by simpa using h) (by simpa using hl)
    refine Ev.succ ?_
    simp only [f_laws_toIntS_0, lt_mid, ge_mid, decide_true, if_true, Int.toNat_natCast, getD_mid, set_mid]
    rw [next_mid pre x r (by omega)]
    rw [← shift_mid, ← shift_mid] at ih
    exact ih
theorem e_laws_toIntS (l : List Int) (hl : l.length ≤ 1048576) : Ev (fun k => f_laws_toIntS k l) l := by
  refine Ev.succ ?_
  have hm : l.length * 8 ≤ 281474976710656 := by omega
  simp only [f_laws_toIntS, Int.toNat_natCast, hm, if_true]
  exact Ev.bind (e_laws_toIntS_0 l [] (List.replicate l.length 0) (by simp) (by simpa using hl)) (Ev.some _)
theorem e_laws_eqIntS_0 : ∀ (r s pre : List Int) (pre' : List Int), s.length = r.length → pre'.length = pre.length → (pre ++ r).length ≤ 9223372036854775806 → Ev (fun k => f_laws_eqIntS_0 k (pre ++ r) (pre' ++ s) (pre.length : Int)) (if r = s then LR.go () else LR.ret false)
  | [], s, pre, pre', h, hp, hl => by
    obtain rfl : s = [] := List.eq_nil_of_length_eq_zero h
    refine Ev.succ ?_
    simp only [f_laws_eqIntS_0, nlt_end, decide_false, Bool.false_eq_true, if_false, if_true]
    exact Ev.some _
  | x :: r, [], pre, pre', h, hp, hl => by simp at h
  | x :: r, y :: s, pre, pre', h, hp, hl => by
    have ih := e_laws_eqIntS_0 r s (pre ++ [x]) (pre' ++ [y]) (by simpa using h) (by simpa using hp) (by simpa using hl)
    have l2 : (pre.length : Int) < ((pre' ++ y :: s).length : Int) := by rw [← hp]; exact lt_mid _ _ _
    have g2 : List.getD (pre' ++ y :: s) pre.length 0 = y := by rw [← hp]; exact getD_mid _ _ _ _
    refine Ev.succ ?_
    simp only [f_laws_eqIntS_0, lt_mid, ge_mid, l2, decide_true, if_true, Int.toNat_natCast, getD_mid, g2]
    rw [next_mid pre x r (by omega)]
    rw [← shift_mid, ← shift_mid] at ih
    by_cases hxy : x = y
    · subst hxy
      simp only [ne_eq, not_true_eq_false, decide_false, Bool.false_eq_true, if_false]
      refine ih.congr ?_
      by_cases hrs : r = s <;> simp [hrs]
    · simp only [ne_eq, hxy, not_false_eq_true, decide_true, if_true]
      refine Ev.of ?_
      rw [if_neg (by intro hc; injection hc with h1 h2; exact hxy h1)]
theorem e_laws_eqIntS (l m : List Int) (hl : l.length ≤ 9223372036854775806) : Ev (fun k => f_laws_eqIntS k l m) (decide (l = m)) := by
  refine Ev.succ ?_
  simp only [f_laws_eqIntS]
  by_cases h : l.length = m.length
  · simp only [h, ne_eq, not_true_eq_false, decide_false, Bool.false_eq_true, if_false]
    refine Ev.bind (e_laws_eqIntS_0 l m [] [] h.symm rfl (by simpa using hl)) ?_
    by_cases hlm : l = m
    · rw [if_pos hlm]; simp only [hlm, decide_true]; exact Ev.go (Ev.some _)
    · rw [if_neg hlm]; simp only [hlm, decide_false]; exact Ev.ret (Ev.some _)
  · have h2 : ¬ (l.length : Int) = (m.length : Int) := by omega
    have h3 : ¬ l = m := fun hc => h (by rw [hc])
    simp only [ne_eq, h2, not_false_eq_true, decide_true, if_true, h3, decide_false]
    exact Ev.some _
end Go.Proofs.Ytcmndffpmjinlaa.Vs

set_option linter.unusedVariables false
set_option linter.unusedSimpArgs false
namespace Go.Proofs.Ytcmndffpmjinlaa.Vs
open Go.RowKit
theorem ten {c : List Int} (h : c.length = 10) : [List.getD c 0 0, List.getD c 1 0, List.getD c 2 0, List.getD c 3 0, List.getD c 4 0, List.getD c 5 0, List.getD c 6 0, List.getD c 7 0, List.getD c 8 0, List.getD c 9 0] = c := by
  match c, h with
  | [_, _, _, _, _, _, _, _, _, _], _ => rfl
def digs (l : List Int) : Bool := l.all fun n => decide (0 ≤ n ∧ n ≤ 9)
theorem e_impl_areDigits_0 : ∀ (r pre : List Int), (pre ++ r).length ≤ 9223372036854775806 → Ev (fun k => f_impl_areDigits_0 k (pre ++ r) ((pre ++ r).length : Int) (pre.length : Int)) (if digs r then LR.go () else LR.ret false)
  | [], pre, hl => by
    refine Ev.succ ?_
    simp only [f_impl_areDigits_0, nlt_end, decide_false, Bool.false_eq_true, if_false, digs, List.all_nil, if_true]
    exact Ev.some _
  | x :: r, pre, hl => by
    have ih := e_impl_areDigits_0 r (pre ++ [x]) (by simpa using hl)
    refine Ev.succ ?_
    simp only [f_impl_areDigits_0, lt_mid, ge_mid, decide_true, if_true, Int.toNat_natCast, getD_mid]
    rw [next_mid pre x r (by omega)]
    rw [← shift_mid] at ih
    refine Ev.ite (fun h => ?_) (fun h => Ev.ite (fun h2 => ?_) (fun h2 => ?_))
    · simp only [decide_eq_true_eq] at h
      have hx : ¬ (0 ≤ x ∧ x ≤ 9) := by omega
      simp only [digs, List.all_cons, hx, decide_false, Bool.false_and, Bool.false_eq_true, if_false]; exact Ev.some _
    · simp only [decide_eq_true_eq] at h2
      have hx : ¬ (0 ≤ x ∧ x ≤ 9) := by omega
      simp only [digs, List.all_cons, hx, decide_false, Bool.false_and, Bool.false_eq_true, if_false]; exact Ev.some _
    · simp only [decide_eq_true_eq] at h h2
      have hx : 0 ≤ x ∧ x ≤ 9 := by omega
      simp only [digs, List.all_cons, hx, and_self, decide_true, Bool.true_and]; exact ih
theorem e_impl_areDigits (l : List Int) (hl : l.length ≤ 9223372036854775806) : Ev (fun k => f_impl_areDigits k l) (digs l) := by
  refine Ev.succ ?_
  simp only [f_impl_areDigits]
  refine Ev.bind (e_impl_areDigits_0 l [] (by simpa using hl)) ?_
  cases hx : digs l with
  | true => simp only [if_true]; exact Ev.go (Ev.some _)
  | false => simp only [Bool.false_eq_true, if_false]; exact Ev.ret (Ev.some _)
/-! ### Counts -/
def cnt : List Int → List Int → List Int
  | [], c => c
  | x :: r, c => cnt r (List.set c x.toNat (List.getD c x.toNat 0 + 1))
def zeros : List Int := List.replicate 10 0
theorem cnt_len : ∀ (r c : List Int), (cnt r c).length = c.length
  | [], _ => rfl
  | x :: r, c => by simp [cnt, cnt_len r]
theorem getD_set (c : List Int) (i j : Nat) (x : Int) (hi : i < c.length) : List.getD (List.set c i x) j 0 = if j = i then x else List.getD c j 0 := by
  simp only [List.getD, List.getElem?_set]
  by_cases h : j = i
  · subst h; simp [hi]
  · rw [if_neg h, if_neg (fun h2 => h h2.symm)]
def Small (c : List Int) (n : Int) : Prop := ∀ i, 0 ≤ List.getD c i 0 ∧ List.getD c i 0 ≤ n
theorem Small.set {c : List Int} {n : Int} (h : Small c n) {i : Nat} (hi : i < c.length) {x : Int} (hx : 0 ≤ x) : Small (List.set c i (List.getD c i 0 + x)) (n + x) := by
  intro j
  rw [getD_set c i j _ hi]
  have h1 := h i
  have h2 := h j
  split <;> omega
theorem getD_repl {α : Type} (n i : Nat) (x : α) : List.getD (List.replicate n x) i x = x := by
  simp only [List.getD, List.getElem?_replicate]
  split <;> rfl
theorem small_zeros : Small zeros 0 := by
  intro i
  have := getD_repl 10 i (0 : Int)
  unfold zeros
  omega
theorem e_spec_voMost_0 : ∀ (r pre c : List Int), c.length = 10 → (∀ x ∈ r, 0 ≤ x ∧ x ≤ 9) → Small c (pre.length : Int) → (pre ++ r).length ≤ 1000 → Ev (fun k => f_spec_voMost_0 k c (pre ++ r) ((pre ++ r).length : Int) (pre.length : Int)) (cnt r c)
  | [], pre, c, hc, hr, hs, hl => by
    refine Ev.succ ?_
    simp only [f_spec_voMost_0, nlt_end, decide_false, Bool.false_eq_true, if_false, cnt]
    exact Ev.some _
  | x :: r, pre, c, hc, hr, hs, hl => by
    obtain ⟨x0, x9⟩ := hr x (List.mem_cons_self ..)
    have hx : x.toNat < c.length := by omega
    have h1 : x < (c.length : Int) := by omega
    have hsx := hs x.toNat
    have hlen : pre.length + 1 ≤ 1000 := by simp at hl; omega
    have ih := e_spec_voMost_0 r (pre ++ [x]) (List.set c x.toNat (List.getD c x.toNat 0 + 1)) (by simpa using hc) (fun y hy => hr y (List.mem_cons_of_mem _ hy)) (by have := hs.set hx (x := 1) (by omega); simpa using this) (by simpa using hl)
    refine Ev.succ ?_
    simp only [f_spec_voMost_0, lt_mid, ge_mid, decide_true, if_true, Int.toNat_natCast, getD_mid, x0, h1]
    rw [next_mid pre x r (by omega), w64 (n := List.getD c x.toNat 0 + 1) (by omega) (by omega)]
    rw [← shift_mid] at ih
    exact ih
theorem e_impl_mostVoted_0 : ∀ (r pre c : List Int), c.length = 10 → (∀ x ∈ r, 0 ≤ x ∧ x ≤ 9) → Small c (pre.length : Int) → (pre ++ r).length ≤ 1000 → Ev (fun k => f_impl_mostVoted_0 k (List.getD c 0 0) (List.getD c 1 0) (List.getD c 2 0) (List.getD c 3 0) (List.getD c 4 0) (List.getD c 5 0) (List.getD c 6 0) (List.getD c 7 0) (List.getD c 8 0) (List.getD c 9 0) (pre ++ r) ((pre ++ r).length : Int) (pre.length : Int)) (List.getD (cnt r c) 0 0, List.getD (cnt r c) 1 0, List.getD (cnt r c) 2 0, List.getD (cnt r c) 3 0, List.getD (cnt r c) 4 0, List.getD (cnt r c) 5 0, List.getD (cnt r c) 6 0, List.getD (cnt r c) 7 0, List.getD (cnt r c) 8 0, List.getD (cnt r c) 9 0)
  | [], pre, c, hc, hr, hs, hl => by
    refine Ev.succ ?_
    simp only [f_impl_mostVoted_0, nlt_end, decide_false, Bool.false_eq_true, if_false, cnt]
    exact Ev.some _
  | x :: r, pre, c, hc, hr, hs, hl => by
    obtain ⟨x0, x9⟩ := hr x (List.mem_cons_self ..)
    have hx : x.toNat < c.length := by omega
    have h1 : x < ((10 : Nat) : Int) := by omega
    have hsx := hs x.toNat
    have hlen : pre.length + 1 ≤ 1000 := by simp at hl; omega
    have ih := e_impl_mostVoted_0 r (pre ++ [x]) (List.set c x.toNat (List.getD c x.toNat 0 + 1)) (by simpa using hc) (fun y hy => hr y (List.mem_cons_of_mem _ hy)) (by have := hs.set hx (x := 1) (by omega); simpa using this) (by simpa using hl)
    refine Ev.succ ?_
    simp only [f_impl_mostVoted_0, lt_mid, ge_mid, decide_true, if_true, Int.toNat_natCast, getD_mid, x0, h1, ten hc, hx]
    rw [next_mid pre x r (by omega), w64 (n := List.getD c x.toNat 0 + 1) (by omega) (by omega)]
    rw [← shift_mid] at ih
    exact ih
/-- The first one of the greatest from i on, b being the best till there. -/
def bestF (c : List Int) : Nat → Nat → Int → Int
  | 0, _, b => b
  | d + 1, i, b => bestF c d (i + 1) (if List.getD c i 0 > List.getD c b.toNat 0 then (i : Int) else b)
theorem bestF_in (c : List Int) : ∀ (d i : Nat) (b : Int), i + d = 10 → 0 ≤ b → b < 10 → 0 ≤ bestF c d i b ∧ bestF c d i b < 10
  | 0, i, b, h, h0, h1 => ⟨h0, h1⟩
  | d + 1, i, b, h, h0, h1 => by
    simp only [bestF]
    split
    · exact bestF_in c d (i + 1) i (by omega) (by omega) (by omega)
    · exact bestF_in c d (i + 1) b (by omega) h0 h1
theorem e_spec_voMost_2 {c : List Int} (hc : c.length = 10) : ∀ (d i : Nat) (b : Int), i + d = 10 → 0 ≤ b → b < 10 → Ev (fun k => f_spec_voMost_2 k c b 10 (i : Int)) (c, bestF c d i b)
  | 0, i, b, h, h0, h1 => by
    have : ¬ (i : Int) < 10 := by omega
    refine Ev.succ ?_
    simp only [f_spec_voMost_2, this, decide_false, Bool.false_eq_true, if_false, bestF]
    exact Ev.some _
  | d + 1, i, b, h, h0, h1 => by
    have g1 : (i : Int) < 10 := by omega
    have g2 : (i : Int) < (c.length : Int) := by omega
    have g3 : b < (c.length : Int) := by omega
    have g4 : wrap64 ((i : Int) + 1) = ((i + 1 : Nat) : Int) := by rw [w64 (by omega) (by omega)]; omega
    refine Ev.succ ?_
    simp only [f_spec_voMost_2, g1, g2, g3, g4, h0, decide_true, if_true, Int.natCast_nonneg, Int.toNat_natCast, bestF]
    refine Ev.ite (fun hh => ?_) (fun hh => ?_)
    · rw [if_pos (of_decide_eq_true hh)]
      exact e_spec_voMost_2 hc d (i + 1) i (by omega) (by omega) (by omega)
    · rw [if_neg (fun h9 => hh (decide_eq_true h9))]
      exact e_spec_voMost_2 hc d (i + 1) b (by omega) h0 h1
theorem e_impl_mostVoted_2 {c : List Int} (hc : c.length = 10) : ∀ (d i : Nat) (b : Int), i + d = 10 → 0 ≤ b → b < 10 → Ev (fun k => f_impl_mostVoted_2 k (List.getD c 0 0) (List.getD c 1 0) (List.getD c 2 0) (List.getD c 3 0) (List.getD c 4 0) (List.getD c 5 0) (List.getD c 6 0) (List.getD c 7 0) (List.getD c 8 0) (List.getD c 9 0) b (List.getD c 0 0) (List.getD c 1 0) (List.getD c 2 0) (List.getD c 3 0) (List.getD c 4 0) (List.getD c 5 0) (List.getD c 6 0) (List.getD c 7 0) (List.getD c 8 0) (List.getD c 9 0) (i : Int)) (List.getD c 0 0, List.getD c 1 0, List.getD c 2 0, List.getD c 3 0, List.getD c 4 0, List.getD c 5 0, List.getD c 6 0, List.getD c 7 0, List.getD c 8 0, List.getD c 9 0, bestF c d i b)
  | 0, i, b, h, h0, h1 => by
    have : ¬ (i : Int) < 10 := by omega
    refine Ev.succ ?_
    simp only [f_impl_mostVoted_2, this, decide_false, Bool.false_eq_true, if_false, bestF]
    exact Ev.some _
  | d + 1, i, b, h, h0, h1 => by
    have g1 : (i : Int) < 10 := by omega
    have g2 : (i : Int) < ((10 : Nat) : Int) := by omega
    have g3 : b < ((10 : Nat) : Int) := by omega
    have g5 : b.toNat < c.length := by omega
    have g4 : wrap64 ((i : Int) + 1) = ((i + 1 : Nat) : Int) := by rw [w64 (by omega) (by omega)]; omega
    refine Ev.succ ?_
    simp only [f_impl_mostVoted_2, ten hc, g1, g2, g3, g4, g5, h0, decide_true, if_true, Int.natCast_nonneg, Int.toNat_natCast, bestF]
    refine Ev.ite (fun hh => ?_) (fun hh => ?_)
    · rw [if_pos (of_decide_eq_true hh)]
      exact e_impl_mostVoted_2 hc d (i + 1) i (by omega) (by omega) (by omega)
    · rw [if_neg (fun h9 => hh (decide_eq_true h9))]
      exact e_impl_mostVoted_2 hc d (i + 1) b (by omega) h0 h1
def countsOf (l : List Int) : List Int := cnt l zeros
theorem counts_len (l : List Int) : (countsOf l).length = 10 := by unfold countsOf; rw [cnt_len]; rfl
def mostOf (l : List Int) : Int := bestF (countsOf l) 10 0 0
theorem most_in (l : List Int) : 0 ≤ mostOf l ∧ mostOf l < 10 := bestF_in _ 10 0 0 rfl (by omega) (by omega)
def manyOf (l : List Int) : Int := List.getD (countsOf l) (mostOf l).toNat 0
theorem e_spec_voMost (l : List Int) (h : ∀ x ∈ l, 0 ≤ x ∧ x ≤ 9) (hl : l.length ≤ 1000) : Ev (fun k => f_spec_voMost k l) (mostOf l, manyOf l) := by
  have hm := most_in l
  have hlt : mostOf l < ((countsOf l).length : Int) := by rw [counts_len]; omega
  refine Ev.succ ?_
  simp only [f_spec_voMost]
  refine Ev.bind (e_spec_voMost_0 l [] zeros rfl h small_zeros (by simpa using hl)) ?_
  show Ev (fun k => Option.bind (f_spec_voMost_2 k (countsOf l) 0 ((countsOf l).length : Int) 0) _) _
  rw [counts_len]
  refine Ev.bind (e_spec_voMost_2 (counts_len l) 10 0 0 rfl (by omega) (by omega)) ?_
  show Ev (fun k => if 0 ≤ mostOf l then if mostOf l < ((countsOf l).length : Int) then some (mostOf l, manyOf l) else none else none) _
  rw [if_pos hm.1, if_pos hlt]
  exact Ev.some _
theorem e_impl_mostVoted (l : List Int) (h : ∀ x ∈ l, 0 ≤ x ∧ x ≤ 9) (hl : l.length ≤ 1000) : Ev (fun k => f_impl_mostVoted k l) (mostOf l, manyOf l) := by
  have hm := most_in l
  have hc := counts_len l
  have g5 : (mostOf l).toNat < (countsOf l).length := by omega
  have g3 : mostOf l < ((10 : Nat) : Int) := by omega
  refine Ev.succ ?_
  simp only [f_impl_mostVoted]
  refine Ev.bind (e_impl_mostVoted_0 l [] zeros rfl h small_zeros (by simpa using hl)) ?_
  refine Ev.bind (e_impl_mostVoted_2 (counts_len l) 10 0 0 rfl (by omega) (by omega)) ?_
  show Ev (fun k => if 0 ≤ mostOf l then if mostOf l < ((10 : Nat) : Int) then if (mostOf l).toNat < List.length [List.getD (countsOf l) 0 0, List.getD (countsOf l) 1 0, List.getD (countsOf l) 2 0, List.getD (countsOf l) 3 0, List.getD (countsOf l) 4 0, List.getD (countsOf l) 5 0, List.getD (countsOf l) 6 0, List.getD (countsOf l) 7 0, List.getD (countsOf l) 8 0, List.getD (countsOf l) 9 0] then some (mostOf l, List.getD [List.getD (countsOf l) 0 0, List.getD (countsOf l) 1 0, List.getD (countsOf l) 2 0, List.getD (countsOf l) 3 0, List.getD (countsOf l) 4 0, List.getD (countsOf l) 5 0, List.getD (countsOf l) 6 0, List.getD (countsOf l) 7 0, List.getD (countsOf l) 8 0, List.getD (countsOf l) 9 0] (mostOf l).toNat 0) else none else none else none) _
  rw [if_pos hm.1, if_pos g3, ten hc, if_pos g5]
  exact Ev.some _
end Go.Proofs.Ytcmndffpmjinlaa.Vs

set_option linter.unusedVariables false
set_option linter.unusedSimpArgs false
namespace Go.Proofs.Ytcmndffpmjinlaa.Vs
open Go.RowKit
/-- How many lie in all rows together. -/
def szRows {α : Type} : List (List α) → Int
  | [] => 0
  | x :: r => (x.length : Int) + szRows r
theorem szRows_nonneg {α : Type} : ∀ (l : List (List α)), 0 ≤ szRows l
  | [] => Int.le_refl _
  | x :: r => by have := szRows_nonneg r; simp only [szRows]; omega
theorem szRows_mem {α : Type} : ∀ {l : List (List α)} {x : List α}, x ∈ l → (x.length : Int) ≤ szRows l
  | y :: r, x, h => by
    have h1 := szRows_nonneg r
    simp only [szRows]
    rcases List.mem_cons.1 h with rfl | h
    · omega
    · have := szRows_mem h; omega
theorem e_laws_szIntSS_0 : ∀ (r pre : List (List Int)) (n : Int), 0 ≤ n → n ≤ 1048576 → (∀ x ∈ r, x.length ≤ 9223372036854775807) → (pre ++ r).length ≤ 9223372036854775806 → Ev (fun k => f_laws_szIntSS_0 k (pre ++ r) n (pre.length : Int)) (if n - szRows r < 0 then LR.ret (-1) else LR.go (n - szRows r))
  | [], pre, n, h0, h1, hx, hl => by
    refine Ev.succ ?_
    simp only [f_laws_szIntSS_0, nlt_end, decide_false, Bool.false_eq_true, if_false]
    rw [if_neg (show ¬ n - szRows ([] : List (List Int)) < 0 by simp only [szRows]; omega)]
    exact Ev.of (by simp [szRows])
  | x :: r, pre, n, h0, h1, hx, hl => by
    have hxl := hx x (List.mem_cons_self ..)
    have hr := szRows_nonneg r
    refine Ev.succ ?_
    simp only [f_laws_szIntSS_0, lt_mid, ge_mid, decide_true, if_true, Int.toNat_natCast, getD_mid]
    rw [next_mid pre x r (by omega)]
    refine Ev.bind (e_laws_szIntS x n h0 h1 hxl) ?_
    by_cases h : n - (x.length : Int) < 0
    · simp only [h, if_true]
      rw [if_pos (show n - szRows (x :: r) < 0 by simp only [szRows]; omega)]
      exact Ev.some _
    · simp only [h, if_false, decide_false, Bool.false_eq_true]
      have ih := e_laws_szIntSS_0 r (pre ++ [x]) (n - x.length) (by omega) (by omega) (fun y hy => hx y (List.mem_cons_of_mem _ hy)) (by simpa using hl)
      rw [← shift_mid] at ih
      have e1 : n - szRows (x :: r) = n - (x.length : Int) - szRows r := by simp only [szRows]; omega
      rw [e1]
      exact ih
theorem e_laws_szIntSS (l : List (List Int)) (n : Int) (h0 : 0 ≤ n) (h1 : n ≤ 1048576) (hl : l.length ≤ 9223372036854775807) (hx : ∀ x ∈ l, x.length ≤ 9223372036854775807) : Ev (fun k => f_laws_szIntSS k l n) (if n - l.length < 0 then -1 else if n - l.length - szRows l < 0 then -1 else n - l.length - szRows l) := by
  refine Ev.succ ?_
  simp only [f_laws_szIntSS]
  rw [w64 (by omega) (by omega)]
  by_cases h : n - (l.length : Int) < 0
  · simp only [h, decide_true, if_true]; exact Ev.some _
  · simp only [h, decide_false, Bool.false_eq_true, if_false]
    refine Ev.bind (e_laws_szIntSS_0 l [] _ (by omega) (by omega) hx (by simp; omega)) ?_
    by_cases g : n - (l.length : Int) - szRows l < 0
    · simp only [g, if_true]; exact Ev.ret (Ev.some _)
    · simp only [g, if_false]; exact Ev.go (Ev.some _)
theorem e_laws_toIntSS_0 : ∀ (r pre rest : List (List Int)), rest.length = r.length → (∀ x ∈ r, x.length ≤ 1048576) → (pre ++ r).length ≤ 1048576 → Ev (fun k => f_laws_toIntSS_0 k (pre ++ rest) (pre ++ r) (pre.length : Int)) (pre ++ r)
  | [], pre, rest, h, hx, hl => by
    obtain rfl : rest = [] := List.eq_nil_of_length_eq_zero h
    refine Ev.succ ?_
    simp only [f_laws_toIntSS_0, nlt_end, decide_false, Bool.false_eq_true, if_false]
    exact Ev.some _
  | x :: r, pre, [], h, hx, hl => by simp at h
  | x :: r, pre, y :: rest, h, hx, hl => by
    have ih := e_laws_toIntSS_0 r (pre ++ [x]) rest (by simpa using h) (fun y hy => hx y (List.mem_cons_of_mem _ hy)) (by simpa using hl)
    refine Ev.succ ?_
    simp only [f_laws_toIntSS_0, lt_mid, ge_mid, decide_true, if_true, Int.toNat_natCast, getD_mid, set_mid]
    rw [next_mid pre x r (by omega)]
    refine Ev.bind (e_laws_toIntS x (hx x (List.mem_cons_self ..))) ?_
    rw [← shift_mid, ← shift_mid] at ih
    exact ih
theorem e_laws_toIntSS (l : List (List Int)) (hl : l.length ≤ 1048576) (hx : ∀ x ∈ l, x.length ≤ 1048576) : Ev (fun k => f_laws_toIntSS k l) l := by
  refine Ev.succ ?_
  have hm : l.length * 24 ≤ 281474976710656 := by omega
  simp only [f_laws_toIntSS, Int.toNat_natCast, hm, if_true]
  exact Ev.bind (e_laws_toIntSS_0 l [] (List.replicate l.length []) (by simp) hx (by simpa using hl)) (Ev.some _)
theorem e_laws_eqIntSS_0 : ∀ (r s pre pre' : List (List Int)), s.length = r.length → pre'.length = pre.length → (∀ x ∈ r, x.length ≤ 9223372036854775806) → (pre ++ r).length ≤ 9223372036854775806 → Ev (fun k => f_laws_eqIntSS_0 k (pre ++ r) (pre' ++ s) (pre.length : Int)) (if r = s then LR.go () else LR.ret false)
  | [], s, pre, pre', h, hp, hx, hl => by
    obtain rfl : s = [] := List.eq_nil_of_length_eq_zero h
    refine Ev.succ ?_
    simp only [f_laws_eqIntSS_0, nlt_end, decide_false, Bool.false_eq_true, if_false, if_true]
    exact Ev.some _
  | x :: r, [], pre, pre', h, hp, hx, hl => by simp at h
  | x :: r, y :: s, pre, pre', h, hp, hx, hl => by
    have ih := e_laws_eqIntSS_0 r s (pre ++ [x]) (pre' ++ [y]) (by simpa using h) (by simpa using hp) (fun y hy => hx y (List.mem_cons_of_mem _ hy)) (by simpa using hl)
    have l2 : (pre.length : Int) < ((pre' ++ y :: s).length : Int) := by rw [← hp]; exact lt_mid _ _ _
    have g2 : List.getD (pre' ++ y :: s) pre.length [] = y := by rw [← hp]; exact getD_mid _ _ _ _
    refine Ev.succ ?_
    simp only [f_laws_eqIntSS_0, lt_mid, ge_mid, l2, decide_true, if_true, Int.toNat_natCast, getD_mid, g2]
    rw [next_mid pre x r (by omega)]
    rw [← shift_mid, ← shift_mid] at ih
    refine Ev.bind (e_laws_eqIntS x y (hx x (List.mem_cons_self ..))) ?_
    by_cases hxy : x = y
    · subst hxy
      simp only [decide_true, Bool.not_true, Bool.false_eq_true, if_false]
      refine ih.congr ?_
      by_cases hrs : r = s <;> simp [hrs]
    · simp only [hxy, decide_false, Bool.not_false, if_true]
      refine Ev.of ?_
      rw [if_neg (by intro hc; injection hc with h1 h2; exact hxy h1)]
theorem e_laws_eqIntSS (l m : List (List Int)) (hl : l.length ≤ 9223372036854775806) (hx : ∀ x ∈ l, x.length ≤ 9223372036854775806) : Ev (fun k => f_laws_eqIntSS k l m) (decide (l = m)) := by
  refine Ev.succ ?_
  simp only [f_laws_eqIntSS]
  by_cases h : l.length = m.length
  · simp only [h, ne_eq, not_true_eq_false, decide_false, Bool.false_eq_true, if_false]
    refine Ev.bind (e_laws_eqIntSS_0 l m [] [] h.symm rfl hx (by simpa using hl)) ?_
    by_cases hlm : l = m
    · rw [if_pos hlm]; simp only [hlm, decide_true]; exact Ev.go (Ev.some _)
    · rw [if_neg hlm]; simp only [hlm, decide_false]; exact Ev.ret (Ev.some _)
  · have h2 : ¬ (l.length : Int) = (m.length : Int) := by omega
    have h3 : ¬ l = m := fun hc => h (by rw [hc])
    simp only [ne_eq, h2, not_false_eq_true, decide_true, if_true, h3, decide_false]
    exact Ev.some _
end Go.Proofs.Ytcmndffpmjinlaa.Vs

set_option linter.unusedVariables false
set_option linter.unusedSimpArgs false
namespace Go.Proofs.Ytcmndffpmjinlaa.Vs
open Go.RowKit
end Go.Proofs.Ytcmndffpmjinlaa.Vs

set_option linter.unusedVariables false
set_option linter.unusedSimpArgs false
namespace Go.Proofs.Ytcmndffpmjinlaa.Vs
open Go.RowKit
end Go.Proofs.Ytcmndffpmjinlaa.Vs

set_option linter.unusedVariables false
set_option linter.unusedSimpArgs false
namespace Go.Proofs.Ytcmndffpmjinlaa.Vs
open Go.RowKit
/-! ### Rows -/
def rowOK (n : Nat) (x : List Int) : Bool := decide (x.length = n) && (decide (x.length ≤ 40) && digs x)
def rowsOK (R : List (List Int)) : Bool := decide (1 ≤ R.length ∧ R.length ≤ 9) && R.all (rowOK (List.getD R 0 []).length)
theorem e_impl_areRows_0 (R : List (List Int)) (hR : 0 < R.length) : ∀ (r pre : List (List Int)), (∀ x ∈ r, x.length ≤ 9223372036854775806) → (pre ++ r).length ≤ 9223372036854775806 → Ev (fun k => f_impl_areRows_0 k R (pre ++ r) ((pre ++ r).length : Int) (pre.length : Int)) (if r.all (rowOK (List.getD R 0 []).length) then LR.go () else LR.ret false)
  | [], pre, hx, hl => by
    refine Ev.succ ?_
    simp only [f_impl_areRows_0, nlt_end, decide_false, Bool.false_eq_true, if_false, List.all_nil, if_true]
    exact Ev.some _
  | x :: r, pre, hx, hl => by
    have ih := e_impl_areRows_0 R hR r (pre ++ [x]) (fun y hy => hx y (List.mem_cons_of_mem _ hy)) (by simpa using hl)
    have h0 : (0 : Int) < (R.length : Int) := by omega
    have hd : ∀ q, rowOK q x = (decide (x.length = q) && (decide (x.length ≤ 40) && digs x)) := fun _ => rfl
    refine Ev.succ ?_
    simp only [f_impl_areRows_0, lt_mid, ge_mid, decide_true, if_true, Int.toNat_natCast, getD_mid, h0, Int.toNat_zero, List.all_cons]
    rw [next_mid pre x r (by omega)]
    rw [← shift_mid] at ih
    refine Ev.ite (fun h => ?_) (fun h => Ev.ite (fun h2 => ?_) (fun h2 => ?_))
    · simp only [decide_eq_true_eq] at h
      have h1 : ¬ x.length = (List.getD R 0 []).length := by omega
      exact Ev.of (by simp only [hd, h1, decide_false, Bool.false_and, Bool.false_eq_true, if_false])
    · simp only [decide_eq_true_eq] at h2
      have h1 : ¬ x.length ≤ 40 := by omega
      exact Ev.of (by simp only [hd, h1, decide_false, Bool.false_and, Bool.and_false, Bool.false_eq_true, if_false])
    · simp only [decide_eq_true_eq] at h h2
      have h1 : x.length = (List.getD R 0 []).length := by omega
      have h3 : x.length ≤ 40 := by omega
      refine Ev.bind (e_impl_areDigits x (hx x (List.mem_cons_self ..))) ?_
      simp only [hd, h3, decide_true, Bool.true_and]
      cases hg : digs x with
      | true => simp only [Bool.not_true, Bool.false_eq_true, if_false, decide_eq_true h1, Bool.true_and]; exact ih
      | false => simp only [Bool.not_false, if_true, Bool.and_false, Bool.false_and, Bool.false_eq_true, if_false]; exact Ev.some _
theorem e_spec_voRows_0 (R : List (List Int)) (hR : 0 < R.length) : ∀ (r pre : List (List Int)), (∀ x ∈ r, x.length ≤ 9223372036854775806) → (pre ++ r).length ≤ 9223372036854775806 → Ev (fun k => f_spec_voRows_0 k R (pre ++ r) ((pre ++ r).length : Int) (pre.length : Int)) (if r.all (rowOK (List.getD R 0 []).length) then LR.go R else LR.ret false)
  | [], pre, hx, hl => by
    refine Ev.succ ?_
    simp only [f_spec_voRows_0, nlt_end, decide_false, Bool.false_eq_true, if_false, List.all_nil, if_true]
    exact Ev.some _
  | x :: r, pre, hx, hl => by
    have ih := e_spec_voRows_0 R hR r (pre ++ [x]) (fun y hy => hx y (List.mem_cons_of_mem _ hy)) (by simpa using hl)
    have h0 : (0 : Int) < (R.length : Int) := by omega
    have hd : ∀ q, rowOK q x = (decide (x.length = q) && (decide (x.length ≤ 40) && digs x)) := fun _ => rfl
    refine Ev.succ ?_
    simp only [f_spec_voRows_0, lt_mid, ge_mid, decide_true, if_true, Int.toNat_natCast, getD_mid, h0, Int.toNat_zero, List.all_cons]
    rw [next_mid pre x r (by omega)]
    rw [← shift_mid] at ih
    refine Ev.ite (fun h => ?_) (fun h => Ev.ite (fun h2 => ?_) (fun h2 => ?_))
    · simp only [decide_eq_true_eq] at h
      have h1 : ¬ x.length = (List.getD R 0 []).length := by omega
      exact Ev.of (by simp only [hd, h1, decide_false, Bool.false_and, Bool.false_eq_true, if_false])
    · simp only [decide_eq_true_eq] at h2
      have h1 : ¬ x.length ≤ 40 := by omega
      exact Ev.of (by simp only [hd, h1, decide_false, Bool.false_and, Bool.and_false, Bool.false_eq_true, if_false])
    · simp only [decide_eq_true_eq] at h h2
      have h1 : x.length = (List.getD R 0 []).length := by omega
      have h3 : x.length ≤ 40 := by omega
      refine Ev.bind (a := digs x) (e_spec_l1All x 0 9 (hx x (List.mem_cons_self ..))) ?_
      simp only [hd, h3, decide_true, Bool.true_and]
      cases hg : digs x with
      | true => simp only [Bool.not_true, Bool.false_eq_true, if_false, decide_eq_true h1, Bool.true_and]; exact ih
      | false => simp only [Bool.not_false, if_true, Bool.and_false, Bool.false_and, Bool.false_eq_true, if_false]; exact Ev.some _
theorem e_impl_areRows (R : List (List Int)) (hx : ∀ x ∈ R, x.length ≤ 9223372036854775806) (hl : R.length ≤ 9223372036854775806) : Ev (fun k => f_impl_areRows k R) (rowsOK R) := by
  refine Ev.succ ?_
  simp only [f_impl_areRows]
  refine Ev.ite (fun h => ?_) (fun h => Ev.ite (fun h2 => ?_) (fun h2 => ?_))
  · simp only [decide_eq_true_eq] at h
    have h3 : ¬ (1 ≤ R.length ∧ R.length ≤ 9) := by omega
    exact Ev.of (by simp only [rowsOK, h3, decide_false, Bool.false_and])
  · simp only [decide_eq_true_eq] at h2
    have h3 : ¬ (1 ≤ R.length ∧ R.length ≤ 9) := by omega
    exact Ev.of (by simp only [rowsOK, h3, decide_false, Bool.false_and])
  · simp only [decide_eq_true_eq] at h h2
    have h3 : 1 ≤ R.length ∧ R.length ≤ 9 := by omega
    refine Ev.bind (e_impl_areRows_0 R (by omega) R [] hx (by simpa using hl)) ?_
    simp only [rowsOK, h3, and_self, decide_true, Bool.true_and]
    cases hg : R.all (rowOK (List.getD R 0 []).length) with
    | true => simp only [if_true]; exact Ev.go (Ev.some _)
    | false => simp only [Bool.false_eq_true, if_false]; exact Ev.ret (Ev.some _)
theorem e_spec_voRows (R : List (List Int)) (hx : ∀ x ∈ R, x.length ≤ 9223372036854775806) (hl : R.length ≤ 9223372036854775806) : Ev (fun k => f_spec_voRows k R) (rowsOK R) := by
  refine Ev.succ ?_
  simp only [f_spec_voRows]
  have hco : Ev (fun k => f_spec_voCopies k (R.length : Int)) (decide (1 ≤ R.length ∧ R.length ≤ 9)) := by
    refine Ev.succ ?_
    simp only [f_spec_voCopies]
    refine (Ev.bind (e_spec_l1In _ _ _) (Ev.some _)).congr ?_
    apply decide_eq_decide.2
    omega
  by_cases h0 : 0 < R.length
  · refine Ev.bind (e_spec_voRows_0 R h0 R [] hx (by simpa using hl)) ?_
    cases hg : R.all (rowOK (List.getD R 0 []).length) with
    | true =>
      simp only [if_true, rowsOK, hg, Bool.and_true]
      exact Ev.go (Ev.bind hco (Ev.some _))
    | false =>
      simp only [Bool.false_eq_true, if_false, rowsOK, hg, Bool.and_false]
      exact Ev.ret (Ev.some _)
  · have hn : R = [] := List.eq_nil_of_length_eq_zero (by omega)
    subst hn
    have hl0 : Ev (fun k => f_spec_voRows_0 k [] [] (([] : List (List Int)).length : Int) 0) (LR.go []) := by
      refine Ev.succ ?_
      simp only [f_spec_voRows_0, List.length_nil, Int.natCast_zero, Int.lt_irrefl, decide_false, Bool.false_eq_true, if_false]
      exact Ev.some _
    exact Ev.bind hl0 (Ev.go (Ev.bind hco (Ev.some _)))
theorem rows_ok {R : List (List Int)} (h : rowsOK R = true) : 0 < R.length ∧ R.length ≤ 9 ∧ (List.getD R 0 []).length ≤ 40 ∧ ∀ x ∈ R, x.length = (List.getD R 0 []).length ∧ ∀ y ∈ x, 0 ≤ y ∧ y ≤ 9 := by
  unfold rowsOK rowOK digs at h
  simp only [Bool.and_eq_true, decide_eq_true_eq, List.all_eq_true] at h
  have h0 : 0 < R.length := by omega
  have hm : List.getD R 0 [] ∈ R := by simp [List.getD, List.getElem?_eq_getElem h0]
  exact ⟨h0, h.1.2, (h.2 _ hm).2.1, fun x hx => ⟨(h.2 x hx).1, (h.2 x hx).2.2⟩⟩
def colOf (R : List (List Int)) (k : Nat) : List Int := R.map fun x => List.getD x k 0
theorem e_spec_voPlace_0 (n k0 : Nat) (hk : k0 < n) : ∀ (r pre : List (List Int)) (acc : List Int), (∀ x ∈ r, x.length = n) → (pre ++ r).length ≤ 1000 → acc.length ≤ pre.length → Ev (fun k => f_spec_voPlace_0 k acc (k0 : Int) (pre ++ r) ((pre ++ r).length : Int) (pre.length : Int)) (acc ++ colOf r k0)
  | [], pre, acc, hx, hl, ha => by
    refine Ev.succ ?_
    simp only [f_spec_voPlace_0, nlt_end, decide_false, Bool.false_eq_true, if_false]
    exact Ev.of (by simp [colOf])
  | x :: r, pre, acc, hx, hl, ha => by
    have hxn := hx x (List.mem_cons_self ..)
    have ih := e_spec_voPlace_0 n k0 hk r (pre ++ [x]) (acc ++ [List.getD x k0 0]) (fun y hy => hx y (List.mem_cons_of_mem _ hy)) (by simpa using hl) (by simp; omega)
    rw [← shift_mid] at ih
    have h1 : (k0 : Int) < (x.length : Int) := by omega
    have hal : acc.length + 1 ≤ 140737488355328 / 8 := by simp at hl; omega
    refine Ev.succ ?_
    simp only [f_spec_voPlace_0, lt_mid, ge_mid, decide_true, if_true, Int.toNat_natCast, getD_mid, List.length_singleton, hal, h1, Int.natCast_nonneg]
    rw [next_mid pre x r (by omega)]
    refine ih.congr ?_
    simp [colOf]
theorem e_spec_voPlace (R : List (List Int)) (n k0 : Nat) (hk : k0 < n) (hR : ∀ x ∈ R, x.length = n) (hl : R.length ≤ 1000) : Ev (fun k => f_spec_voPlace k R (k0 : Int)) (colOf R k0) := by
  refine Ev.succ ?_
  simp only [f_spec_voPlace]
  exact Ev.bind (e_spec_voPlace_0 n k0 hk R [] [] hR (by simpa using hl) (by simp)) (Ev.some _)
theorem e_impl_column_0 (n k0 : Nat) (hk : k0 < n) : ∀ (r pre : List (List Int)) (acc : List Int), (∀ x ∈ r, x.length = n) → (pre ++ r).length ≤ 1000 → acc.length ≤ pre.length → Ev (fun k => f_impl_column_0 k acc (k0 : Int) (pre ++ r) ((pre ++ r).length : Int) (pre.length : Int)) (acc ++ colOf r k0)
  | [], pre, acc, hx, hl, ha => by
    refine Ev.succ ?_
    simp only [f_impl_column_0, nlt_end, decide_false, Bool.false_eq_true, if_false]
    exact Ev.of (by simp [colOf])
  | x :: r, pre, acc, hx, hl, ha => by
    have hxn := hx x (List.mem_cons_self ..)
    have ih := e_impl_column_0 n k0 hk r (pre ++ [x]) (acc ++ [List.getD x k0 0]) (fun y hy => hx y (List.mem_cons_of_mem _ hy)) (by simpa using hl) (by simp; omega)
    rw [← shift_mid] at ih
    have h1 : (k0 : Int) < (x.length : Int) := by omega
    have hal : acc.length + 1 ≤ 140737488355328 / 8 := by simp at hl; omega
    refine Ev.succ ?_
    simp only [f_impl_column_0, lt_mid, ge_mid, decide_true, if_true, Int.toNat_natCast, getD_mid, List.length_singleton, hal, h1, Int.natCast_nonneg]
    rw [next_mid pre x r (by omega)]
    refine ih.congr ?_
    simp [colOf]
theorem e_impl_column (R : List (List Int)) (n k0 : Nat) (hk : k0 < n) (hR : ∀ x ∈ R, x.length = n) (hl : R.length ≤ 1000) : Ev (fun k => f_impl_column k R (k0 : Int)) (colOf R k0) := by
  refine Ev.succ ?_
  simp only [f_impl_column]
  exact Ev.bind (e_impl_column_0 n k0 hk R [] [] hR (by simpa using hl) (by simp)) (Ev.some _)
theorem col_digs {R : List (List Int)} {n k : Nat} (hk : k < n) (hR : ∀ x ∈ R, x.length = n ∧ ∀ y ∈ x, 0 ≤ y ∧ y ≤ 9) : ∀ y ∈ colOf R k, 0 ≤ y ∧ y ≤ 9 := by
  intro y hy
  obtain ⟨x, hx, rfl⟩ := List.mem_map.1 hy
  obtain ⟨h1, h2⟩ := hR x hx
  exact h2 _ (by simp [List.getD, List.getElem?_eq_getElem (show k < x.length by omega)])
theorem col_len (R : List (List Int)) (k : Nat) : (colOf R k).length = R.length := by simp [colOf]
end Go.Proofs.Ytcmndffpmjinlaa.Vs

set_option linter.unusedVariables false
set_option linter.unusedSimpArgs false
namespace Go.Proofs.Ytcmndffpmjinlaa.Vs
open Go.RowKit
/-! ### Ties -/
def occ : List Int → Int → Int
  | [], _ => 0
  | x :: r, v => (if x = v then 1 else 0) + occ r v
theorem cnt_get : ∀ (r c : List Int) (v : Nat), c.length = 10 → (∀ x ∈ r, 0 ≤ x ∧ x ≤ 9) → List.getD (cnt r c) v 0 = List.getD c v 0 + occ r (v : Int)
  | [], c, v, hc, hr => by simp [cnt, occ]
  | x :: r, c, v, hc, hr => by
    obtain ⟨x0, x9⟩ := hr x (List.mem_cons_self ..)
    simp only [cnt, occ]
    rw [cnt_get r _ v (by simpa using hc) (fun y hy => hr y (List.mem_cons_of_mem _ hy)), getD_set c x.toNat v _ (by omega)]
    by_cases h : v = x.toNat
    · have h2 : x = (v : Int) := by omega
      rw [if_pos h, if_pos h2, h]
      omega
    · have h2 : ¬ x = (v : Int) := by omega
      rw [if_neg h, if_neg h2]
      omega
theorem counts_get {l : List Int} (h : ∀ x ∈ l, 0 ≤ x ∧ x ≤ 9) (v : Nat) : List.getD (countsOf l) v 0 = occ l (v : Int) := by
  unfold countsOf
  rw [cnt_get l zeros v rfl h]
  have := getD_repl 10 v (0 : Int)
  unfold zeros
  omega
/-- How many of ten numbers are m. -/
def sev (g : Nat → Int) (m : Int) : Nat → Nat → Int → Int
  | 0, _, n => n
  | d + 1, i, n => sev g m d (i + 1) (if g i = m then n + 1 else n)
theorem sev_congr {g g' : Nat → Int} (h : ∀ i, g i = g' i) (m : Int) : ∀ (d i : Nat) (n : Int), sev g m d i n = sev g' m d i n
  | 0, _, _ => rfl
  | d + 1, i, n => by simp only [sev, h i, sev_congr h m d]
theorem e_impl_TieCount_2 (R : List (List Int)) (n k0 : Nat) (hk : k0 < n) (v4 v20 v21 : Int) : ∀ (r pre : List (List Int)) (c : List Int), c.length = 10 → (∀ x ∈ r, x.length = n ∧ ∀ y ∈ x, 0 ≤ y ∧ y ≤ 9) → Small c (pre.length : Int) → (pre ++ r).length ≤ 1000 → Ev (fun k => f_impl_TieCount_2 k (List.getD c 0 0) (List.getD c 1 0) (List.getD c 2 0) (List.getD c 3 0) (List.getD c 4 0) (List.getD c 5 0) (List.getD c 6 0) (List.getD c 7 0) (List.getD c 8 0) (List.getD c 9 0) R v4 (k0 : Int) v20 v21 (pre ++ r) ((pre ++ r).length : Int) (pre.length : Int)) (List.getD (cnt (colOf r k0) c) 0 0, List.getD (cnt (colOf r k0) c) 1 0, List.getD (cnt (colOf r k0) c) 2 0, List.getD (cnt (colOf r k0) c) 3 0, List.getD (cnt (colOf r k0) c) 4 0, List.getD (cnt (colOf r k0) c) 5 0, List.getD (cnt (colOf r k0) c) 6 0, List.getD (cnt (colOf r k0) c) 7 0, List.getD (cnt (colOf r k0) c) 8 0, List.getD (cnt (colOf r k0) c) 9 0, R, v4, (k0 : Int), v20, v21)
  | [], pre, c, hc, hr, hs, hl => by
    refine Ev.succ ?_
    simp only [f_impl_TieCount_2, nlt_end, decide_false, Bool.false_eq_true, if_false, colOf, List.map_nil, cnt]
    exact Ev.some _
  | x :: r, pre, c, hc, hr, hs, hl => by
    obtain ⟨xn, xd⟩ := hr x (List.mem_cons_self ..)
    have hm : List.getD x k0 0 ∈ x := by simp [List.getD, List.getElem?_eq_getElem (show k0 < x.length by omega)]
    obtain ⟨y0, y9⟩ := xd _ hm
    have hkx : (k0 : Int) < (x.length : Int) := by omega
    generalize hy : List.getD x k0 0 = y at *
    have hx : y.toNat < c.length := by omega
    have h1 : y < ((10 : Nat) : Int) := by omega
    have hsx := hs y.toNat
    have hlen : pre.length + 1 ≤ 1000 := by simp at hl; omega
    have ih := e_impl_TieCount_2 R n k0 hk v4 v20 v21 r (pre ++ [x]) (List.set c y.toNat (List.getD c y.toNat 0 + 1)) (by simpa using hc) (fun z hz => hr z (List.mem_cons_of_mem _ hz)) (by have := hs.set hx (x := 1) (by omega); simpa using this) (by simpa using hl)
    refine Ev.succ ?_
    simp only [f_impl_TieCount_2, lt_mid, ge_mid, decide_true, if_true, Int.toNat_natCast, getD_mid, Int.natCast_nonneg, hkx, hy, y0, h1, ten hc, hx]
    rw [next_mid pre x r (by omega), w64 (n := List.getD c y.toNat 0 + 1) (by omega) (by omega)]
    rw [← shift_mid] at ih
    refine (show Ev _ _ from ih).congr ?_
    simp only [colOf, List.map_cons, cnt, hy]
theorem e_impl_TieCount_4 {c : List Int} (hc : c.length = 10) (R : List (List Int)) (v4 m v20 v21 : Int) : ∀ (d i : Nat) (n : Int), i + d = 10 → 0 ≤ n → n ≤ i → Ev (fun k => f_impl_TieCount_4 k R v4 m n v20 v21 (List.getD c 0 0) (List.getD c 1 0) (List.getD c 2 0) (List.getD c 3 0) (List.getD c 4 0) (List.getD c 5 0) (List.getD c 6 0) (List.getD c 7 0) (List.getD c 8 0) (List.getD c 9 0) (i : Int)) (R, v4, sev (fun i => List.getD c i 0) m d i n, v20, v21)
  | 0, i, n, h, h0, h1 => by
    have : ¬ (i : Int) < 10 := by omega
    refine Ev.succ ?_
    simp only [f_impl_TieCount_4, this, decide_false, Bool.false_eq_true, if_false, sev]
    exact Ev.some _
  | d + 1, i, n, h, h0, h1 => by
    have g1 : (i : Int) < 10 := by omega
    have g2 : (i : Int) < ((10 : Nat) : Int) := by omega
    have g4 : wrap64 ((i : Int) + 1) = ((i + 1 : Nat) : Int) := by rw [w64 (by omega) (by omega)]; omega
    have g5 : wrap64 (n + 1) = n + 1 := w64 (by omega) (by omega)
    refine Ev.succ ?_
    simp only [f_impl_TieCount_4, ten hc, g1, g2, g4, g5, decide_true, if_true, Int.natCast_nonneg, Int.toNat_natCast, sev]
    refine Ev.ite (fun hh => ?_) (fun hh => ?_)
    · rw [if_pos (of_decide_eq_true hh)]
      exact e_impl_TieCount_4 hc R v4 m v20 v21 d (i + 1) (n + 1) (by omega) (by omega) (by omega)
    · rw [if_neg (fun h9 => hh (decide_eq_true h9))]
      exact e_impl_TieCount_4 hc R v4 m v20 v21 d (i + 1) n (by omega) h0 (by omega)
theorem e_spec_TieCount_4 (R : List (List Int)) (v4 v8 v9 v v20 v21 : Int) (l : List Int) : ∀ (r pre : List Int) (n : Int), 0 ≤ n → n ≤ (pre.length : Int) → (pre ++ r).length ≤ 1000 → l = pre ++ r → Ev (fun k => f_spec_TieCount_4 k l R v4 v8 v9 v n v20 v21 (l.length : Int) (pre.length : Int)) (l, R, v4, v8, v9, v, n + occ r v, v20, v21)
  | [], pre, n, h0, h1, hl, he => by
    subst he
    refine Ev.succ ?_
    simp only [f_spec_TieCount_4, nlt_end, decide_false, Bool.false_eq_true, if_false, occ, Int.add_zero]
    exact Ev.some _
  | x :: r, pre, n, h0, h1, hl, he => by
    have hlen : pre.length + 1 ≤ 1000 := by simp at hl; omega
    have ih := fun n' h0 h1 => e_spec_TieCount_4 R v4 v8 v9 v v20 v21 l r (pre ++ [x]) n' h0 h1 (by simpa using hl) (by simpa using he)
    have g5 : wrap64 (n + 1) = n + 1 := w64 (by omega) (by omega)
    subst he
    refine Ev.succ ?_
    simp only [f_spec_TieCount_4, lt_mid, ge_mid, decide_true, if_true, Int.toNat_natCast, getD_mid, g5]
    rw [next_mid pre x r (by omega)]
    refine Ev.ite (fun hh => ?_) (fun hh => ?_)
    · have hh := of_decide_eq_true hh
      refine (ih (n + 1) (by omega) (by simp; omega)).congr ?_
      simp only [occ, if_pos hh, Int.add_assoc]
    · have hh : ¬ x = v := fun h9 => hh (decide_eq_true h9)
      refine (ih n (by omega) (by simp; omega)).congr ?_
      simp only [occ, if_neg hh, Int.zero_add]
theorem e_spec_TieCount_2 (R : List (List Int)) (v4 m v20 v21 : Int) (l : List Int) (hl : l.length ≤ 1000) : ∀ (d i : Nat) (n : Int), i + d = 10 → 0 ≤ n → n ≤ i → Ev (fun k => f_spec_TieCount_2 k l R v4 m n (i : Int) v20 v21) (R, v4, sev (fun i => occ l (i : Int)) m d i n, v20, v21)
  | 0, i, n, h, h0, h1 => by
    have : ¬ (i : Int) ≤ 9 := by omega
    refine Ev.succ ?_
    simp only [f_spec_TieCount_2, this, decide_false, Bool.false_eq_true, if_false, sev]
    exact Ev.some _
  | d + 1, i, n, h, h0, h1 => by
    have g1 : (i : Int) ≤ 9 := by omega
    have g4 : wrap64 ((i : Int) + 1) = ((i + 1 : Nat) : Int) := by rw [w64 (by omega) (by omega)]; omega
    have g5 : wrap64 (n + 1) = n + 1 := w64 (by omega) (by omega)
    have h8 := e_spec_TieCount_4 R v4 m n (i : Int) v20 v21 l l [] 0 (by omega) (by simp) (by simpa using hl) rfl
    simp only [List.length_nil, Int.natCast_zero, Int.zero_add] at h8
    refine Ev.succ ?_
    simp only [f_spec_TieCount_2, g1, decide_true, if_true]
    refine Ev.bind h8 ?_
    simp only [g4, g5, sev]
    refine Ev.ite (fun hh => ?_) (fun hh => ?_)
    · rw [if_pos (of_decide_eq_true hh)]
      exact e_spec_TieCount_2 R v4 m v20 v21 l hl d (i + 1) (n + 1) (by omega) (by omega) (by omega)
    · rw [if_neg (fun h9 => hh (decide_eq_true h9))]
      exact e_spec_TieCount_2 R v4 m v20 v21 l hl d (i + 1) n (by omega) h0 (by omega)
def tieB (R : List (List Int)) (i : Nat) : Bool := decide (sev (fun v => List.getD (countsOf (colOf R i)) v 0) (manyOf (colOf R i)) 10 0 0 > 1)
def tieF (R : List (List Int)) : Nat → Nat → Int → Int
  | 0, _, n => n
  | d + 1, i, n => tieF R d (i + 1) (if tieB R i then n + 1 else n)
theorem e_impl_TieCount_0 (R : List (List Int)) (n : Nat) (hn : n ≤ 1000) (hR : ∀ x ∈ R, x.length = n ∧ ∀ y ∈ x, 0 ≤ y ∧ y ≤ 9) (hl : R.length ≤ 1000) : ∀ (d i : Nat) (v4 : Int), i + d = n → 0 ≤ v4 → v4 ≤ i → Ev (fun k => f_impl_TieCount_0 k R v4 (n : Int) (i : Int)) (tieF R d i v4)
  | 0, i, v4, h, h0, h1 => by
    obtain rfl : i = n := by omega
    refine Ev.succ ?_
    simp only [f_impl_TieCount_0, Int.lt_irrefl, decide_false, Bool.false_eq_true, if_false, tieF]
    exact Ev.some _
  | d + 1, i, v4, h, h0, h1 => by
    have g1 : (i : Int) < n := by omega
    have g4 : wrap64 ((i : Int) + 1) = ((i + 1 : Nat) : Int) := by rw [w64 (by omega) (by omega)]; omega
    have g5 : wrap64 (v4 + 1) = v4 + 1 := w64 (by omega) (by omega)
    have hcd := col_digs (k := i) (by omega) hR
    have h2 := e_impl_TieCount_2 R n i (by omega) v4 (n : Int) (i : Int) R [] zeros rfl hR small_zeros (by simpa using hl)
    have h4 := e_impl_TieCount_4 (counts_len (colOf R i)) R v4 (manyOf (colOf R i)) (n : Int) (i : Int) 10 0 0 rfl (by omega) (by omega)
    refine Ev.succ ?_
    simp only [f_impl_TieCount_0, g1, decide_true, if_true]
    refine Ev.bind h2 (Ev.bind (e_impl_column R n i (by omega) (fun x hx => (hR x hx).1) hl) (Ev.bind (e_impl_mostVoted (colOf R i) hcd (by rw [col_len]; exact hl)) (Ev.bind h4 ?_)))
    simp only [g4, g5, tieF]
    refine Ev.ite (fun hh => ?_) (fun hh => ?_)
    · have hh : tieB R i = true := hh
      rw [if_pos hh]
      exact e_impl_TieCount_0 R n hn hR hl d (i + 1) (v4 + 1) (by omega) (by omega) (by omega)
    · have hh : ¬ tieB R i = true := hh
      rw [if_neg hh]
      exact e_impl_TieCount_0 R n hn hR hl d (i + 1) v4 (by omega) h0 (by omega)
theorem e_spec_TieCount_0 (R : List (List Int)) (n : Nat) (hn : n ≤ 1000) (hR : ∀ x ∈ R, x.length = n ∧ ∀ y ∈ x, 0 ≤ y ∧ y ≤ 9) (hl : R.length ≤ 1000) : ∀ (d i : Nat) (v4 : Int), i + d = n → 0 ≤ v4 → v4 ≤ i → Ev (fun k => f_spec_TieCount_0 k R v4 (n : Int) (i : Int)) (tieF R d i v4)
  | 0, i, v4, h, h0, h1 => by
    obtain rfl : i = n := by omega
    refine Ev.succ ?_
    simp only [f_spec_TieCount_0, Int.lt_irrefl, decide_false, Bool.false_eq_true, if_false, tieF]
    exact Ev.some _
  | d + 1, i, v4, h, h0, h1 => by
    have g1 : (i : Int) < n := by omega
    have g4 : wrap64 ((i : Int) + 1) = ((i + 1 : Nat) : Int) := by rw [w64 (by omega) (by omega)]; omega
    have g5 : wrap64 (v4 + 1) = v4 + 1 := w64 (by omega) (by omega)
    have hcd := col_digs (k := i) (by omega) hR
    have h4 := e_spec_TieCount_2 R v4 (manyOf (colOf R i)) (n : Int) (i : Int) (colOf R i) (by rw [col_len]; exact hl) 10 0 0 rfl (by omega) (by omega)
    refine Ev.succ ?_
    simp only [f_spec_TieCount_0, g1, decide_true, if_true]
    refine Ev.bind (e_spec_voPlace R n i (by omega) (fun x hx => (hR x hx).1) hl) (Ev.bind (e_spec_voMost (colOf R i) hcd (by rw [col_len]; exact hl)) (Ev.bind h4 ?_))
    have hs : sev (fun j => occ (colOf R i) (j : Int)) (manyOf (colOf R i)) 10 0 0 = sev (fun v => List.getD (countsOf (colOf R i)) v 0) (manyOf (colOf R i)) 10 0 0 := sev_congr (fun j => (counts_get hcd j).symm) _ _ _ _
    simp only [g4, g5, tieF, hs]
    refine Ev.ite (fun hh => ?_) (fun hh => ?_)
    · have hh : tieB R i = true := hh
      rw [if_pos hh]
      exact e_spec_TieCount_0 R n hn hR hl d (i + 1) (v4 + 1) (by omega) (by omega) (by omega)
    · have hh : ¬ tieB R i = true := hh
      rw [if_neg hh]
      exact e_spec_TieCount_0 R n hn hR hl d (i + 1) v4 (by omega) h0 (by omega)
def r_TieCount (R : List (List Int)) : Int × Bool := if rowsOK R then (tieF R (List.getD R 0 []).length 0 0, true) else (0, false)
theorem e_spec_TieCount (R : List (List Int)) (h0 : R.length ≤ 9223372036854775806) (hx : ∀ x ∈ R, x.length ≤ 9223372036854775806) : Ev (fun k => f_spec_TieCount k R) (r_TieCount R) := by
  refine Ev.succ ?_
  simp only [f_spec_TieCount]
  unfold r_TieCount
  refine Ev.bind (a := rowsOK R) (e_spec_voRows R hx h0) ?_
  cases g0 : rowsOK R with
  | false => simp only [Bool.not_false, if_true, Bool.false_eq_true, if_false, Bool.false_and, Bool.and_false]; exact Ev.some _
  | true =>
    simp only [Bool.not_true, Bool.false_eq_true, if_false, if_true, Bool.and_self]
    obtain ⟨k1, k2, k3, k4⟩ := rows_ok g0
    have h00 : (0 : Int) < (R.length : Int) := by omega
    simp only [h00, if_true, Int.toNat_zero]
    exact Ev.bind (e_spec_TieCount_0 R (List.getD R 0 []).length (by omega) k4 (by omega) _ 0 0 (by omega) (by omega) (by omega)) (Ev.some _)
theorem e_impl_TieCount (R : List (List Int)) (h0 : R.length ≤ 9223372036854775806) (hx : ∀ x ∈ R, x.length ≤ 9223372036854775806) : Ev (fun k => f_impl_TieCount k R) (r_TieCount R) := by
  refine Ev.succ ?_
  simp only [f_impl_TieCount]
  unfold r_TieCount
  refine Ev.bind (a := rowsOK R) (e_impl_areRows R hx h0) ?_
  cases g0 : rowsOK R with
  | false => simp only [Bool.not_false, if_true, Bool.false_eq_true, if_false, Bool.false_and, Bool.and_false]; exact Ev.some _
  | true =>
    simp only [Bool.not_true, Bool.false_eq_true, if_false, if_true, Bool.and_self]
    obtain ⟨k1, k2, k3, k4⟩ := rows_ok g0
    have h00 : (0 : Int) < (R.length : Int) := by omega
    simp only [h00, if_true, Int.toNat_zero]
    exact Ev.bind (e_impl_TieCount_0 R (List.getD R 0 []).length (by omega) k4 (by omega) _ 0 0 (by omega) (by omega) (by omega)) (Ev.some _)
theorem law_FnExactTieCount (p0 : List (List Int)) (h0 : p0.length ≤ 9223372036854775807) (g0 : ∀ x ∈ p0, x.length ≤ 9223372036854775807) : Ev (fun k => f_laws_FnExactTieCount k p0) true := by
  refine Ev.succ ?_
  simp only [f_laws_FnExactTieCount]
  refine Ev.bind (e_laws_szIntSS _ _ (by omega) (by omega) (by omega) g0) ?_
  by_cases q1 : (1048576 : Int) - (p0.length : Int) < 0
  · simp only [q1, if_true]; exact Ev.some _
  simp only [q1, if_false]
  by_cases r1 : (1048576 : Int) - (p0.length : Int) - szRows p0 < 0
  · simp only [r1, if_true]; exact Ev.some _
  simp only [r1, if_false, decide_false, Bool.false_eq_true]
  have y0 := szRows_nonneg p0
  have u0 : ∀ x ∈ p0, x.length ≤ 1048576 := fun x hx => by have := szRows_mem hx; omega
  have v0 : ∀ x ∈ p0, x.length ≤ 9223372036854775806 := fun x hxl => by have := u0 x hxl; omega
  have es := e_spec_TieCount p0 (by omega) (by assumption)
  have ei := e_impl_TieCount p0 (by omega) (by assumption)
  generalize r_TieCount p0 = R at es ei
  refine Ev.bind (e_laws_toIntSS _ (by first | omega | (dsimp only; omega)) (by assumption)) ?_
  refine Ev.bind es ?_
  refine Ev.bind (e_laws_toIntSS _ (by first | omega | (dsimp only; omega)) (by assumption)) ?_
  refine Ev.bind ei ?_
  simp only [decide_true, beq_self_eq_true, ne_eq, not_true_eq_false, decide_false, Bool.not_true, Bool.false_eq_true, if_false]
  refine Ev.bind (e_laws_toIntSS _ (by first | omega | (dsimp only; omega)) (by assumption)) ?_
  refine Ev.bind (e_laws_eqIntSS _ _ (by first | omega | (dsimp only; omega)) (by assumption)) ?_
  simp only [decide_true, beq_self_eq_true, ne_eq, not_true_eq_false, decide_false, Bool.not_true, Bool.false_eq_true, if_false]
  exact Ev.some _
end Go.Proofs.Ytcmndffpmjinlaa.Vs
