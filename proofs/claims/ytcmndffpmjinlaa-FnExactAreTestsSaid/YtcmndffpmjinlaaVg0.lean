/- Functions of the program by plain functions, each with its contract. -/
import Derived.Test.YtcmndffpmjinlaaVsT
set_option maxRecDepth 100000
set_option linter.unusedVariables false
set_option linter.unusedSimpArgs false
namespace Go.Proofs.Ytcmndffpmjinlaa.Vs
open Go.RowKit
noncomputable section
/-! function 16 -/
noncomputable def r_impl_Tolerated : List PK := [{ t := Ty.int IntKind.i64 }, { t := Ty.bool }]
noncomputable def q_impl_Tolerated : List PK := [{ t := Ty.int IntKind.i64 }]
noncomputable def to_impl_Tolerated (r : Int × Bool) : Tup r_impl_Tolerated × OutD := ((r.1, r.2, ()), none)
noncomputable def of_impl_Tolerated : Tup r_impl_Tolerated × OutD → Option (Int × Bool)
  | (a, none) => some (a.1, a.2.1)
  | _ => none
theorem to_of_impl_Tolerated : ∀ b r, of_impl_Tolerated b = some r → to_impl_Tolerated r = b := by
  rintro ⟨a, o⟩ r h
  cases o with
  | none => injection h with h; subst h; rfl
  | some _ => cases h
noncomputable def f_impl_Tolerated : Nat → Int → Option (Int × Bool)
  | 0, _ => none
  | k + 1, p0 =>
    if decide (p0 < (1 : Int)) = true then some ((0 : Int), false) else if decide (p0 > (9 : Int)) = true then some ((0 : Int), false) else some (wrap64 (Int.tdiv (wrap64 (p0 - (1 : Int))) (2 : Int)), true)
noncomputable def d_impl_Tolerated : FnDef := .of q_impl_Tolerated r_impl_Tolerated (Int × Bool) (fun k x => f_impl_Tolerated k x.1) to_impl_Tolerated of_impl_Tolerated to_of_impl_Tolerated
noncomputable def c_impl_Tolerated : Code := Try.f16.body.getD .skip
noncomputable def x_impl_Tolerated : Ctx (Tup r_impl_Tolerated × OutD) := { T := T, G := [], mvs := [], no := 0, n := 13, res := resOf T q_impl_Tolerated r_impl_Tolerated Try.f16.results.toList, loops := [], regs := [], conds := [] }
theorem g_impl_Tolerated (k : Nat) : EnvOK Try.prog k x_impl_Tolerated.G := (EnvOK.nil mixed)
theorem h_impl_Tolerated (k : Nat) (x : Tup d_impl_Tolerated.ps) : d_impl_Tolerated.f (k + 1) x = fnK d_impl_Tolerated x_impl_Tolerated c_impl_Tolerated k x := by kernel_rfl
theorem z_impl_Tolerated (x : Tup d_impl_Tolerated.ps) : d_impl_Tolerated.f 0 x = none := by kernel_rfl
theorem l_impl_Tolerated (k : Nat) : LOK Try.prog x_impl_Tolerated k c_impl_Tolerated := LOK.by [] (by kernel_rfl) AllOK.nil
theorem s_impl_Tolerated (k : Nat) : SoundAt Try.prog k 16 d_impl_Tolerated.E := @fn_all Try.prog d_impl_Tolerated x_impl_Tolerated 16 Try.f16 c_impl_Tolerated (by kernel_rfl) (by kernel_rfl) (by kernel_rfl) Try.func16 (by kernel_rfl) (by kernel_rfl) (by kernel_rfl) T_ok g_impl_Tolerated l_impl_Tolerated z_impl_Tolerated h_impl_Tolerated k
/-! function 18 -/
noncomputable def r_laws_toIntS : List PK := [{ t := Ty.slice (3 : Nat) (Ty.int IntKind.i64) }]
noncomputable def q_laws_toIntS : List PK := [{ t := Ty.slice (3 : Nat) (Ty.int IntKind.i64) }]
noncomputable def to_laws_toIntS (r : List Int) : Tup r_laws_toIntS × OutD := ((r, ()), none)
noncomputable def of_laws_toIntS : Tup r_laws_toIntS × OutD → Option (List Int)
  | (a, none) => some (a.1)
  | _ => none
theorem to_of_laws_toIntS : ∀ b r, of_laws_toIntS b = some r → to_laws_toIntS r = b := by
  rintro ⟨a, o⟩ r h
  cases o with
  | none => injection h with h; subst h; rfl
  | some _ => cases h
noncomputable def f_laws_toIntS_0 : Nat → List Int → List Int → Int → Option (List Int)
  | 0, _, _, _ => none
  | k + 1, o1, v0, v4 =>
    if decide (v4 < (↑(List.length v0) : Int)) = true then if (0 : Int) ≤ v4 then if v4 < (↑(List.length v0) : Int) then if (0 : Int) ≤ v4 then if v4 < (↑(List.length o1) : Int) then f_laws_toIntS_0 k (List.set o1 (Int.toNat v4) (List.getD v0 (Int.toNat v4) (0 : Int))) v0 (wrap64 (v4 + (1 : Int))) else none else none else none else none else some o1
noncomputable def f_laws_toIntS_0i : Spec := { objs := [OSh.ro, OSh.row true (3 : Nat) (Ty.int IntKind.i64)], tmps := [((0 : Nat), TSh.at (Sh.snap (0 : Nat) (Ty.int IntKind.i64))), ((3 : Nat), TSh.at (Sh.sl (1 : Nat))), ((4 : Nat), TSh.at (Sh.int IntKind.i64))] }
noncomputable def f_laws_toIntS_0o : Spec := { objs := [OSh.ro, OSh.row true (3 : Nat) (Ty.int IntKind.i64)], tmps := [((3 : Nat), TSh.at (Sh.sl (1 : Nat)))] }
noncomputable def f_laws_toIntS_0D : LoopDef (Tup r_laws_toIntS × OutD) := .plain f_laws_toIntS_0i f_laws_toIntS_0o (List Int) (fun k x => f_laws_toIntS_0 k x.1.2.1 x.2.1 x.2.2.2.1) (fun z => (((), z, ()), ((), ()))) (fun y => (y.1.2.1)) (fun _ => rfl)
noncomputable def f_laws_toIntS : Nat → List Int → Option (List Int)
  | 0, _ => none
  | k + 1, p0 =>
    if Int.toNat (↑(List.length p0) : Int) * (8 : Nat) ≤ (281474976710656 : Nat) then Option.bind (f_laws_toIntS_0 k (List.replicate (Int.toNat (↑(List.length p0) : Int)) (0 : Int)) p0 (0 : Int)) fun z0 => some z0 else none
noncomputable def d_laws_toIntS : FnDef := .of q_laws_toIntS r_laws_toIntS (List Int) (fun k x => f_laws_toIntS k x.1) to_laws_toIntS of_laws_toIntS to_of_laws_toIntS
noncomputable def c_laws_toIntS : Code := Try.f18.body.getD .skip
noncomputable def x_laws_toIntS : Ctx (Tup r_laws_toIntS × OutD) := { T := T, G := [], mvs := [], no := 0, n := 22, res := resOf T q_laws_toIntS r_laws_toIntS Try.f18.results.toList, loops := [(0, f_laws_toIntS_0D.E)], regs := [], conds := [] }
theorem g_laws_toIntS (k : Nat) : EnvOK Try.prog k x_laws_toIntS.G := (EnvOK.nil mixed)
noncomputable def f_laws_toIntS_0B : Code := (findLoop 0 c_laws_toIntS).getD .skip
theorem f_laws_toIntS_0h (k : Nat) (x : f_laws_toIntS_0i.D) : f_laws_toIntS_0D.lp (k + 1) x = loopK x_laws_toIntS f_laws_toIntS_0D 0 f_laws_toIntS_0B k x := by kernel_rfl
theorem f_laws_toIntS_0l (k : Nat) : LOK Try.prog x_laws_toIntS k f_laws_toIntS_0B := LOK.by [] (by kernel_rfl) AllOK.nil
theorem f_laws_toIntS_0z (x : f_laws_toIntS_0i.D) : f_laws_toIntS_0D.lp 0 x = none := by kernel_rfl
theorem f_laws_toIntS_0ok (k : Nat) : EOK Try.prog x_laws_toIntS k f_laws_toIntS_0D.E (.block 0 (.loop f_laws_toIntS_0B)) := loop_ok T_ok g_laws_toIntS f_laws_toIntS_0z f_laws_toIntS_0h f_laws_toIntS_0l k
theorem h_laws_toIntS (k : Nat) (x : Tup d_laws_toIntS.ps) : d_laws_toIntS.f (k + 1) x = fnK d_laws_toIntS x_laws_toIntS c_laws_toIntS k x := by kernel_rfl
theorem z_laws_toIntS (x : Tup d_laws_toIntS.ps) : d_laws_toIntS.f 0 x = none := by kernel_rfl
theorem l_laws_toIntS (k : Nat) : LOK Try.prog x_laws_toIntS k c_laws_toIntS := LOK.by [(f_laws_toIntS_0D.E, .block 0 (.loop f_laws_toIntS_0B))] (by kernel_rfl) (AllOK.cons (f_laws_toIntS_0ok k) AllOK.nil)
theorem s_laws_toIntS (k : Nat) : SoundAt Try.prog k 18 d_laws_toIntS.E := @fn_all Try.prog d_laws_toIntS x_laws_toIntS 18 Try.f18 c_laws_toIntS (by kernel_rfl) (by kernel_rfl) (by kernel_rfl) Try.func18 (by kernel_rfl) (by kernel_rfl) (by kernel_rfl) T_ok g_laws_toIntS l_laws_toIntS z_laws_toIntS h_laws_toIntS k
/-! function 20 -/
noncomputable def r_laws_eqIntS : List PK := [{ t := Ty.bool }]
noncomputable def q_laws_eqIntS : List PK := [{ t := Ty.slice (3 : Nat) (Ty.int IntKind.i64) }, { t := Ty.slice (3 : Nat) (Ty.int IntKind.i64) }]
noncomputable def to_laws_eqIntS (r : Bool) : Tup r_laws_eqIntS × OutD := ((r, ()), none)
noncomputable def of_laws_eqIntS : Tup r_laws_eqIntS × OutD → Option (Bool)
  | (a, none) => some (a.1)
  | _ => none
theorem to_of_laws_eqIntS : ∀ b r, of_laws_eqIntS b = some r → to_laws_eqIntS r = b := by
  rintro ⟨a, o⟩ r h
  cases o with
  | none => injection h with h; subst h; rfl
  | some _ => cases h
noncomputable def f_laws_eqIntS_0 : Nat → List Int → List Int → Int → Option (LR Unit Bool)
  | 0, _, _, _ => none
  | k + 1, v0, v1, v5 =>
    if decide (v5 < (↑(List.length v0) : Int)) = true then if (0 : Int) ≤ v5 then if v5 < (↑(List.length v0) : Int) then if (0 : Int) ≤ v5 then if v5 < (↑(List.length v1) : Int) then if decide (List.getD v0 (Int.toNat v5) (0 : Int) ≠ List.getD v1 (Int.toNat v5) (0 : Int)) = true then some (LR.ret false) else f_laws_eqIntS_0 k v0 v1 (wrap64 (v5 + (1 : Int))) else none else none else none else none else some (LR.go ())
noncomputable def f_laws_eqIntS_0i : Spec := { objs := [OSh.ro], tmps := [((0 : Nat), TSh.at (Sh.snap (0 : Nat) (Ty.int IntKind.i64))), ((1 : Nat), TSh.at (Sh.snap (0 : Nat) (Ty.int IntKind.i64))), ((5 : Nat), TSh.at (Sh.int IntKind.i64))] }
noncomputable def f_laws_eqIntS_0o : Spec := { objs := [OSh.ro], tmps := [] }
noncomputable def f_laws_eqIntS_0D : LoopDef (Tup r_laws_eqIntS × OutD) := .rets f_laws_eqIntS_0i f_laws_eqIntS_0o (Unit) (Bool) (fun k x => f_laws_eqIntS_0 k x.2.1 x.2.2.1 x.2.2.2.1) (fun z => (((), ()), (()))) (fun y => ()) (fun _ => rfl) to_laws_eqIntS of_laws_eqIntS to_of_laws_eqIntS
noncomputable def f_laws_eqIntS : Nat → List Int → List Int → Option Bool
  | 0, _, _ => none
  | k + 1, p0, p1 =>
    if decide ((↑(List.length p0) : Int) ≠ (↑(List.length p1) : Int)) = true then some false else Option.bind (f_laws_eqIntS_0 k p0 p1 (0 : Int)) fun z0 => LR.on z0 (fun y0 => some true) fun r0 => some r0
noncomputable def d_laws_eqIntS : FnDef := .of q_laws_eqIntS r_laws_eqIntS (Bool) (fun k x => f_laws_eqIntS k x.1 x.2.1) to_laws_eqIntS of_laws_eqIntS to_of_laws_eqIntS
noncomputable def c_laws_eqIntS : Code := Try.f20.body.getD .skip
noncomputable def x_laws_eqIntS : Ctx (Tup r_laws_eqIntS × OutD) := { T := T, G := [], mvs := [], no := 0, n := 26, res := resOf T q_laws_eqIntS r_laws_eqIntS Try.f20.results.toList, loops := [(0, f_laws_eqIntS_0D.E)], regs := [], conds := [] }
theorem g_laws_eqIntS (k : Nat) : EnvOK Try.prog k x_laws_eqIntS.G := (EnvOK.nil mixed)
noncomputable def f_laws_eqIntS_0B : Code := (findLoop 0 c_laws_eqIntS).getD .skip
theorem f_laws_eqIntS_0h (k : Nat) (x : f_laws_eqIntS_0i.D) : f_laws_eqIntS_0D.lp (k + 1) x = loopK x_laws_eqIntS f_laws_eqIntS_0D 0 f_laws_eqIntS_0B k x := by kernel_rfl
theorem f_laws_eqIntS_0l (k : Nat) : LOK Try.prog x_laws_eqIntS k f_laws_eqIntS_0B := LOK.by [] (by kernel_rfl) AllOK.nil
theorem f_laws_eqIntS_0z (x : f_laws_eqIntS_0i.D) : f_laws_eqIntS_0D.lp 0 x = none := by kernel_rfl
theorem f_laws_eqIntS_0ok (k : Nat) : EOK Try.prog x_laws_eqIntS k f_laws_eqIntS_0D.E (.block 0 (.loop f_laws_eqIntS_0B)) := loop_ok T_ok g_laws_eqIntS f_laws_eqIntS_0z f_laws_eqIntS_0h f_laws_eqIntS_0l k
theorem h_laws_eqIntS (k : Nat) (x : Tup d_laws_eqIntS.ps) : d_laws_eqIntS.f (k + 1) x = fnK d_laws_eqIntS x_laws_eqIntS c_laws_eqIntS k x := by kernel_rfl
theorem z_laws_eqIntS (x : Tup d_laws_eqIntS.ps) : d_laws_eqIntS.f 0 x = none := by kernel_rfl
theorem l_laws_eqIntS (k : Nat) : LOK Try.prog x_laws_eqIntS k c_laws_eqIntS := LOK.by [(f_laws_eqIntS_0D.E, .block 0 (.loop f_laws_eqIntS_0B))] (by kernel_rfl) (AllOK.cons (f_laws_eqIntS_0ok k) AllOK.nil)
theorem s_laws_eqIntS (k : Nat) : SoundAt Try.prog k 20 d_laws_eqIntS.E := @fn_all Try.prog d_laws_eqIntS x_laws_eqIntS 20 Try.f20 c_laws_eqIntS (by kernel_rfl) (by kernel_rfl) (by kernel_rfl) Try.func20 (by kernel_rfl) (by kernel_rfl) (by kernel_rfl) T_ok g_laws_eqIntS l_laws_eqIntS z_laws_eqIntS h_laws_eqIntS k
/-! function 44 -/
noncomputable def r_laws_markIntS : List PK := [{ t := Ty.int IntKind.i64 }]
noncomputable def q_laws_markIntS : List PK := [{ t := Ty.slice (3 : Nat) (Ty.int IntKind.i64), own := some ((0 : Nat), (3 : Nat), Ty.int IntKind.i64) }, { t := Ty.int IntKind.i64 }]
noncomputable def to_laws_markIntS (r : Int × List Int) : Tup r_laws_markIntS × OutD := ((r.1, ()), some ⟨Ty.int IntKind.i64, r.2⟩)
noncomputable def of_laws_markIntS : Tup r_laws_markIntS × OutD → Option (Int × List Int)
  | (a, some ⟨u, ys⟩) => if h : u = Ty.int IntKind.i64 then some (a.1, castU h ys) else none
  | _ => none
theorem to_of_laws_markIntS : ∀ b r, of_laws_markIntS b = some r → to_laws_markIntS r = b := by
  rintro ⟨a, o⟩ r h
  cases o with
  | none => cases h
  | some s =>
    obtain ⟨u, ys⟩ := s
    simp only [of_laws_markIntS] at h
    split at h
    · rename_i hu; subst hu; injection h with h; subst h; rfl
    · cases h
noncomputable def f_laws_markIntS_0 : Nat → List Int → Int → Int → Option (List Int × Int)
  | 0, _, _, _ => none
  | k + 1, o1, v1, v5 =>
    if decide (v5 < (↑(List.length o1) : Int)) = true then if (0 : Int) ≤ v5 then if v5 < (↑(List.length o1) : Int) then f_laws_markIntS_0 k (List.set o1 (Int.toNat v5) v1) (wrap64 (v1 + (1 : Int))) (wrap64 (v5 + (1 : Int))) else none else none else some (o1, v1)
noncomputable def f_laws_markIntS_0i : Spec := { objs := [OSh.ro, OSh.row false (3 : Nat) (Ty.int IntKind.i64)], tmps := [((0 : Nat), TSh.at (Sh.sl (1 : Nat))), ((1 : Nat), TSh.at (Sh.int IntKind.i64)), ((5 : Nat), TSh.at (Sh.int IntKind.i64))] }
noncomputable def f_laws_markIntS_0o : Spec := { objs := [OSh.ro, OSh.row false (3 : Nat) (Ty.int IntKind.i64)], tmps := [((1 : Nat), TSh.at (Sh.int IntKind.i64))] }
noncomputable def f_laws_markIntS_0D : LoopDef (Tup r_laws_markIntS × OutD) := .plain f_laws_markIntS_0i f_laws_markIntS_0o (List Int × Int) (fun k x => f_laws_markIntS_0 k x.1.2.1 x.2.2.1 x.2.2.2.1) (fun z => (((), z.1, ()), (z.2, ()))) (fun y => (y.1.2.1, y.2.1)) (fun _ => rfl)
noncomputable def f_laws_markIntS : Nat → List Int → Int → Option (Int × List Int)
  | 0, _, _ => none
  | k + 1, p0, p1 =>
    Option.bind (f_laws_markIntS_0 k p0 p1 (0 : Int)) fun z0 => some (Prod.snd z0, Prod.fst z0)
noncomputable def d_laws_markIntS : FnDef := .of q_laws_markIntS r_laws_markIntS (Int × List Int) (fun k x => f_laws_markIntS k x.1 x.2.1) to_laws_markIntS of_laws_markIntS to_of_laws_markIntS
noncomputable def c_laws_markIntS : Code := Try.f44.body.getD .skip
noncomputable def x_laws_markIntS : Ctx (Tup r_laws_markIntS × OutD) := { T := T, G := [], mvs := [], no := 1, n := 19, res := resOf T q_laws_markIntS r_laws_markIntS Try.f44.results.toList, loops := [(0, f_laws_markIntS_0D.E)], regs := [], conds := [] }
theorem g_laws_markIntS (k : Nat) : EnvOK Try.prog k x_laws_markIntS.G := (EnvOK.nil mixed)
noncomputable def f_laws_markIntS_0B : Code := (findLoop 0 c_laws_markIntS).getD .skip
theorem f_laws_markIntS_0h (k : Nat) (x : f_laws_markIntS_0i.D) : f_laws_markIntS_0D.lp (k + 1) x = loopK x_laws_markIntS f_laws_markIntS_0D 0 f_laws_markIntS_0B k x := by kernel_rfl
theorem f_laws_markIntS_0l (k : Nat) : LOK Try.prog x_laws_markIntS k f_laws_markIntS_0B := LOK.by [] (by kernel_rfl) AllOK.nil
theorem f_laws_markIntS_0z (x : f_laws_markIntS_0i.D) : f_laws_markIntS_0D.lp 0 x = none := by kernel_rfl
theorem f_laws_markIntS_0ok (k : Nat) : EOK Try.prog x_laws_markIntS k f_laws_markIntS_0D.E (.block 0 (.loop f_laws_markIntS_0B)) := loop_ok T_ok g_laws_markIntS f_laws_markIntS_0z f_laws_markIntS_0h f_laws_markIntS_0l k
theorem h_laws_markIntS (k : Nat) (x : Tup d_laws_markIntS.ps) : d_laws_markIntS.f (k + 1) x = fnK d_laws_markIntS x_laws_markIntS c_laws_markIntS k x := by kernel_rfl
theorem z_laws_markIntS (x : Tup d_laws_markIntS.ps) : d_laws_markIntS.f 0 x = none := by kernel_rfl
theorem l_laws_markIntS (k : Nat) : LOK Try.prog x_laws_markIntS k c_laws_markIntS := LOK.by [(f_laws_markIntS_0D.E, .block 0 (.loop f_laws_markIntS_0B))] (by kernel_rfl) (AllOK.cons (f_laws_markIntS_0ok k) AllOK.nil)
theorem s_laws_markIntS (k : Nat) : SoundAt Try.prog k 44 d_laws_markIntS.E := @fn_all Try.prog d_laws_markIntS x_laws_markIntS 44 Try.f44 c_laws_markIntS (by kernel_rfl) (by kernel_rfl) (by kernel_rfl) Try.func44 (by kernel_rfl) (by kernel_rfl) (by kernel_rfl) T_ok g_laws_markIntS l_laws_markIntS z_laws_markIntS h_laws_markIntS k
/-! function 45 -/
noncomputable def r_laws_heldIntS : List PK := [{ t := Ty.int IntKind.i64 }]
noncomputable def q_laws_heldIntS : List PK := [{ t := Ty.slice (3 : Nat) (Ty.int IntKind.i64) }, { t := Ty.int IntKind.i64 }]
noncomputable def to_laws_heldIntS (r : Int) : Tup r_laws_heldIntS × OutD := ((r, ()), none)
noncomputable def of_laws_heldIntS : Tup r_laws_heldIntS × OutD → Option (Int)
  | (a, none) => some (a.1)
  | _ => none
theorem to_of_laws_heldIntS : ∀ b r, of_laws_heldIntS b = some r → to_laws_heldIntS r = b := by
  rintro ⟨a, o⟩ r h
  cases o with
  | none => injection h with h; subst h; rfl
  | some _ => cases h
noncomputable def f_laws_heldIntS_0 : Nat → List Int → Int → Int → Option (LR Int Int)
  | 0, _, _, _ => none
  | k + 1, v0, v1, v5 =>
    if decide (v5 < (↑(List.length v0) : Int)) = true then if (0 : Int) ≤ v5 then if v5 < (↑(List.length v0) : Int) then if decide (List.getD v0 (Int.toNat v5) (0 : Int) ≠ v1) = true then some (LR.ret (-1 : Int)) else f_laws_heldIntS_0 k v0 (wrap64 (v1 + (1 : Int))) (wrap64 (v5 + (1 : Int))) else none else none else some (LR.go v1)
noncomputable def f_laws_heldIntS_0i : Spec := { objs := [OSh.ro], tmps := [((0 : Nat), TSh.at (Sh.snap (0 : Nat) (Ty.int IntKind.i64))), ((1 : Nat), TSh.at (Sh.int IntKind.i64)), ((5 : Nat), TSh.at (Sh.int IntKind.i64))] }
noncomputable def f_laws_heldIntS_0o : Spec := { objs := [OSh.ro], tmps := [((1 : Nat), TSh.at (Sh.int IntKind.i64))] }
noncomputable def f_laws_heldIntS_0D : LoopDef (Tup r_laws_heldIntS × OutD) := .rets f_laws_heldIntS_0i f_laws_heldIntS_0o (Int) (Int) (fun k x => f_laws_heldIntS_0 k x.2.1 x.2.2.1 x.2.2.2.1) (fun z => (((), ()), (z, ()))) (fun y => (y.2.1)) (fun _ => rfl) to_laws_heldIntS of_laws_heldIntS to_of_laws_heldIntS
noncomputable def f_laws_heldIntS : Nat → List Int → Int → Option Int
  | 0, _, _ => none
  | k + 1, p0, p1 =>
    Option.bind (f_laws_heldIntS_0 k p0 p1 (0 : Int)) fun z0 => LR.on z0 (fun y0 => some y0) fun r0 => some r0
noncomputable def d_laws_heldIntS : FnDef := .of q_laws_heldIntS r_laws_heldIntS (Int) (fun k x => f_laws_heldIntS k x.1 x.2.1) to_laws_heldIntS of_laws_heldIntS to_of_laws_heldIntS
noncomputable def c_laws_heldIntS : Code := Try.f45.body.getD .skip
noncomputable def x_laws_heldIntS : Ctx (Tup r_laws_heldIntS × OutD) := { T := T, G := [], mvs := [], no := 0, n := 21, res := resOf T q_laws_heldIntS r_laws_heldIntS Try.f45.results.toList, loops := [(0, f_laws_heldIntS_0D.E)], regs := [], conds := [] }
theorem g_laws_heldIntS (k : Nat) : EnvOK Try.prog k x_laws_heldIntS.G := (EnvOK.nil mixed)
noncomputable def f_laws_heldIntS_0B : Code := (findLoop 0 c_laws_heldIntS).getD .skip
theorem f_laws_heldIntS_0h (k : Nat) (x : f_laws_heldIntS_0i.D) : f_laws_heldIntS_0D.lp (k + 1) x = loopK x_laws_heldIntS f_laws_heldIntS_0D 0 f_laws_heldIntS_0B k x := by kernel_rfl
theorem f_laws_heldIntS_0l (k : Nat) : LOK Try.prog x_laws_heldIntS k f_laws_heldIntS_0B := LOK.by [] (by kernel_rfl) AllOK.nil
theorem f_laws_heldIntS_0z (x : f_laws_heldIntS_0i.D) : f_laws_heldIntS_0D.lp 0 x = none := by kernel_rfl
theorem f_laws_heldIntS_0ok (k : Nat) : EOK Try.prog x_laws_heldIntS k f_laws_heldIntS_0D.E (.block 0 (.loop f_laws_heldIntS_0B)) := loop_ok T_ok g_laws_heldIntS f_laws_heldIntS_0z f_laws_heldIntS_0h f_laws_heldIntS_0l k
theorem h_laws_heldIntS (k : Nat) (x : Tup d_laws_heldIntS.ps) : d_laws_heldIntS.f (k + 1) x = fnK d_laws_heldIntS x_laws_heldIntS c_laws_heldIntS k x := by kernel_rfl
theorem z_laws_heldIntS (x : Tup d_laws_heldIntS.ps) : d_laws_heldIntS.f 0 x = none := by kernel_rfl
theorem l_laws_heldIntS (k : Nat) : LOK Try.prog x_laws_heldIntS k c_laws_heldIntS := LOK.by [(f_laws_heldIntS_0D.E, .block 0 (.loop f_laws_heldIntS_0B))] (by kernel_rfl) (AllOK.cons (f_laws_heldIntS_0ok k) AllOK.nil)
theorem s_laws_heldIntS (k : Nat) : SoundAt Try.prog k 45 d_laws_heldIntS.E := @fn_all Try.prog d_laws_heldIntS x_laws_heldIntS 45 Try.f45 c_laws_heldIntS (by kernel_rfl) (by kernel_rfl) (by kernel_rfl) Try.func45 (by kernel_rfl) (by kernel_rfl) (by kernel_rfl) T_ok g_laws_heldIntS l_laws_heldIntS z_laws_heldIntS h_laws_heldIntS k
/-! function 55 -/
noncomputable def r_spec_l1In : List PK := [{ t := Ty.bool }]
noncomputable def q_spec_l1In : List PK := [{ t := Ty.int IntKind.i64 }, { t := Ty.int IntKind.i64 }, { t := Ty.int IntKind.i64 }]
noncomputable def to_spec_l1In (r : Bool) : Tup r_spec_l1In × OutD := ((r, ()), none)
noncomputable def of_spec_l1In : Tup r_spec_l1In × OutD → Option (Bool)
  | (a, none) => some (a.1)
  | _ => none
theorem to_of_spec_l1In : ∀ b r, of_spec_l1In b = some r → to_spec_l1In r = b := by
  rintro ⟨a, o⟩ r h
  cases o with
  | none => injection h with h; subst h; rfl
  | some _ => cases h
noncomputable def f_spec_l1In : Nat → Int → Int → Int → Option Bool
  | 0, _, _, _ => none
  | k + 1, p0, p1, p2 =>
    if decide (p0 ≥ p1) = true then some (decide (p0 ≤ p2)) else some false
noncomputable def d_spec_l1In : FnDef := .of q_spec_l1In r_spec_l1In (Bool) (fun k x => f_spec_l1In k x.1 x.2.1 x.2.2.1) to_spec_l1In of_spec_l1In to_of_spec_l1In
noncomputable def c_spec_l1In : Code := Try.f55.body.getD .skip
noncomputable def x_spec_l1In : Ctx (Tup r_spec_l1In × OutD) := { T := T, G := [], mvs := [], no := 0, n := 15, res := resOf T q_spec_l1In r_spec_l1In Try.f55.results.toList, loops := [], regs := [], conds := [] }
theorem g_spec_l1In (k : Nat) : EnvOK Try.prog k x_spec_l1In.G := (EnvOK.nil mixed)
theorem h_spec_l1In (k : Nat) (x : Tup d_spec_l1In.ps) : d_spec_l1In.f (k + 1) x = fnK d_spec_l1In x_spec_l1In c_spec_l1In k x := by kernel_rfl
theorem z_spec_l1In (x : Tup d_spec_l1In.ps) : d_spec_l1In.f 0 x = none := by kernel_rfl
theorem l_spec_l1In (k : Nat) : LOK Try.prog x_spec_l1In k c_spec_l1In := LOK.by [] (by kernel_rfl) AllOK.nil
theorem s_spec_l1In (k : Nat) : SoundAt Try.prog k 55 d_spec_l1In.E := @fn_all Try.prog d_spec_l1In x_spec_l1In 55 Try.f55 c_spec_l1In (by kernel_rfl) (by kernel_rfl) (by kernel_rfl) Try.func55 (by kernel_rfl) (by kernel_rfl) (by kernel_rfl) T_ok g_spec_l1In l_spec_l1In z_spec_l1In h_spec_l1In k
/-! function 56 -/
noncomputable def r_spec_l1Most : List PK := [{ t := Ty.int IntKind.i64 }]
noncomputable def q_spec_l1Most : List PK := [{ t := Ty.int IntKind.i64 }, { t := Ty.int IntKind.i64 }]
noncomputable def to_spec_l1Most (r : Int) : Tup r_spec_l1Most × OutD := ((r, ()), none)
noncomputable def of_spec_l1Most : Tup r_spec_l1Most × OutD → Option (Int)
  | (a, none) => some (a.1)
  | _ => none
theorem to_of_spec_l1Most : ∀ b r, of_spec_l1Most b = some r → to_spec_l1Most r = b := by
  rintro ⟨a, o⟩ r h
  cases o with
  | none => injection h with h; subst h; rfl
  | some _ => cases h
noncomputable def f_spec_l1Most : Nat → Int → Int → Option Int
  | 0, _, _ => none
  | k + 1, p0, p1 =>
    if decide (p0 > p1) = true then some p0 else some p1
noncomputable def d_spec_l1Most : FnDef := .of q_spec_l1Most r_spec_l1Most (Int) (fun k x => f_spec_l1Most k x.1 x.2.1) to_spec_l1Most of_spec_l1Most to_of_spec_l1Most
noncomputable def c_spec_l1Most : Code := Try.f56.body.getD .skip
noncomputable def x_spec_l1Most : Ctx (Tup r_spec_l1Most × OutD) := { T := T, G := [], mvs := [], no := 0, n := 10, res := resOf T q_spec_l1Most r_spec_l1Most Try.f56.results.toList, loops := [], regs := [], conds := [] }
theorem g_spec_l1Most (k : Nat) : EnvOK Try.prog k x_spec_l1Most.G := (EnvOK.nil mixed)
theorem h_spec_l1Most (k : Nat) (x : Tup d_spec_l1Most.ps) : d_spec_l1Most.f (k + 1) x = fnK d_spec_l1Most x_spec_l1Most c_spec_l1Most k x := by kernel_rfl
theorem z_spec_l1Most (x : Tup d_spec_l1Most.ps) : d_spec_l1Most.f 0 x = none := by kernel_rfl
theorem l_spec_l1Most (k : Nat) : LOK Try.prog x_spec_l1Most k c_spec_l1Most := LOK.by [] (by kernel_rfl) AllOK.nil
theorem s_spec_l1Most (k : Nat) : SoundAt Try.prog k 56 d_spec_l1Most.E := @fn_all Try.prog d_spec_l1Most x_spec_l1Most 56 Try.f56 c_spec_l1Most (by kernel_rfl) (by kernel_rfl) (by kernel_rfl) Try.func56 (by kernel_rfl) (by kernel_rfl) (by kernel_rfl) T_ok g_spec_l1Most l_spec_l1Most z_spec_l1Most h_spec_l1Most k
/-! function 60 -/
noncomputable def r_impl_chanceRight : List PK := [{ t := Ty.int IntKind.i64 }, { t := Ty.int IntKind.i64 }]
noncomputable def q_impl_chanceRight : List PK := [{ t := Ty.int IntKind.i64 }, { t := Ty.int IntKind.i64 }, { t := Ty.int IntKind.i64 }]
noncomputable def to_impl_chanceRight (r : Int × Int) : Tup r_impl_chanceRight × OutD := ((r.1, r.2, ()), none)
noncomputable def of_impl_chanceRight : Tup r_impl_chanceRight × OutD → Option (Int × Int)
  | (a, none) => some (a.1, a.2.1)
  | _ => none
theorem to_of_impl_chanceRight : ∀ b r, of_impl_chanceRight b = some r → to_impl_chanceRight r = b := by
  rintro ⟨a, o⟩ r h
  cases o with
  | none => injection h with h; subst h; rfl
  | some _ => cases h
noncomputable def f_impl_chanceRight_0 : Nat → Int → Int → Int → Int → Int → Int → Option (Int × Int × Int × Int × Int)
  | 0, _, _, _, _, _, _ => none
  | k + 1, v0, v1, v2, v8, v9, v10 =>
    if decide (v10 < v0) = true then f_impl_chanceRight_0 k v0 v1 v2 v8 (wrap64 (v9 * v2)) (wrap64 (v10 + (1 : Int))) else some (v0, v1, v2, v8, v9)
noncomputable def f_impl_chanceRight_0i : Spec := { objs := [OSh.ro], tmps := [((0 : Nat), TSh.at (Sh.int IntKind.i64)), ((1 : Nat), TSh.at (Sh.int IntKind.i64)), ((2 : Nat), TSh.at (Sh.int IntKind.i64)), ((8 : Nat), TSh.at (Sh.int IntKind.i64)), ((9 : Nat), TSh.at (Sh.int IntKind.i64)), ((10 : Nat), TSh.at (Sh.int IntKind.i64))] }
noncomputable def f_impl_chanceRight_0o : Spec := { objs := [OSh.ro], tmps := [((0 : Nat), TSh.at (Sh.int IntKind.i64)), ((1 : Nat), TSh.at (Sh.int IntKind.i64)), ((2 : Nat), TSh.at (Sh.int IntKind.i64)), ((8 : Nat), TSh.at (Sh.int IntKind.i64)), ((9 : Nat), TSh.at (Sh.int IntKind.i64))] }
noncomputable def f_impl_chanceRight_0D : LoopDef (Tup r_impl_chanceRight × OutD) := .plain f_impl_chanceRight_0i f_impl_chanceRight_0o (Int × Int × Int × Int × Int) (fun k x => f_impl_chanceRight_0 k x.2.1 x.2.2.1 x.2.2.2.1 x.2.2.2.2.1 x.2.2.2.2.2.1 x.2.2.2.2.2.2.1) (fun z => (((), ()), (z.1, z.2.1, z.2.2.1, z.2.2.2.1, z.2.2.2.2, ()))) (fun y => (y.2.1, y.2.2.1, y.2.2.2.1, y.2.2.2.2.1, y.2.2.2.2.2.1)) (fun _ => rfl)
noncomputable def f_impl_chanceRight_4 : Nat → Int → Int → Int → Int → Int → Int → Int → Int → Option (Int × Int × Int × Int × Int × Int × Int)
  | 0, _, _, _, _, _, _, _, _ => none
  | k + 1, v0, v1, v2, v8, v9, v11, v12, v13 =>
    if decide (v13 < v11) = true then if wrap64 (v13 + (1 : Int)) = (0 : Int) then none else f_impl_chanceRight_4 k v0 v1 v2 v8 v9 v11 (wrap64 (Int.tdiv (wrap64 (v12 * wrap64 (v0 - v13))) (wrap64 (v13 + (1 : Int))))) (wrap64 (v13 + (1 : Int))) else some (v0, v1, v2, v8, v9, v11, v12)
noncomputable def f_impl_chanceRight_4i : Spec := { objs := [OSh.ro], tmps := [((0 : Nat), TSh.at (Sh.int IntKind.i64)), ((1 : Nat), TSh.at (Sh.int IntKind.i64)), ((2 : Nat), TSh.at (Sh.int IntKind.i64)), ((8 : Nat), TSh.at (Sh.int IntKind.i64)), ((9 : Nat), TSh.at (Sh.int IntKind.i64)), ((11 : Nat), TSh.at (Sh.int IntKind.i64)), ((12 : Nat), TSh.at (Sh.int IntKind.i64)), ((13 : Nat), TSh.at (Sh.int IntKind.i64))] }
noncomputable def f_impl_chanceRight_4o : Spec := { objs := [OSh.ro], tmps := [((0 : Nat), TSh.at (Sh.int IntKind.i64)), ((1 : Nat), TSh.at (Sh.int IntKind.i64)), ((2 : Nat), TSh.at (Sh.int IntKind.i64)), ((8 : Nat), TSh.at (Sh.int IntKind.i64)), ((9 : Nat), TSh.at (Sh.int IntKind.i64)), ((11 : Nat), TSh.at (Sh.int IntKind.i64)), ((12 : Nat), TSh.at (Sh.int IntKind.i64))] }
noncomputable def f_impl_chanceRight_4D : LoopDef (Tup r_impl_chanceRight × OutD) := .plain f_impl_chanceRight_4i f_impl_chanceRight_4o (Int × Int × Int × Int × Int × Int × Int) (fun k x => f_impl_chanceRight_4 k x.2.1 x.2.2.1 x.2.2.2.1 x.2.2.2.2.1 x.2.2.2.2.2.1 x.2.2.2.2.2.2.1 x.2.2.2.2.2.2.2.1 x.2.2.2.2.2.2.2.2.1) (fun z => (((), ()), (z.1, z.2.1, z.2.2.1, z.2.2.2.1, z.2.2.2.2.1, z.2.2.2.2.2.1, z.2.2.2.2.2.2, ()))) (fun y => (y.2.1, y.2.2.1, y.2.2.2.1, y.2.2.2.2.1, y.2.2.2.2.2.1, y.2.2.2.2.2.2.1, y.2.2.2.2.2.2.2.1)) (fun _ => rfl)
noncomputable def f_impl_chanceRight_6 : Nat → Int → Int → Int → Int → Int → Int → Int → Int → Option (Int × Int × Int × Int × Int × Int × Int)
  | 0, _, _, _, _, _, _, _, _ => none
  | k + 1, v0, v1, v2, v8, v9, v11, v12, v14 =>
    if decide (v14 < v0) = true then if decide (v14 < v11) = true then f_impl_chanceRight_6 k v0 v1 v2 v8 v9 v11 (wrap64 (v12 * v1)) (wrap64 (v14 + (1 : Int))) else f_impl_chanceRight_6 k v0 v1 v2 v8 v9 v11 (wrap64 (v12 * wrap64 (v2 - v1))) (wrap64 (v14 + (1 : Int))) else some (v0, v1, v2, v8, v9, v11, v12)
noncomputable def f_impl_chanceRight_6i : Spec := { objs := [OSh.ro], tmps := [((0 : Nat), TSh.at (Sh.int IntKind.i64)), ((1 : Nat), TSh.at (Sh.int IntKind.i64)), ((2 : Nat), TSh.at (Sh.int IntKind.i64)), ((8 : Nat), TSh.at (Sh.int IntKind.i64)), ((9 : Nat), TSh.at (Sh.int IntKind.i64)), ((11 : Nat), TSh.at (Sh.int IntKind.i64)), ((12 : Nat), TSh.at (Sh.int IntKind.i64)), ((14 : Nat), TSh.at (Sh.int IntKind.i64))] }
noncomputable def f_impl_chanceRight_6o : Spec := { objs := [OSh.ro], tmps := [((0 : Nat), TSh.at (Sh.int IntKind.i64)), ((1 : Nat), TSh.at (Sh.int IntKind.i64)), ((2 : Nat), TSh.at (Sh.int IntKind.i64)), ((8 : Nat), TSh.at (Sh.int IntKind.i64)), ((9 : Nat), TSh.at (Sh.int IntKind.i64)), ((11 : Nat), TSh.at (Sh.int IntKind.i64)), ((12 : Nat), TSh.at (Sh.int IntKind.i64))] }
noncomputable def f_impl_chanceRight_6D : LoopDef (Tup r_impl_chanceRight × OutD) := .plain f_impl_chanceRight_6i f_impl_chanceRight_6o (Int × Int × Int × Int × Int × Int × Int) (fun k x => f_impl_chanceRight_6 k x.2.1 x.2.2.1 x.2.2.2.1 x.2.2.2.2.1 x.2.2.2.2.2.1 x.2.2.2.2.2.2.1 x.2.2.2.2.2.2.2.1 x.2.2.2.2.2.2.2.2.1) (fun z => (((), ()), (z.1, z.2.1, z.2.2.1, z.2.2.2.1, z.2.2.2.2.1, z.2.2.2.2.2.1, z.2.2.2.2.2.2, ()))) (fun y => (y.2.1, y.2.2.1, y.2.2.2.1, y.2.2.2.2.1, y.2.2.2.2.2.1, y.2.2.2.2.2.2.1, y.2.2.2.2.2.2.2.1)) (fun _ => rfl)
noncomputable def f_impl_chanceRight_2 : Nat → Int → Int → Int → Int → Int → Int → Option (Int × Int)
  | 0, _, _, _, _, _, _ => none
  | k + 1, v0, v1, v2, v8, v9, v11 =>
    if decide (wrap64 ((2 : Int) * v11) < v0) = true then Option.bind (f_impl_chanceRight_4 k v0 v1 v2 v8 v9 v11 (1 : Int) (0 : Int)) fun z1 => Option.bind (f_impl_chanceRight_6 k (Prod.fst z1) (Prod.fst (Prod.snd z1)) (Prod.fst (Prod.snd (Prod.snd z1))) (Prod.fst (Prod.snd (Prod.snd (Prod.snd z1)))) (Prod.fst (Prod.snd (Prod.snd (Prod.snd (Prod.snd z1))))) (Prod.fst (Prod.snd (Prod.snd (Prod.snd (Prod.snd (Prod.snd z1)))))) (Prod.snd (Prod.snd (Prod.snd (Prod.snd (Prod.snd (Prod.snd z1)))))) (0 : Int)) fun z2 => f_impl_chanceRight_2 k (Prod.fst z2) (Prod.fst (Prod.snd z2)) (Prod.fst (Prod.snd (Prod.snd z2))) (wrap64 (Prod.fst (Prod.snd (Prod.snd (Prod.snd z2))) + Prod.snd (Prod.snd (Prod.snd (Prod.snd (Prod.snd (Prod.snd z2))))))) (Prod.fst (Prod.snd (Prod.snd (Prod.snd (Prod.snd z2))))) (wrap64 (Prod.fst (Prod.snd (Prod.snd (Prod.snd (Prod.snd (Prod.snd z2))))) + (1 : Int))) else some (v8, v9)
noncomputable def f_impl_chanceRight_2i : Spec := { objs := [OSh.ro], tmps := [((0 : Nat), TSh.at (Sh.int IntKind.i64)), ((1 : Nat), TSh.at (Sh.int IntKind.i64)), ((2 : Nat), TSh.at (Sh.int IntKind.i64)), ((8 : Nat), TSh.at (Sh.int IntKind.i64)), ((9 : Nat), TSh.at (Sh.int IntKind.i64)), ((11 : Nat), TSh.at (Sh.int IntKind.i64))] }
noncomputable def f_impl_chanceRight_2o : Spec := { objs := [OSh.ro], tmps := [((8 : Nat), TSh.at (Sh.int IntKind.i64)), ((9 : Nat), TSh.at (Sh.int IntKind.i64))] }
noncomputable def f_impl_chanceRight_2D : LoopDef (Tup r_impl_chanceRight × OutD) := .plain f_impl_chanceRight_2i f_impl_chanceRight_2o (Int × Int) (fun k x => f_impl_chanceRight_2 k x.2.1 x.2.2.1 x.2.2.2.1 x.2.2.2.2.1 x.2.2.2.2.2.1 x.2.2.2.2.2.2.1) (fun z => (((), ()), (z.1, z.2, ()))) (fun y => (y.2.1, y.2.2.1)) (fun _ => rfl)
noncomputable def f_impl_chanceRight_8 : Nat → Int → Int → Int → Int → Option (Int × Int × Int)
  | 0, _, _, _, _ => none
  | k + 1, v8, v9, v15, v16 =>
    if decide (v16 ≠ (0 : Int)) = true then if v16 = (0 : Int) then none else f_impl_chanceRight_8 k v8 v9 v16 (Int.tmod v15 v16) else some (v8, v9, v15)
noncomputable def f_impl_chanceRight_8i : Spec := { objs := [OSh.ro], tmps := [((8 : Nat), TSh.at (Sh.int IntKind.i64)), ((9 : Nat), TSh.at (Sh.int IntKind.i64)), ((15 : Nat), TSh.at (Sh.int IntKind.i64)), ((16 : Nat), TSh.at (Sh.int IntKind.i64))] }
noncomputable def f_impl_chanceRight_8o : Spec := { objs := [OSh.ro], tmps := [((8 : Nat), TSh.at (Sh.int IntKind.i64)), ((9 : Nat), TSh.at (Sh.int IntKind.i64)), ((15 : Nat), TSh.at (Sh.int IntKind.i64))] }
noncomputable def f_impl_chanceRight_8D : LoopDef (Tup r_impl_chanceRight × OutD) := .plain f_impl_chanceRight_8i f_impl_chanceRight_8o (Int × Int × Int) (fun k x => f_impl_chanceRight_8 k x.2.1 x.2.2.1 x.2.2.2.1 x.2.2.2.2.1) (fun z => (((), ()), (z.1, z.2.1, z.2.2, ()))) (fun y => (y.2.1, y.2.2.1, y.2.2.2.1)) (fun _ => rfl)
noncomputable def f_impl_chanceRight : Nat → Int → Int → Int → Option (Int × Int)
  | 0, _, _, _ => none
  | k + 1, p0, p1, p2 =>
    Option.bind (f_impl_chanceRight_0 k p0 p1 p2 (0 : Int) (1 : Int) (0 : Int)) fun z0 => Option.bind (f_impl_chanceRight_2 k (Prod.fst z0) (Prod.fst (Prod.snd z0)) (Prod.fst (Prod.snd (Prod.snd z0))) (Prod.fst (Prod.snd (Prod.snd (Prod.snd z0)))) (Prod.snd (Prod.snd (Prod.snd (Prod.snd z0)))) (0 : Int)) fun z3 => Option.bind (f_impl_chanceRight_8 k (Prod.fst z3) (Prod.snd z3) (Prod.fst z3) (Prod.snd z3)) fun z4 => if Prod.snd (Prod.snd z4) = (0 : Int) then none else if Prod.snd (Prod.snd z4) = (0 : Int) then none else some (wrap64 (Int.tdiv (Prod.fst z4) (Prod.snd (Prod.snd z4))), wrap64 (Int.tdiv (Prod.fst (Prod.snd z4)) (Prod.snd (Prod.snd z4))))
noncomputable def d_impl_chanceRight : FnDef := .of q_impl_chanceRight r_impl_chanceRight (Int × Int) (fun k x => f_impl_chanceRight k x.1 x.2.1 x.2.2.1) to_impl_chanceRight of_impl_chanceRight to_of_impl_chanceRight
noncomputable def c_impl_chanceRight : Code := Try.f60.body.getD .skip
noncomputable def x_impl_chanceRight : Ctx (Tup r_impl_chanceRight × OutD) := { T := T, G := [], mvs := [], no := 0, n := 77, res := resOf T q_impl_chanceRight r_impl_chanceRight Try.f60.results.toList, loops := [(0, f_impl_chanceRight_0D.E), (4, f_impl_chanceRight_4D.E), (6, f_impl_chanceRight_6D.E), (2, f_impl_chanceRight_2D.E), (8, f_impl_chanceRight_8D.E)], regs := [], conds := [] }
theorem g_impl_chanceRight (k : Nat) : EnvOK Try.prog k x_impl_chanceRight.G := (EnvOK.nil mixed)
noncomputable def f_impl_chanceRight_0B : Code := (findLoop 0 c_impl_chanceRight).getD .skip
theorem f_impl_chanceRight_0h (k : Nat) (x : f_impl_chanceRight_0i.D) : f_impl_chanceRight_0D.lp (k + 1) x = loopK x_impl_chanceRight f_impl_chanceRight_0D 0 f_impl_chanceRight_0B k x := by kernel_rfl
theorem f_impl_chanceRight_0l (k : Nat) : LOK Try.prog x_impl_chanceRight k f_impl_chanceRight_0B := LOK.by [] (by kernel_rfl) AllOK.nil
theorem f_impl_chanceRight_0z (x : f_impl_chanceRight_0i.D) : f_impl_chanceRight_0D.lp 0 x = none := by kernel_rfl
theorem f_impl_chanceRight_0ok (k : Nat) : EOK Try.prog x_impl_chanceRight k f_impl_chanceRight_0D.E (.block 0 (.loop f_impl_chanceRight_0B)) := loop_ok T_ok g_impl_chanceRight f_impl_chanceRight_0z f_impl_chanceRight_0h f_impl_chanceRight_0l k
noncomputable def f_impl_chanceRight_4B : Code := (findLoop 4 c_impl_chanceRight).getD .skip
theorem f_impl_chanceRight_4h (k : Nat) (x : f_impl_chanceRight_4i.D) : f_impl_chanceRight_4D.lp (k + 1) x = loopK x_impl_chanceRight f_impl_chanceRight_4D 4 f_impl_chanceRight_4B k x := by kernel_rfl
theorem f_impl_chanceRight_4l (k : Nat) : LOK Try.prog x_impl_chanceRight k f_impl_chanceRight_4B := LOK.by [] (by kernel_rfl) AllOK.nil
theorem f_impl_chanceRight_4z (x : f_impl_chanceRight_4i.D) : f_impl_chanceRight_4D.lp 0 x = none := by kernel_rfl
theorem f_impl_chanceRight_4ok (k : Nat) : EOK Try.prog x_impl_chanceRight k f_impl_chanceRight_4D.E (.block 4 (.loop f_impl_chanceRight_4B)) := loop_ok T_ok g_impl_chanceRight f_impl_chanceRight_4z f_impl_chanceRight_4h f_impl_chanceRight_4l k
noncomputable def f_impl_chanceRight_6B : Code := (findLoop 6 c_impl_chanceRight).getD .skip
theorem f_impl_chanceRight_6h (k : Nat) (x : f_impl_chanceRight_6i.D) : f_impl_chanceRight_6D.lp (k + 1) x = loopK x_impl_chanceRight f_impl_chanceRight_6D 6 f_impl_chanceRight_6B k x := by kernel_rfl
theorem f_impl_chanceRight_6l (k : Nat) : LOK Try.prog x_impl_chanceRight k f_impl_chanceRight_6B := LOK.by [] (by kernel_rfl) AllOK.nil
theorem f_impl_chanceRight_6z (x : f_impl_chanceRight_6i.D) : f_impl_chanceRight_6D.lp 0 x = none := by kernel_rfl
theorem f_impl_chanceRight_6ok (k : Nat) : EOK Try.prog x_impl_chanceRight k f_impl_chanceRight_6D.E (.block 6 (.loop f_impl_chanceRight_6B)) := loop_ok T_ok g_impl_chanceRight f_impl_chanceRight_6z f_impl_chanceRight_6h f_impl_chanceRight_6l k
noncomputable def f_impl_chanceRight_2B : Code := (findLoop 2 c_impl_chanceRight).getD .skip
theorem f_impl_chanceRight_2h (k : Nat) (x : f_impl_chanceRight_2i.D) : f_impl_chanceRight_2D.lp (k + 1) x = loopK x_impl_chanceRight f_impl_chanceRight_2D 2 f_impl_chanceRight_2B k x := by kernel_rfl
theorem f_impl_chanceRight_2l (k : Nat) : LOK Try.prog x_impl_chanceRight k f_impl_chanceRight_2B := LOK.by [(f_impl_chanceRight_4D.E, .block 4 (.loop f_impl_chanceRight_4B)), (f_impl_chanceRight_6D.E, .block 6 (.loop f_impl_chanceRight_6B))] (by kernel_rfl) (AllOK.cons (f_impl_chanceRight_4ok k) (AllOK.cons (f_impl_chanceRight_6ok k) AllOK.nil))
theorem f_impl_chanceRight_2z (x : f_impl_chanceRight_2i.D) : f_impl_chanceRight_2D.lp 0 x = none := by kernel_rfl
theorem f_impl_chanceRight_2ok (k : Nat) : EOK Try.prog x_impl_chanceRight k f_impl_chanceRight_2D.E (.block 2 (.loop f_impl_chanceRight_2B)) := loop_ok T_ok g_impl_chanceRight f_impl_chanceRight_2z f_impl_chanceRight_2h f_impl_chanceRight_2l k
noncomputable def f_impl_chanceRight_8B : Code := (findLoop 8 c_impl_chanceRight).getD .skip
theorem f_impl_chanceRight_8h (k : Nat) (x : f_impl_chanceRight_8i.D) : f_impl_chanceRight_8D.lp (k + 1) x = loopK x_impl_chanceRight f_impl_chanceRight_8D 8 f_impl_chanceRight_8B k x := by kernel_rfl
theorem f_impl_chanceRight_8l (k : Nat) : LOK Try.prog x_impl_chanceRight k f_impl_chanceRight_8B := LOK.by [] (by kernel_rfl) AllOK.nil
theorem f_impl_chanceRight_8z (x : f_impl_chanceRight_8i.D) : f_impl_chanceRight_8D.lp 0 x = none := by kernel_rfl
theorem f_impl_chanceRight_8ok (k : Nat) : EOK Try.prog x_impl_chanceRight k f_impl_chanceRight_8D.E (.block 8 (.loop f_impl_chanceRight_8B)) := loop_ok T_ok g_impl_chanceRight f_impl_chanceRight_8z f_impl_chanceRight_8h f_impl_chanceRight_8l k
theorem h_impl_chanceRight (k : Nat) (x : Tup d_impl_chanceRight.ps) : d_impl_chanceRight.f (k + 1) x = fnK d_impl_chanceRight x_impl_chanceRight c_impl_chanceRight k x := by kernel_rfl
theorem z_impl_chanceRight (x : Tup d_impl_chanceRight.ps) : d_impl_chanceRight.f 0 x = none := by kernel_rfl
theorem l_impl_chanceRight (k : Nat) : LOK Try.prog x_impl_chanceRight k c_impl_chanceRight := LOK.by [(f_impl_chanceRight_0D.E, .block 0 (.loop f_impl_chanceRight_0B)), (f_impl_chanceRight_2D.E, .block 2 (.loop f_impl_chanceRight_2B)), (f_impl_chanceRight_8D.E, .block 8 (.loop f_impl_chanceRight_8B))] (by kernel_rfl) (AllOK.cons (f_impl_chanceRight_0ok k) (AllOK.cons (f_impl_chanceRight_2ok k) (AllOK.cons (f_impl_chanceRight_8ok k) AllOK.nil)))
theorem s_impl_chanceRight (k : Nat) : SoundAt Try.prog k 60 d_impl_chanceRight.E := @fn_all Try.prog d_impl_chanceRight x_impl_chanceRight 60 Try.f60 c_impl_chanceRight (by kernel_rfl) (by kernel_rfl) (by kernel_rfl) Try.func60 (by kernel_rfl) (by kernel_rfl) (by kernel_rfl) T_ok g_impl_chanceRight l_impl_chanceRight z_impl_chanceRight h_impl_chanceRight k
/-! function 61 -/
noncomputable def r_spec_voMost : List PK := [{ t := Ty.int IntKind.i64 }, { t := Ty.int IntKind.i64 }]
noncomputable def q_spec_voMost : List PK := [{ t := Ty.slice (3 : Nat) (Ty.int IntKind.i64) }]
noncomputable def to_spec_voMost (r : Int × Int) : Tup r_spec_voMost × OutD := ((r.1, r.2, ()), none)
noncomputable def of_spec_voMost : Tup r_spec_voMost × OutD → Option (Int × Int)
  | (a, none) => some (a.1, a.2.1)
  | _ => none
theorem to_of_spec_voMost : ∀ b r, of_spec_voMost b = some r → to_spec_voMost r = b := by
  rintro ⟨a, o⟩ r h
  cases o with
  | none => injection h with h; subst h; rfl
  | some _ => cases h
noncomputable def f_spec_voMost_0 : Nat → List Int → List Int → Int → Int → Option (List Int)
  | 0, _, _, _, _ => none
  | k + 1, o1, v11, v12, v13 =>
    if decide (v13 < v12) = true then if (0 : Int) ≤ v13 then if v13 < (↑(List.length v11) : Int) then if (0 : Int) ≤ List.getD v11 (Int.toNat v13) (0 : Int) then if List.getD v11 (Int.toNat v13) (0 : Int) < (↑(List.length o1) : Int) then if (0 : Int) ≤ List.getD v11 (Int.toNat v13) (0 : Int) then if List.getD v11 (Int.toNat v13) (0 : Int) < (↑(List.length o1) : Int) then f_spec_voMost_0 k (List.set o1 (Int.toNat (List.getD v11 (Int.toNat v13) (0 : Int))) (wrap64 (List.getD o1 (Int.toNat (List.getD v11 (Int.toNat v13) (0 : Int))) (0 : Int) + (1 : Int)))) v11 v12 (wrap64 (v13 + (1 : Int))) else none else none else none else none else none else none else some o1
noncomputable def f_spec_voMost_0i : Spec := { objs := [OSh.ro, OSh.row true (3 : Nat) (Ty.int IntKind.i64)], tmps := [((4 : Nat), TSh.at (Sh.sl (1 : Nat))), ((11 : Nat), TSh.at (Sh.snap (0 : Nat) (Ty.int IntKind.i64))), ((12 : Nat), TSh.at (Sh.int IntKind.i64)), ((13 : Nat), TSh.at (Sh.int IntKind.i64))] }
noncomputable def f_spec_voMost_0o : Spec := { objs := [OSh.ro, OSh.row true (3 : Nat) (Ty.int IntKind.i64)], tmps := [((4 : Nat), TSh.at (Sh.sl (1 : Nat)))] }
noncomputable def f_spec_voMost_0D : LoopDef (Tup r_spec_voMost × OutD) := .plain f_spec_voMost_0i f_spec_voMost_0o (List Int) (fun k x => f_spec_voMost_0 k x.1.2.1 x.2.2.1 x.2.2.2.1 x.2.2.2.2.1) (fun z => (((), z, ()), ((), ()))) (fun y => (y.1.2.1)) (fun _ => rfl)
noncomputable def f_spec_voMost_2 : Nat → List Int → Int → Int → Int → Option (List Int × Int)
  | 0, _, _, _, _ => none
  | k + 1, o1, v7, v25, v26 =>
    if decide (v26 < v25) = true then if (0 : Int) ≤ v26 then if v26 < (↑(List.length o1) : Int) then if (0 : Int) ≤ v7 then if v7 < (↑(List.length o1) : Int) then if decide (List.getD o1 (Int.toNat v26) (0 : Int) > List.getD o1 (Int.toNat v7) (0 : Int)) = true then f_spec_voMost_2 k o1 v26 v25 (wrap64 (v26 + (1 : Int))) else f_spec_voMost_2 k o1 v7 v25 (wrap64 (v26 + (1 : Int))) else none else none else none else none else some (o1, v7)
noncomputable def f_spec_voMost_2i : Spec := { objs := [OSh.ro, OSh.row true (3 : Nat) (Ty.int IntKind.i64)], tmps := [((4 : Nat), TSh.at (Sh.sl (1 : Nat))), ((7 : Nat), TSh.at (Sh.int IntKind.i64)), ((24 : Nat), TSh.at (Sh.sl (1 : Nat))), ((25 : Nat), TSh.at (Sh.int IntKind.i64)), ((26 : Nat), TSh.at (Sh.int IntKind.i64))] }
noncomputable def f_spec_voMost_2o : Spec := { objs := [OSh.ro, OSh.row true (3 : Nat) (Ty.int IntKind.i64)], tmps := [((4 : Nat), TSh.at (Sh.sl (1 : Nat))), ((7 : Nat), TSh.at (Sh.int IntKind.i64))] }
noncomputable def f_spec_voMost_2D : LoopDef (Tup r_spec_voMost × OutD) := .plain f_spec_voMost_2i f_spec_voMost_2o (List Int × Int) (fun k x => f_spec_voMost_2 k x.1.2.1 x.2.2.1 x.2.2.2.2.1 x.2.2.2.2.2.1) (fun z => (((), z.1, ()), ((), z.2, ()))) (fun y => (y.1.2.1, y.2.2.1)) (fun _ => rfl)
noncomputable def f_spec_voMost : Nat → List Int → Option (Int × Int)
  | 0, _ => none
  | k + 1, p0 =>
    Option.bind (f_spec_voMost_0 k (List.replicate (Int.toNat (10 : Int)) (0 : Int)) p0 (↑(List.length p0) : Int) (0 : Int)) fun z0 => Option.bind (f_spec_voMost_2 k z0 (0 : Int) (↑(List.length z0) : Int) (0 : Int)) fun z1 => if (0 : Int) ≤ Prod.snd z1 then if Prod.snd z1 < (↑(List.length (Prod.fst z1)) : Int) then some (Prod.snd z1, List.getD (Prod.fst z1) (Int.toNat (Prod.snd z1)) (0 : Int)) else none else none
noncomputable def d_spec_voMost : FnDef := .of q_spec_voMost r_spec_voMost (Int × Int) (fun k x => f_spec_voMost k x.1) to_spec_voMost of_spec_voMost to_of_spec_voMost
noncomputable def c_spec_voMost : Code := Try.f61.body.getD .skip
noncomputable def x_spec_voMost : Ctx (Tup r_spec_voMost × OutD) := { T := T, G := [], mvs := [], no := 0, n := 44, res := resOf T q_spec_voMost r_spec_voMost Try.f61.results.toList, loops := [(0, f_spec_voMost_0D.E), (2, f_spec_voMost_2D.E)], regs := [], conds := [] }
theorem g_spec_voMost (k : Nat) : EnvOK Try.prog k x_spec_voMost.G := (EnvOK.nil mixed)
noncomputable def f_spec_voMost_0B : Code := (findLoop 0 c_spec_voMost).getD .skip
theorem f_spec_voMost_0h (k : Nat) (x : f_spec_voMost_0i.D) : f_spec_voMost_0D.lp (k + 1) x = loopK x_spec_voMost f_spec_voMost_0D 0 f_spec_voMost_0B k x := by kernel_rfl
theorem f_spec_voMost_0l (k : Nat) : LOK Try.prog x_spec_voMost k f_spec_voMost_0B := LOK.by [] (by kernel_rfl) AllOK.nil
theorem f_spec_voMost_0z (x : f_spec_voMost_0i.D) : f_spec_voMost_0D.lp 0 x = none := by kernel_rfl
theorem f_spec_voMost_0ok (k : Nat) : EOK Try.prog x_spec_voMost k f_spec_voMost_0D.E (.block 0 (.loop f_spec_voMost_0B)) := loop_ok T_ok g_spec_voMost f_spec_voMost_0z f_spec_voMost_0h f_spec_voMost_0l k
noncomputable def f_spec_voMost_2B : Code := (findLoop 2 c_spec_voMost).getD .skip
theorem f_spec_voMost_2h (k : Nat) (x : f_spec_voMost_2i.D) : f_spec_voMost_2D.lp (k + 1) x = loopK x_spec_voMost f_spec_voMost_2D 2 f_spec_voMost_2B k x := by kernel_rfl
theorem f_spec_voMost_2l (k : Nat) : LOK Try.prog x_spec_voMost k f_spec_voMost_2B := LOK.by [] (by kernel_rfl) AllOK.nil
theorem f_spec_voMost_2z (x : f_spec_voMost_2i.D) : f_spec_voMost_2D.lp 0 x = none := by kernel_rfl
theorem f_spec_voMost_2ok (k : Nat) : EOK Try.prog x_spec_voMost k f_spec_voMost_2D.E (.block 2 (.loop f_spec_voMost_2B)) := loop_ok T_ok g_spec_voMost f_spec_voMost_2z f_spec_voMost_2h f_spec_voMost_2l k
theorem h_spec_voMost (k : Nat) (x : Tup d_spec_voMost.ps) : d_spec_voMost.f (k + 1) x = fnK d_spec_voMost x_spec_voMost c_spec_voMost k x := by kernel_rfl
theorem z_spec_voMost (x : Tup d_spec_voMost.ps) : d_spec_voMost.f 0 x = none := by kernel_rfl
theorem l_spec_voMost (k : Nat) : LOK Try.prog x_spec_voMost k c_spec_voMost := LOK.by [(f_spec_voMost_0D.E, .block 0 (.loop f_spec_voMost_0B)), (f_spec_voMost_2D.E, .block 2 (.loop f_spec_voMost_2B))] (by kernel_rfl) (AllOK.cons (f_spec_voMost_0ok k) (AllOK.cons (f_spec_voMost_2ok k) AllOK.nil))
theorem s_spec_voMost (k : Nat) : SoundAt Try.prog k 61 d_spec_voMost.E := @fn_all Try.prog d_spec_voMost x_spec_voMost 61 Try.f61 c_spec_voMost (by kernel_rfl) (by kernel_rfl) (by kernel_rfl) Try.func61 (by kernel_rfl) (by kernel_rfl) (by kernel_rfl) T_ok g_spec_voMost l_spec_voMost z_spec_voMost h_spec_voMost k
/-! function 64 -/
noncomputable def r_spec_l1Has : List PK := [{ t := Ty.bool }]
noncomputable def q_spec_l1Has : List PK := [{ t := Ty.slice (3 : Nat) (Ty.int IntKind.i64) }, { t := Ty.int IntKind.i64 }]
noncomputable def to_spec_l1Has (r : Bool) : Tup r_spec_l1Has × OutD := ((r, ()), none)
noncomputable def of_spec_l1Has : Tup r_spec_l1Has × OutD → Option (Bool)
  | (a, none) => some (a.1)
  | _ => none
theorem to_of_spec_l1Has : ∀ b r, of_spec_l1Has b = some r → to_spec_l1Has r = b := by
  rintro ⟨a, o⟩ r h
  cases o with
  | none => injection h with h; subst h; rfl
  | some _ => cases h
noncomputable def f_spec_l1Has_0 : Nat → Int → List Int → Int → Int → Option (LR Unit Bool)
  | 0, _, _, _, _ => none
  | k + 1, v1, v7, v8, v9 =>
    if decide (v9 < v8) = true then if (0 : Int) ≤ v9 then if v9 < (↑(List.length v7) : Int) then if decide (List.getD v7 (Int.toNat v9) (0 : Int) = v1) = true then some (LR.ret true) else f_spec_l1Has_0 k v1 v7 v8 (wrap64 (v9 + (1 : Int))) else none else none else some (LR.go ())
noncomputable def f_spec_l1Has_0i : Spec := { objs := [OSh.ro], tmps := [((1 : Nat), TSh.at (Sh.int IntKind.i64)), ((7 : Nat), TSh.at (Sh.snap (0 : Nat) (Ty.int IntKind.i64))), ((8 : Nat), TSh.at (Sh.int IntKind.i64)), ((9 : Nat), TSh.at (Sh.int IntKind.i64))] }
noncomputable def f_spec_l1Has_0o : Spec := { objs := [OSh.ro], tmps := [] }
noncomputable def f_spec_l1Has_0D : LoopDef (Tup r_spec_l1Has × OutD) := .rets f_spec_l1Has_0i f_spec_l1Has_0o (Unit) (Bool) (fun k x => f_spec_l1Has_0 k x.2.1 x.2.2.1 x.2.2.2.1 x.2.2.2.2.1) (fun z => (((), ()), (()))) (fun y => ()) (fun _ => rfl) to_spec_l1Has of_spec_l1Has to_of_spec_l1Has
noncomputable def f_spec_l1Has : Nat → List Int → Int → Option Bool
  | 0, _, _ => none
  | k + 1, p0, p1 =>
    Option.bind (f_spec_l1Has_0 k p1 p0 (↑(List.length p0) : Int) (0 : Int)) fun z0 => LR.on z0 (fun y0 => some false) fun r0 => some r0
noncomputable def d_spec_l1Has : FnDef := .of q_spec_l1Has r_spec_l1Has (Bool) (fun k x => f_spec_l1Has k x.1 x.2.1) to_spec_l1Has of_spec_l1Has to_of_spec_l1Has
noncomputable def c_spec_l1Has : Code := Try.f64.body.getD .skip
noncomputable def x_spec_l1Has : Ctx (Tup r_spec_l1Has × OutD) := { T := T, G := [], mvs := [], no := 0, n := 17, res := resOf T q_spec_l1Has r_spec_l1Has Try.f64.results.toList, loops := [(0, f_spec_l1Has_0D.E)], regs := [], conds := [] }
theorem g_spec_l1Has (k : Nat) : EnvOK Try.prog k x_spec_l1Has.G := (EnvOK.nil mixed)
noncomputable def f_spec_l1Has_0B : Code := (findLoop 0 c_spec_l1Has).getD .skip
theorem f_spec_l1Has_0h (k : Nat) (x : f_spec_l1Has_0i.D) : f_spec_l1Has_0D.lp (k + 1) x = loopK x_spec_l1Has f_spec_l1Has_0D 0 f_spec_l1Has_0B k x := by kernel_rfl
theorem f_spec_l1Has_0l (k : Nat) : LOK Try.prog x_spec_l1Has k f_spec_l1Has_0B := LOK.by [] (by kernel_rfl) AllOK.nil
theorem f_spec_l1Has_0z (x : f_spec_l1Has_0i.D) : f_spec_l1Has_0D.lp 0 x = none := by kernel_rfl
theorem f_spec_l1Has_0ok (k : Nat) : EOK Try.prog x_spec_l1Has k f_spec_l1Has_0D.E (.block 0 (.loop f_spec_l1Has_0B)) := loop_ok T_ok g_spec_l1Has f_spec_l1Has_0z f_spec_l1Has_0h f_spec_l1Has_0l k
theorem h_spec_l1Has (k : Nat) (x : Tup d_spec_l1Has.ps) : d_spec_l1Has.f (k + 1) x = fnK d_spec_l1Has x_spec_l1Has c_spec_l1Has k x := by kernel_rfl
theorem z_spec_l1Has (x : Tup d_spec_l1Has.ps) : d_spec_l1Has.f 0 x = none := by kernel_rfl
theorem l_spec_l1Has (k : Nat) : LOK Try.prog x_spec_l1Has k c_spec_l1Has := LOK.by [(f_spec_l1Has_0D.E, .block 0 (.loop f_spec_l1Has_0B))] (by kernel_rfl) (AllOK.cons (f_spec_l1Has_0ok k) AllOK.nil)
theorem s_spec_l1Has (k : Nat) : SoundAt Try.prog k 64 d_spec_l1Has.E := @fn_all Try.prog d_spec_l1Has x_spec_l1Has 64 Try.f64 c_spec_l1Has (by kernel_rfl) (by kernel_rfl) (by kernel_rfl) Try.func64 (by kernel_rfl) (by kernel_rfl) (by kernel_rfl) T_ok g_spec_l1Has l_spec_l1Has z_spec_l1Has h_spec_l1Has k
/-! function 66 -/
noncomputable def r_laws_szIntS : List PK := [{ t := Ty.int IntKind.i64 }]
noncomputable def q_laws_szIntS : List PK := [{ t := Ty.slice (3 : Nat) (Ty.int IntKind.i64) }, { t := Ty.int IntKind.i64 }]
noncomputable def to_laws_szIntS (r : Int) : Tup r_laws_szIntS × OutD := ((r, ()), none)
noncomputable def of_laws_szIntS : Tup r_laws_szIntS × OutD → Option (Int)
  | (a, none) => some (a.1)
  | _ => none
theorem to_of_laws_szIntS : ∀ b r, of_laws_szIntS b = some r → to_laws_szIntS r = b := by
  rintro ⟨a, o⟩ r h
  cases o with
  | none => injection h with h; subst h; rfl
  | some _ => cases h
noncomputable def f_laws_szIntS : Nat → List Int → Int → Option Int
  | 0, _, _ => none
  | k + 1, p0, p1 =>
    if decide (wrap64 (p1 - (↑(List.length p0) : Int)) < (0 : Int)) = true then some (-1 : Int) else some (wrap64 (p1 - (↑(List.length p0) : Int)))
noncomputable def d_laws_szIntS : FnDef := .of q_laws_szIntS r_laws_szIntS (Int) (fun k x => f_laws_szIntS k x.1 x.2.1) to_laws_szIntS of_laws_szIntS to_of_laws_szIntS
noncomputable def c_laws_szIntS : Code := Try.f66.body.getD .skip
noncomputable def x_laws_szIntS : Ctx (Tup r_laws_szIntS × OutD) := { T := T, G := [], mvs := [], no := 0, n := 12, res := resOf T q_laws_szIntS r_laws_szIntS Try.f66.results.toList, loops := [], regs := [], conds := [] }
theorem g_laws_szIntS (k : Nat) : EnvOK Try.prog k x_laws_szIntS.G := (EnvOK.nil mixed)
theorem h_laws_szIntS (k : Nat) (x : Tup d_laws_szIntS.ps) : d_laws_szIntS.f (k + 1) x = fnK d_laws_szIntS x_laws_szIntS c_laws_szIntS k x := by kernel_rfl
theorem z_laws_szIntS (x : Tup d_laws_szIntS.ps) : d_laws_szIntS.f 0 x = none := by kernel_rfl
theorem l_laws_szIntS (k : Nat) : LOK Try.prog x_laws_szIntS k c_laws_szIntS := LOK.by [] (by kernel_rfl) AllOK.nil
theorem s_laws_szIntS (k : Nat) : SoundAt Try.prog k 66 d_laws_szIntS.E := @fn_all Try.prog d_laws_szIntS x_laws_szIntS 66 Try.f66 c_laws_szIntS (by kernel_rfl) (by kernel_rfl) (by kernel_rfl) Try.func66 (by kernel_rfl) (by kernel_rfl) (by kernel_rfl) T_ok g_laws_szIntS l_laws_szIntS z_laws_szIntS h_laws_szIntS k
/-! function 67 -/
noncomputable def r_laws_szLoanS : List PK := [{ t := Ty.int IntKind.i64 }]
noncomputable def q_laws_szLoanS : List PK := [{ t := Ty.slice (95 : Nat) (Ty.pair (Ty.int IntKind.i64) (Ty.pair (Ty.int IntKind.i64) (Ty.pair (Ty.int IntKind.i64) (Ty.int IntKind.i64)))) }, { t := Ty.int IntKind.i64 }]
noncomputable def to_laws_szLoanS (r : Int) : Tup r_laws_szLoanS × OutD := ((r, ()), none)
noncomputable def of_laws_szLoanS : Tup r_laws_szLoanS × OutD → Option (Int)
  | (a, none) => some (a.1)
  | _ => none
theorem to_of_laws_szLoanS : ∀ b r, of_laws_szLoanS b = some r → to_laws_szLoanS r = b := by
  rintro ⟨a, o⟩ r h
  cases o with
  | none => injection h with h; subst h; rfl
  | some _ => cases h
noncomputable def f_laws_szLoanS : Nat → List (Int × Int × Int × Int) → Int → Option Int
  | 0, _, _ => none
  | k + 1, p0, p1 =>
    if decide (wrap64 (p1 - (↑(List.length p0) : Int)) < (0 : Int)) = true then some (-1 : Int) else some (wrap64 (p1 - (↑(List.length p0) : Int)))
noncomputable def d_laws_szLoanS : FnDef := .of q_laws_szLoanS r_laws_szLoanS (Int) (fun k x => f_laws_szLoanS k x.1 x.2.1) to_laws_szLoanS of_laws_szLoanS to_of_laws_szLoanS
noncomputable def c_laws_szLoanS : Code := Try.f67.body.getD .skip
noncomputable def x_laws_szLoanS : Ctx (Tup r_laws_szLoanS × OutD) := { T := T, G := [], mvs := [], no := 0, n := 12, res := resOf T q_laws_szLoanS r_laws_szLoanS Try.f67.results.toList, loops := [], regs := [], conds := [] }
theorem g_laws_szLoanS (k : Nat) : EnvOK Try.prog k x_laws_szLoanS.G := (EnvOK.nil mixed)
theorem h_laws_szLoanS (k : Nat) (x : Tup d_laws_szLoanS.ps) : d_laws_szLoanS.f (k + 1) x = fnK d_laws_szLoanS x_laws_szLoanS c_laws_szLoanS k x := by kernel_rfl
theorem z_laws_szLoanS (x : Tup d_laws_szLoanS.ps) : d_laws_szLoanS.f 0 x = none := by kernel_rfl
theorem l_laws_szLoanS (k : Nat) : LOK Try.prog x_laws_szLoanS k c_laws_szLoanS := LOK.by [] (by kernel_rfl) AllOK.nil
theorem s_laws_szLoanS (k : Nat) : SoundAt Try.prog k 67 d_laws_szLoanS.E := @fn_all Try.prog d_laws_szLoanS x_laws_szLoanS 67 Try.f67 c_laws_szLoanS (by kernel_rfl) (by kernel_rfl) (by kernel_rfl) Try.func67 (by kernel_rfl) (by kernel_rfl) (by kernel_rfl) T_ok g_laws_szLoanS l_laws_szLoanS z_laws_szLoanS h_laws_szLoanS k
/-! function 71 -/
noncomputable def r_impl_sameLoan : List PK := [{ t := Ty.int IntKind.i64 }]
noncomputable def q_impl_sameLoan : List PK := [{ t := Ty.slice (81 : Nat) (Ty.pair (Ty.int IntKind.i64) (Ty.pair (Ty.int IntKind.i64) (Ty.pair (Ty.int IntKind.i64) (Ty.int IntKind.i64)))) }, { t := Ty.pair (Ty.int IntKind.i64) (Ty.pair (Ty.int IntKind.i64) (Ty.pair (Ty.int IntKind.i64) (Ty.int IntKind.i64))), agg := true }]
noncomputable def to_impl_sameLoan (r : Int) : Tup r_impl_sameLoan × OutD := ((r, ()), none)
noncomputable def of_impl_sameLoan : Tup r_impl_sameLoan × OutD → Option (Int)
  | (a, none) => some (a.1)
  | _ => none
theorem to_of_impl_sameLoan : ∀ b r, of_impl_sameLoan b = some r → to_impl_sameLoan r = b := by
  rintro ⟨a, o⟩ r h
  cases o with
  | none => injection h with h; subst h; rfl
  | some _ => cases h
noncomputable def f_impl_sameLoan_0 : Nat → Int → Int → Int → Int → List (Int × Int × Int × Int) → Int → Int → Option (LR Unit Int)
  | 0, _, _, _, _, _, _, _ => none
  | k + 1, b1_0, b1_1, b1_2, b1_3, v7, v8, v9 =>
    if decide (v9 < v8) = true then if (0 : Int) ≤ v9 then if v9 < (↑(List.length v7) : Int) then if decide (b1_0 = Prod.fst (List.getD v7 (Int.toNat v9) ((0 : Int), (0 : Int), (0 : Int), (0 : Int)))) = true then if decide (b1_1 = Prod.fst (Prod.snd (List.getD v7 (Int.toNat v9) ((0 : Int), (0 : Int), (0 : Int), (0 : Int))))) = true then if decide (b1_3 = Prod.snd (Prod.snd (Prod.snd (List.getD v7 (Int.toNat v9) ((0 : Int), (0 : Int), (0 : Int), (0 : Int)))))) = true then some (LR.ret v9) else f_impl_sameLoan_0 k b1_0 b1_1 b1_2 b1_3 v7 v8 (wrap64 (v9 + (1 : Int))) else f_impl_sameLoan_0 k b1_0 b1_1 b1_2 b1_3 v7 v8 (wrap64 (v9 + (1 : Int))) else f_impl_sameLoan_0 k b1_0 b1_1 b1_2 b1_3 v7 v8 (wrap64 (v9 + (1 : Int))) else none else none else some (LR.go ())
noncomputable def f_impl_sameLoan_0i : Spec := { objs := [OSh.ro, OSh.box (81 : Nat) [Sh.int IntKind.i64, Sh.int IntKind.i64, Sh.int IntKind.i64, Sh.int IntKind.i64]], tmps := [((3 : Nat), TSh.at (Sh.ptr (1 : Nat) (0 : Nat))), ((7 : Nat), TSh.at (Sh.snap (0 : Nat) (Ty.pair (Ty.int IntKind.i64) (Ty.pair (Ty.int IntKind.i64) (Ty.pair (Ty.int IntKind.i64) (Ty.int IntKind.i64)))))), ((8 : Nat), TSh.at (Sh.int IntKind.i64)), ((9 : Nat), TSh.at (Sh.int IntKind.i64))] }
noncomputable def f_impl_sameLoan_0o : Spec := { objs := [OSh.ro], tmps := [] }
noncomputable def f_impl_sameLoan_0D : LoopDef (Tup r_impl_sameLoan × OutD) := .rets f_impl_sameLoan_0i f_impl_sameLoan_0o (Unit) (Int) (fun k x => f_impl_sameLoan_0 k x.1.2.1.1 x.1.2.1.2.1 x.1.2.1.2.2.1 x.1.2.1.2.2.2.1 x.2.2.1 x.2.2.2.1 x.2.2.2.2.1) (fun z => (((), ()), (()))) (fun y => ()) (fun _ => rfl) to_impl_sameLoan of_impl_sameLoan to_of_impl_sameLoan
noncomputable def f_impl_sameLoan : Nat → List (Int × Int × Int × Int) → Int × Int × Int × Int → Option Int
  | 0, _, _ => none
  | k + 1, p0, p1 =>
    Option.bind (f_impl_sameLoan_0 k (Prod.fst p1) (Prod.fst (Prod.snd p1)) (Prod.fst (Prod.snd (Prod.snd p1))) (Prod.snd (Prod.snd (Prod.snd p1))) p0 (↑(List.length p0) : Int) (0 : Int)) fun z0 => LR.on z0 (fun y0 => some (-1 : Int)) fun r0 => some r0
noncomputable def d_impl_sameLoan : FnDef := .of q_impl_sameLoan r_impl_sameLoan (Int) (fun k x => f_impl_sameLoan k x.1 x.2.1) to_impl_sameLoan of_impl_sameLoan to_of_impl_sameLoan
noncomputable def c_impl_sameLoan : Code := Try.f71.body.getD .skip
noncomputable def x_impl_sameLoan : Ctx (Tup r_impl_sameLoan × OutD) := { T := T, G := [], mvs := [], no := 0, n := 35, res := resOf T q_impl_sameLoan r_impl_sameLoan Try.f71.results.toList, loops := [(0, f_impl_sameLoan_0D.E)], regs := [], conds := [] }
theorem g_impl_sameLoan (k : Nat) : EnvOK Try.prog k x_impl_sameLoan.G := (EnvOK.nil mixed)
noncomputable def f_impl_sameLoan_0B : Code := (findLoop 0 c_impl_sameLoan).getD .skip
theorem f_impl_sameLoan_0h (k : Nat) (x : f_impl_sameLoan_0i.D) : f_impl_sameLoan_0D.lp (k + 1) x = loopK x_impl_sameLoan f_impl_sameLoan_0D 0 f_impl_sameLoan_0B k x := by kernel_rfl
theorem f_impl_sameLoan_0l (k : Nat) : LOK Try.prog x_impl_sameLoan k f_impl_sameLoan_0B := LOK.by [] (by kernel_rfl) AllOK.nil
theorem f_impl_sameLoan_0z (x : f_impl_sameLoan_0i.D) : f_impl_sameLoan_0D.lp 0 x = none := by kernel_rfl
theorem f_impl_sameLoan_0ok (k : Nat) : EOK Try.prog x_impl_sameLoan k f_impl_sameLoan_0D.E (.block 0 (.loop f_impl_sameLoan_0B)) := loop_ok T_ok g_impl_sameLoan f_impl_sameLoan_0z f_impl_sameLoan_0h f_impl_sameLoan_0l k
theorem h_impl_sameLoan (k : Nat) (x : Tup d_impl_sameLoan.ps) : d_impl_sameLoan.f (k + 1) x = fnK d_impl_sameLoan x_impl_sameLoan c_impl_sameLoan k x := by kernel_rfl
theorem z_impl_sameLoan (x : Tup d_impl_sameLoan.ps) : d_impl_sameLoan.f 0 x = none := by kernel_rfl
theorem l_impl_sameLoan (k : Nat) : LOK Try.prog x_impl_sameLoan k c_impl_sameLoan := LOK.by [(f_impl_sameLoan_0D.E, .block 0 (.loop f_impl_sameLoan_0B))] (by kernel_rfl) (AllOK.cons (f_impl_sameLoan_0ok k) AllOK.nil)
theorem s_impl_sameLoan (k : Nat) : SoundAt Try.prog k 71 d_impl_sameLoan.E := @fn_all Try.prog d_impl_sameLoan x_impl_sameLoan 71 Try.f71 c_impl_sameLoan (by kernel_rfl) (by kernel_rfl) (by kernel_rfl) Try.func71 (by kernel_rfl) (by kernel_rfl) (by kernel_rfl) T_ok g_impl_sameLoan l_impl_sameLoan z_impl_sameLoan h_impl_sameLoan k
/-! function 74 -/
noncomputable def r_spec_voPlace : List PK := [{ t := Ty.slice (3 : Nat) (Ty.int IntKind.i64) }]
noncomputable def q_spec_voPlace : List PK := [{ t := Ty.slice (25 : Nat) (Ty.slice (3 : Nat) (Ty.int IntKind.i64)) }, { t := Ty.int IntKind.i64 }]
noncomputable def to_spec_voPlace (r : List Int) : Tup r_spec_voPlace × OutD := ((r, ()), none)
noncomputable def of_spec_voPlace : Tup r_spec_voPlace × OutD → Option (List Int)
  | (a, none) => some (a.1)
  | _ => none
theorem to_of_spec_voPlace : ∀ b r, of_spec_voPlace b = some r → to_spec_voPlace r = b := by
  rintro ⟨a, o⟩ r h
  cases o with
  | none => injection h with h; subst h; rfl
  | some _ => cases h
noncomputable def f_spec_voPlace_0 : Nat → List Int → Int → List (List Int) → Int → Int → Option (List Int)
  | 0, _, _, _, _, _ => none
  | k + 1, o1, v1, v8, v9, v10 =>
    if decide (v10 < v9) = true then if (0 : Int) ≤ v10 then if v10 < (↑(List.length v8) : Int) then if (0 : Int) ≤ v1 then if v1 < (↑(List.length (List.getD v8 (Int.toNat v10) [])) : Int) then if List.length o1 + List.length [List.getD (List.getD v8 (Int.toNat v10) []) (Int.toNat v1) (0 : Int)] ≤ (140737488355328 / 8 : Nat) then f_spec_voPlace_0 k (o1 ++ [List.getD (List.getD v8 (Int.toNat v10) []) (Int.toNat v1) (0 : Int)]) v1 v8 v9 (wrap64 (v10 + (1 : Int))) else none else none else none else none else none else some o1
noncomputable def f_spec_voPlace_0i : Spec := { objs := [OSh.ro, OSh.row true (3 : Nat) (Ty.int IntKind.i64)], tmps := [((1 : Nat), TSh.at (Sh.int IntKind.i64)), ((5 : Nat), TSh.at (Sh.sl (1 : Nat))), ((8 : Nat), TSh.at (Sh.snap (0 : Nat) (Ty.slice (3 : Nat) (Ty.int IntKind.i64)))), ((9 : Nat), TSh.at (Sh.int IntKind.i64)), ((10 : Nat), TSh.at (Sh.int IntKind.i64))] }
noncomputable def f_spec_voPlace_0o : Spec := { objs := [OSh.ro, OSh.row true (3 : Nat) (Ty.int IntKind.i64)], tmps := [((5 : Nat), TSh.at (Sh.sl (1 : Nat)))] }
noncomputable def f_spec_voPlace_0D : LoopDef (Tup r_spec_voPlace × OutD) := .plain f_spec_voPlace_0i f_spec_voPlace_0o (List Int) (fun k x => f_spec_voPlace_0 k x.1.2.1 x.2.1 x.2.2.2.1 x.2.2.2.2.1 x.2.2.2.2.2.1) (fun z => (((), z, ()), ((), ()))) (fun y => (y.1.2.1)) (fun _ => rfl)
noncomputable def f_spec_voPlace : Nat → List (List Int) → Int → Option (List Int)
  | 0, _, _ => none
  | k + 1, p0, p1 =>
    Option.bind (f_spec_voPlace_0 k [] p1 p0 (↑(List.length p0) : Int) (0 : Int)) fun z0 => some z0
noncomputable def d_spec_voPlace : FnDef := .of q_spec_voPlace r_spec_voPlace (List Int) (fun k x => f_spec_voPlace k x.1 x.2.1) to_spec_voPlace of_spec_voPlace to_of_spec_voPlace
noncomputable def c_spec_voPlace : Code := Try.f74.body.getD .skip
noncomputable def x_spec_voPlace : Ctx (Tup r_spec_voPlace × OutD) := { T := T, G := [], mvs := [], no := 0, n := 23, res := resOf T q_spec_voPlace r_spec_voPlace Try.f74.results.toList, loops := [(0, f_spec_voPlace_0D.E)], regs := [], conds := [] }
theorem g_spec_voPlace (k : Nat) : EnvOK Try.prog k x_spec_voPlace.G := (EnvOK.nil mixed)
noncomputable def f_spec_voPlace_0B : Code := (findLoop 0 c_spec_voPlace).getD .skip
theorem f_spec_voPlace_0h (k : Nat) (x : f_spec_voPlace_0i.D) : f_spec_voPlace_0D.lp (k + 1) x = loopK x_spec_voPlace f_spec_voPlace_0D 0 f_spec_voPlace_0B k x := by kernel_rfl
theorem f_spec_voPlace_0l (k : Nat) : LOK Try.prog x_spec_voPlace k f_spec_voPlace_0B := LOK.by [] (by kernel_rfl) AllOK.nil
theorem f_spec_voPlace_0z (x : f_spec_voPlace_0i.D) : f_spec_voPlace_0D.lp 0 x = none := by kernel_rfl
theorem f_spec_voPlace_0ok (k : Nat) : EOK Try.prog x_spec_voPlace k f_spec_voPlace_0D.E (.block 0 (.loop f_spec_voPlace_0B)) := loop_ok T_ok g_spec_voPlace f_spec_voPlace_0z f_spec_voPlace_0h f_spec_voPlace_0l k
theorem h_spec_voPlace (k : Nat) (x : Tup d_spec_voPlace.ps) : d_spec_voPlace.f (k + 1) x = fnK d_spec_voPlace x_spec_voPlace c_spec_voPlace k x := by kernel_rfl
theorem z_spec_voPlace (x : Tup d_spec_voPlace.ps) : d_spec_voPlace.f 0 x = none := by kernel_rfl
theorem l_spec_voPlace (k : Nat) : LOK Try.prog x_spec_voPlace k c_spec_voPlace := LOK.by [(f_spec_voPlace_0D.E, .block 0 (.loop f_spec_voPlace_0B))] (by kernel_rfl) (AllOK.cons (f_spec_voPlace_0ok k) AllOK.nil)
theorem s_spec_voPlace (k : Nat) : SoundAt Try.prog k 74 d_spec_voPlace.E := @fn_all Try.prog d_spec_voPlace x_spec_voPlace 74 Try.f74 c_spec_voPlace (by kernel_rfl) (by kernel_rfl) (by kernel_rfl) Try.func74 (by kernel_rfl) (by kernel_rfl) (by kernel_rfl) T_ok g_spec_voPlace l_spec_voPlace z_spec_voPlace h_spec_voPlace k
/-! function 76 -/
noncomputable def r_impl_column : List PK := [{ t := Ty.slice (3 : Nat) (Ty.int IntKind.i64) }]
noncomputable def q_impl_column : List PK := [{ t := Ty.slice (25 : Nat) (Ty.slice (3 : Nat) (Ty.int IntKind.i64)) }, { t := Ty.int IntKind.i64 }]
noncomputable def to_impl_column (r : List Int) : Tup r_impl_column × OutD := ((r, ()), none)
noncomputable def of_impl_column : Tup r_impl_column × OutD → Option (List Int)
  | (a, none) => some (a.1)
  | _ => none
theorem to_of_impl_column : ∀ b r, of_impl_column b = some r → to_impl_column r = b := by
  rintro ⟨a, o⟩ r h
  cases o with
  | none => injection h with h; subst h; rfl
  | some _ => cases h
noncomputable def f_impl_column_0 : Nat → List Int → Int → List (List Int) → Int → Int → Option (List Int)
  | 0, _, _, _, _, _ => none
  | k + 1, o1, v1, v9, v10, v11 =>
    if decide (v11 < v10) = true then if (0 : Int) ≤ v11 then if v11 < (↑(List.length v9) : Int) then if (0 : Int) ≤ v1 then if v1 < (↑(List.length (List.getD v9 (Int.toNat v11) [])) : Int) then if List.length o1 + List.length [List.getD (List.getD v9 (Int.toNat v11) []) (Int.toNat v1) (0 : Int)] ≤ (140737488355328 / 8 : Nat) then f_impl_column_0 k (o1 ++ [List.getD (List.getD v9 (Int.toNat v11) []) (Int.toNat v1) (0 : Int)]) v1 v9 v10 (wrap64 (v11 + (1 : Int))) else none else none else none else none else none else some o1
noncomputable def f_impl_column_0i : Spec := { objs := [OSh.ro, OSh.row true (3 : Nat) (Ty.int IntKind.i64)], tmps := [((1 : Nat), TSh.at (Sh.int IntKind.i64)), ((5 : Nat), TSh.at (Sh.sl (1 : Nat))), ((9 : Nat), TSh.at (Sh.snap (0 : Nat) (Ty.slice (3 : Nat) (Ty.int IntKind.i64)))), ((10 : Nat), TSh.at (Sh.int IntKind.i64)), ((11 : Nat), TSh.at (Sh.int IntKind.i64))] }
noncomputable def f_impl_column_0o : Spec := { objs := [OSh.ro, OSh.row true (3 : Nat) (Ty.int IntKind.i64)], tmps := [((5 : Nat), TSh.at (Sh.sl (1 : Nat)))] }
noncomputable def f_impl_column_0D : LoopDef (Tup r_impl_column × OutD) := .plain f_impl_column_0i f_impl_column_0o (List Int) (fun k x => f_impl_column_0 k x.1.2.1 x.2.1 x.2.2.2.1 x.2.2.2.2.1 x.2.2.2.2.2.1) (fun z => (((), z, ()), ((), ()))) (fun y => (y.1.2.1)) (fun _ => rfl)
noncomputable def f_impl_column : Nat → List (List Int) → Int → Option (List Int)
  | 0, _, _ => none
  | k + 1, p0, p1 =>
    Option.bind (f_impl_column_0 k [] p1 p0 (↑(List.length p0) : Int) (0 : Int)) fun z0 => some z0
noncomputable def d_impl_column : FnDef := .of q_impl_column r_impl_column (List Int) (fun k x => f_impl_column k x.1 x.2.1) to_impl_column of_impl_column to_of_impl_column
noncomputable def c_impl_column : Code := Try.f76.body.getD .skip
noncomputable def x_impl_column : Ctx (Tup r_impl_column × OutD) := { T := T, G := [], mvs := [], no := 0, n := 24, res := resOf T q_impl_column r_impl_column Try.f76.results.toList, loops := [(0, f_impl_column_0D.E)], regs := [], conds := [] }
theorem g_impl_column (k : Nat) : EnvOK Try.prog k x_impl_column.G := (EnvOK.nil mixed)
noncomputable def f_impl_column_0B : Code := (findLoop 0 c_impl_column).getD .skip
theorem f_impl_column_0h (k : Nat) (x : f_impl_column_0i.D) : f_impl_column_0D.lp (k + 1) x = loopK x_impl_column f_impl_column_0D 0 f_impl_column_0B k x := by kernel_rfl
theorem f_impl_column_0l (k : Nat) : LOK Try.prog x_impl_column k f_impl_column_0B := LOK.by [] (by kernel_rfl) AllOK.nil
theorem f_impl_column_0z (x : f_impl_column_0i.D) : f_impl_column_0D.lp 0 x = none := by kernel_rfl
theorem f_impl_column_0ok (k : Nat) : EOK Try.prog x_impl_column k f_impl_column_0D.E (.block 0 (.loop f_impl_column_0B)) := loop_ok T_ok g_impl_column f_impl_column_0z f_impl_column_0h f_impl_column_0l k
theorem h_impl_column (k : Nat) (x : Tup d_impl_column.ps) : d_impl_column.f (k + 1) x = fnK d_impl_column x_impl_column c_impl_column k x := by kernel_rfl
theorem z_impl_column (x : Tup d_impl_column.ps) : d_impl_column.f 0 x = none := by kernel_rfl
theorem l_impl_column (k : Nat) : LOK Try.prog x_impl_column k c_impl_column := LOK.by [(f_impl_column_0D.E, .block 0 (.loop f_impl_column_0B))] (by kernel_rfl) (AllOK.cons (f_impl_column_0ok k) AllOK.nil)
theorem s_impl_column (k : Nat) : SoundAt Try.prog k 76 d_impl_column.E := @fn_all Try.prog d_impl_column x_impl_column 76 Try.f76 c_impl_column (by kernel_rfl) (by kernel_rfl) (by kernel_rfl) Try.func76 (by kernel_rfl) (by kernel_rfl) (by kernel_rfl) T_ok g_impl_column l_impl_column z_impl_column h_impl_column k
/-! function 79 -/
noncomputable def r_spec_l1Same : List PK := [{ t := Ty.bool }]
noncomputable def q_spec_l1Same : List PK := [{ t := Ty.slice (3 : Nat) (Ty.int IntKind.i64) }, { t := Ty.slice (3 : Nat) (Ty.int IntKind.i64) }]
noncomputable def to_spec_l1Same (r : Bool) : Tup r_spec_l1Same × OutD := ((r, ()), none)
noncomputable def of_spec_l1Same : Tup r_spec_l1Same × OutD → Option (Bool)
  | (a, none) => some (a.1)
  | _ => none
theorem to_of_spec_l1Same : ∀ b r, of_spec_l1Same b = some r → to_spec_l1Same r = b := by
  rintro ⟨a, o⟩ r h
  cases o with
  | none => injection h with h; subst h; rfl
  | some _ => cases h
noncomputable def f_spec_l1Same_0 : Nat → List Int → List Int → Int → Int → Option (LR Unit Bool)
  | 0, _, _, _, _ => none
  | k + 1, v0, v1, v12, v13 =>
    if decide (v13 < v12) = true then if (0 : Int) ≤ v13 then if v13 < (↑(List.length v0) : Int) then if (0 : Int) ≤ v13 then if v13 < (↑(List.length v1) : Int) then if decide (List.getD v0 (Int.toNat v13) (0 : Int) ≠ List.getD v1 (Int.toNat v13) (0 : Int)) = true then some (LR.ret false) else f_spec_l1Same_0 k v0 v1 v12 (wrap64 (v13 + (1 : Int))) else none else none else none else none else some (LR.go ())
noncomputable def f_spec_l1Same_0i : Spec := { objs := [OSh.ro], tmps := [((0 : Nat), TSh.at (Sh.snap (0 : Nat) (Ty.int IntKind.i64))), ((1 : Nat), TSh.at (Sh.snap (0 : Nat) (Ty.int IntKind.i64))), ((12 : Nat), TSh.at (Sh.int IntKind.i64)), ((13 : Nat), TSh.at (Sh.int IntKind.i64))] }
noncomputable def f_spec_l1Same_0o : Spec := { objs := [OSh.ro], tmps := [] }
noncomputable def f_spec_l1Same_0D : LoopDef (Tup r_spec_l1Same × OutD) := .rets f_spec_l1Same_0i f_spec_l1Same_0o (Unit) (Bool) (fun k x => f_spec_l1Same_0 k x.2.1 x.2.2.1 x.2.2.2.1 x.2.2.2.2.1) (fun z => (((), ()), (()))) (fun y => ()) (fun _ => rfl) to_spec_l1Same of_spec_l1Same to_of_spec_l1Same
noncomputable def f_spec_l1Same : Nat → List Int → List Int → Option Bool
  | 0, _, _ => none
  | k + 1, p0, p1 =>
    if decide ((↑(List.length p0) : Int) ≠ (↑(List.length p1) : Int)) = true then some false else Option.bind (f_spec_l1Same_0 k p0 p1 (↑(List.length p0) : Int) (0 : Int)) fun z0 => LR.on z0 (fun y0 => some true) fun r0 => some r0
noncomputable def d_spec_l1Same : FnDef := .of q_spec_l1Same r_spec_l1Same (Bool) (fun k x => f_spec_l1Same k x.1 x.2.1) to_spec_l1Same of_spec_l1Same to_of_spec_l1Same
noncomputable def c_spec_l1Same : Code := Try.f79.body.getD .skip
noncomputable def x_spec_l1Same : Ctx (Tup r_spec_l1Same × OutD) := { T := T, G := [], mvs := [], no := 0, n := 26, res := resOf T q_spec_l1Same r_spec_l1Same Try.f79.results.toList, loops := [(0, f_spec_l1Same_0D.E)], regs := [], conds := [] }
theorem g_spec_l1Same (k : Nat) : EnvOK Try.prog k x_spec_l1Same.G := (EnvOK.nil mixed)
noncomputable def f_spec_l1Same_0B : Code := (findLoop 0 c_spec_l1Same).getD .skip
theorem f_spec_l1Same_0h (k : Nat) (x : f_spec_l1Same_0i.D) : f_spec_l1Same_0D.lp (k + 1) x = loopK x_spec_l1Same f_spec_l1Same_0D 0 f_spec_l1Same_0B k x := by kernel_rfl
theorem f_spec_l1Same_0l (k : Nat) : LOK Try.prog x_spec_l1Same k f_spec_l1Same_0B := LOK.by [] (by kernel_rfl) AllOK.nil
theorem f_spec_l1Same_0z (x : f_spec_l1Same_0i.D) : f_spec_l1Same_0D.lp 0 x = none := by kernel_rfl
theorem f_spec_l1Same_0ok (k : Nat) : EOK Try.prog x_spec_l1Same k f_spec_l1Same_0D.E (.block 0 (.loop f_spec_l1Same_0B)) := loop_ok T_ok g_spec_l1Same f_spec_l1Same_0z f_spec_l1Same_0h f_spec_l1Same_0l k
theorem h_spec_l1Same (k : Nat) (x : Tup d_spec_l1Same.ps) : d_spec_l1Same.f (k + 1) x = fnK d_spec_l1Same x_spec_l1Same c_spec_l1Same k x := by kernel_rfl
theorem z_spec_l1Same (x : Tup d_spec_l1Same.ps) : d_spec_l1Same.f 0 x = none := by kernel_rfl
theorem l_spec_l1Same (k : Nat) : LOK Try.prog x_spec_l1Same k c_spec_l1Same := LOK.by [(f_spec_l1Same_0D.E, .block 0 (.loop f_spec_l1Same_0B))] (by kernel_rfl) (AllOK.cons (f_spec_l1Same_0ok k) AllOK.nil)
theorem s_spec_l1Same (k : Nat) : SoundAt Try.prog k 79 d_spec_l1Same.E := @fn_all Try.prog d_spec_l1Same x_spec_l1Same 79 Try.f79 c_spec_l1Same (by kernel_rfl) (by kernel_rfl) (by kernel_rfl) Try.func79 (by kernel_rfl) (by kernel_rfl) (by kernel_rfl) T_ok g_spec_l1Same l_spec_l1Same z_spec_l1Same h_spec_l1Same k
/-! function 80 -/
noncomputable def r_slices_Equal_int_int : List PK := [{ t := Ty.bool }]
noncomputable def q_slices_Equal_int_int : List PK := [{ t := Ty.slice (3 : Nat) (Ty.int IntKind.i64) }, { t := Ty.slice (3 : Nat) (Ty.int IntKind.i64) }]
noncomputable def to_slices_Equal_int_int (r : Bool) : Tup r_slices_Equal_int_int × OutD := ((r, ()), none)
noncomputable def of_slices_Equal_int_int : Tup r_slices_Equal_int_int × OutD → Option (Bool)
  | (a, none) => some (a.1)
  | _ => none
theorem to_of_slices_Equal_int_int : ∀ b r, of_slices_Equal_int_int b = some r → to_slices_Equal_int_int r = b := by
  rintro ⟨a, o⟩ r h
  cases o with
  | none => injection h with h; subst h; rfl
  | some _ => cases h
noncomputable def f_slices_Equal_int_int_0 : Nat → List Int → List Int → Int → Int → Option (LR Unit Bool)
  | 0, _, _, _, _ => none
  | k + 1, v0, v1, v12, v13 =>
    if decide (v13 < v12) = true then if (0 : Int) ≤ v13 then if v13 < (↑(List.length v0) : Int) then if (0 : Int) ≤ v13 then if v13 < (↑(List.length v1) : Int) then if decide (List.getD v0 (Int.toNat v13) (0 : Int) ≠ List.getD v1 (Int.toNat v13) (0 : Int)) = true then some (LR.ret false) else f_slices_Equal_int_int_0 k v0 v1 v12 (wrap64 (v13 + (1 : Int))) else none else none else none else none else some (LR.go ())
noncomputable def f_slices_Equal_int_int_0i : Spec := { objs := [OSh.ro], tmps := [((0 : Nat), TSh.at (Sh.snap (0 : Nat) (Ty.int IntKind.i64))), ((1 : Nat), TSh.at (Sh.snap (0 : Nat) (Ty.int IntKind.i64))), ((12 : Nat), TSh.at (Sh.int IntKind.i64)), ((13 : Nat), TSh.at (Sh.int IntKind.i64))] }
noncomputable def f_slices_Equal_int_int_0o : Spec := { objs := [OSh.ro], tmps := [] }
noncomputable def f_slices_Equal_int_int_0D : LoopDef (Tup r_slices_Equal_int_int × OutD) := .rets f_slices_Equal_int_int_0i f_slices_Equal_int_int_0o (Unit) (Bool) (fun k x => f_slices_Equal_int_int_0 k x.2.1 x.2.2.1 x.2.2.2.1 x.2.2.2.2.1) (fun z => (((), ()), (()))) (fun y => ()) (fun _ => rfl) to_slices_Equal_int_int of_slices_Equal_int_int to_of_slices_Equal_int_int
noncomputable def f_slices_Equal_int_int : Nat → List Int → List Int → Option Bool
  | 0, _, _ => none
  | k + 1, p0, p1 =>
    if decide ((↑(List.length p0) : Int) ≠ (↑(List.length p1) : Int)) = true then some false else Option.bind (f_slices_Equal_int_int_0 k p0 p1 (↑(List.length p0) : Int) (0 : Int)) fun z0 => LR.on z0 (fun y0 => some true) fun r0 => some r0
noncomputable def d_slices_Equal_int_int : FnDef := .of q_slices_Equal_int_int r_slices_Equal_int_int (Bool) (fun k x => f_slices_Equal_int_int k x.1 x.2.1) to_slices_Equal_int_int of_slices_Equal_int_int to_of_slices_Equal_int_int
noncomputable def c_slices_Equal_int_int : Code := Try.f80.body.getD .skip
noncomputable def x_slices_Equal_int_int : Ctx (Tup r_slices_Equal_int_int × OutD) := { T := T, G := [], mvs := [], no := 0, n := 26, res := resOf T q_slices_Equal_int_int r_slices_Equal_int_int Try.f80.results.toList, loops := [(0, f_slices_Equal_int_int_0D.E)], regs := [], conds := [] }
theorem g_slices_Equal_int_int (k : Nat) : EnvOK Try.prog k x_slices_Equal_int_int.G := (EnvOK.nil mixed)
noncomputable def f_slices_Equal_int_int_0B : Code := (findLoop 0 c_slices_Equal_int_int).getD .skip
theorem f_slices_Equal_int_int_0h (k : Nat) (x : f_slices_Equal_int_int_0i.D) : f_slices_Equal_int_int_0D.lp (k + 1) x = loopK x_slices_Equal_int_int f_slices_Equal_int_int_0D 0 f_slices_Equal_int_int_0B k x := by kernel_rfl
theorem f_slices_Equal_int_int_0l (k : Nat) : LOK Try.prog x_slices_Equal_int_int k f_slices_Equal_int_int_0B := LOK.by [] (by kernel_rfl) AllOK.nil
theorem f_slices_Equal_int_int_0z (x : f_slices_Equal_int_int_0i.D) : f_slices_Equal_int_int_0D.lp 0 x = none := by kernel_rfl
theorem f_slices_Equal_int_int_0ok (k : Nat) : EOK Try.prog x_slices_Equal_int_int k f_slices_Equal_int_int_0D.E (.block 0 (.loop f_slices_Equal_int_int_0B)) := loop_ok T_ok g_slices_Equal_int_int f_slices_Equal_int_int_0z f_slices_Equal_int_int_0h f_slices_Equal_int_int_0l k
theorem h_slices_Equal_int_int (k : Nat) (x : Tup d_slices_Equal_int_int.ps) : d_slices_Equal_int_int.f (k + 1) x = fnK d_slices_Equal_int_int x_slices_Equal_int_int c_slices_Equal_int_int k x := by kernel_rfl
theorem z_slices_Equal_int_int (x : Tup d_slices_Equal_int_int.ps) : d_slices_Equal_int_int.f 0 x = none := by kernel_rfl
theorem l_slices_Equal_int_int (k : Nat) : LOK Try.prog x_slices_Equal_int_int k c_slices_Equal_int_int := LOK.by [(f_slices_Equal_int_int_0D.E, .block 0 (.loop f_slices_Equal_int_int_0B))] (by kernel_rfl) (AllOK.cons (f_slices_Equal_int_int_0ok k) AllOK.nil)
theorem s_slices_Equal_int_int (k : Nat) : SoundAt Try.prog k 80 d_slices_Equal_int_int.E := @fn_all Try.prog d_slices_Equal_int_int x_slices_Equal_int_int 80 Try.f80 c_slices_Equal_int_int (by kernel_rfl) (by kernel_rfl) (by kernel_rfl) Try.func80 (by kernel_rfl) (by kernel_rfl) (by kernel_rfl) T_ok g_slices_Equal_int_int l_slices_Equal_int_int z_slices_Equal_int_int h_slices_Equal_int_int k
/-! function 81 -/
noncomputable def r_laws_szCellS : List PK := [{ t := Ty.int IntKind.i64 }]
noncomputable def q_laws_szCellS : List PK := [{ t := Ty.slice (100 : Nat) (Ty.pair (Ty.int IntKind.i64) (Ty.int IntKind.i64)) }, { t := Ty.int IntKind.i64 }]
noncomputable def to_laws_szCellS (r : Int) : Tup r_laws_szCellS × OutD := ((r, ()), none)
noncomputable def of_laws_szCellS : Tup r_laws_szCellS × OutD → Option (Int)
  | (a, none) => some (a.1)
  | _ => none
theorem to_of_laws_szCellS : ∀ b r, of_laws_szCellS b = some r → to_laws_szCellS r = b := by
  rintro ⟨a, o⟩ r h
  cases o with
  | none => injection h with h; subst h; rfl
  | some _ => cases h
noncomputable def f_laws_szCellS : Nat → List (Int × Int) → Int → Option Int
  | 0, _, _ => none
  | k + 1, p0, p1 =>
    if decide (wrap64 (p1 - (↑(List.length p0) : Int)) < (0 : Int)) = true then some (-1 : Int) else some (wrap64 (p1 - (↑(List.length p0) : Int)))
noncomputable def d_laws_szCellS : FnDef := .of q_laws_szCellS r_laws_szCellS (Int) (fun k x => f_laws_szCellS k x.1 x.2.1) to_laws_szCellS of_laws_szCellS to_of_laws_szCellS
noncomputable def c_laws_szCellS : Code := Try.f81.body.getD .skip
noncomputable def x_laws_szCellS : Ctx (Tup r_laws_szCellS × OutD) := { T := T, G := [], mvs := [], no := 0, n := 12, res := resOf T q_laws_szCellS r_laws_szCellS Try.f81.results.toList, loops := [], regs := [], conds := [] }
theorem g_laws_szCellS (k : Nat) : EnvOK Try.prog k x_laws_szCellS.G := (EnvOK.nil mixed)
theorem h_laws_szCellS (k : Nat) (x : Tup d_laws_szCellS.ps) : d_laws_szCellS.f (k + 1) x = fnK d_laws_szCellS x_laws_szCellS c_laws_szCellS k x := by kernel_rfl
theorem z_laws_szCellS (x : Tup d_laws_szCellS.ps) : d_laws_szCellS.f 0 x = none := by kernel_rfl
theorem l_laws_szCellS (k : Nat) : LOK Try.prog x_laws_szCellS k c_laws_szCellS := LOK.by [] (by kernel_rfl) AllOK.nil
theorem s_laws_szCellS (k : Nat) : SoundAt Try.prog k 81 d_laws_szCellS.E := @fn_all Try.prog d_laws_szCellS x_laws_szCellS 81 Try.f81 c_laws_szCellS (by kernel_rfl) (by kernel_rfl) (by kernel_rfl) Try.func81 (by kernel_rfl) (by kernel_rfl) (by kernel_rfl) T_ok g_laws_szCellS l_laws_szCellS z_laws_szCellS h_laws_szCellS k
/-! function 88 -/
noncomputable def r_impl_areDigits : List PK := [{ t := Ty.bool }]
noncomputable def q_impl_areDigits : List PK := [{ t := Ty.slice (3 : Nat) (Ty.int IntKind.i64) }]
noncomputable def to_impl_areDigits (r : Bool) : Tup r_impl_areDigits × OutD := ((r, ()), none)
noncomputable def of_impl_areDigits : Tup r_impl_areDigits × OutD → Option (Bool)
  | (a, none) => some (a.1)
  | _ => none
theorem to_of_impl_areDigits : ∀ b r, of_impl_areDigits b = some r → to_impl_areDigits r = b := by
  rintro ⟨a, o⟩ r h
  cases o with
  | none => injection h with h; subst h; rfl
  | some _ => cases h
noncomputable def f_impl_areDigits_0 : Nat → List Int → Int → Int → Option (LR Unit Bool)
  | 0, _, _, _ => none
  | k + 1, v5, v6, v7 =>
    if decide (v7 < v6) = true then if (0 : Int) ≤ v7 then if v7 < (↑(List.length v5) : Int) then if decide (List.getD v5 (Int.toNat v7) (0 : Int) < (0 : Int)) = true then some (LR.ret false) else if decide (List.getD v5 (Int.toNat v7) (0 : Int) > (9 : Int)) = true then some (LR.ret false) else f_impl_areDigits_0 k v5 v6 (wrap64 (v7 + (1 : Int))) else none else none else some (LR.go ())
noncomputable def f_impl_areDigits_0i : Spec := { objs := [OSh.ro], tmps := [((5 : Nat), TSh.at (Sh.snap (0 : Nat) (Ty.int IntKind.i64))), ((6 : Nat), TSh.at (Sh.int IntKind.i64)), ((7 : Nat), TSh.at (Sh.int IntKind.i64))] }
noncomputable def f_impl_areDigits_0o : Spec := { objs := [OSh.ro], tmps := [] }
noncomputable def f_impl_areDigits_0D : LoopDef (Tup r_impl_areDigits × OutD) := .rets f_impl_areDigits_0i f_impl_areDigits_0o (Unit) (Bool) (fun k x => f_impl_areDigits_0 k x.2.1 x.2.2.1 x.2.2.2.1) (fun z => (((), ()), (()))) (fun y => ()) (fun _ => rfl) to_impl_areDigits of_impl_areDigits to_of_impl_areDigits
noncomputable def f_impl_areDigits : Nat → List Int → Option Bool
  | 0, _ => none
  | k + 1, p0 =>
    Option.bind (f_impl_areDigits_0 k p0 (↑(List.length p0) : Int) (0 : Int)) fun z0 => LR.on z0 (fun y0 => some true) fun r0 => some r0
noncomputable def d_impl_areDigits : FnDef := .of q_impl_areDigits r_impl_areDigits (Bool) (fun k x => f_impl_areDigits k x.1) to_impl_areDigits of_impl_areDigits to_of_impl_areDigits
noncomputable def c_impl_areDigits : Code := Try.f88.body.getD .skip
noncomputable def x_impl_areDigits : Ctx (Tup r_impl_areDigits × OutD) := { T := T, G := [], mvs := [], no := 0, n := 18, res := resOf T q_impl_areDigits r_impl_areDigits Try.f88.results.toList, loops := [(0, f_impl_areDigits_0D.E)], regs := [], conds := [] }
theorem g_impl_areDigits (k : Nat) : EnvOK Try.prog k x_impl_areDigits.G := (EnvOK.nil mixed)
noncomputable def f_impl_areDigits_0B : Code := (findLoop 0 c_impl_areDigits).getD .skip
theorem f_impl_areDigits_0h (k : Nat) (x : f_impl_areDigits_0i.D) : f_impl_areDigits_0D.lp (k + 1) x = loopK x_impl_areDigits f_impl_areDigits_0D 0 f_impl_areDigits_0B k x := by kernel_rfl
theorem f_impl_areDigits_0l (k : Nat) : LOK Try.prog x_impl_areDigits k f_impl_areDigits_0B := LOK.by [] (by kernel_rfl) AllOK.nil
theorem f_impl_areDigits_0z (x : f_impl_areDigits_0i.D) : f_impl_areDigits_0D.lp 0 x = none := by kernel_rfl
theorem f_impl_areDigits_0ok (k : Nat) : EOK Try.prog x_impl_areDigits k f_impl_areDigits_0D.E (.block 0 (.loop f_impl_areDigits_0B)) := loop_ok T_ok g_impl_areDigits f_impl_areDigits_0z f_impl_areDigits_0h f_impl_areDigits_0l k
theorem h_impl_areDigits (k : Nat) (x : Tup d_impl_areDigits.ps) : d_impl_areDigits.f (k + 1) x = fnK d_impl_areDigits x_impl_areDigits c_impl_areDigits k x := by kernel_rfl
theorem z_impl_areDigits (x : Tup d_impl_areDigits.ps) : d_impl_areDigits.f 0 x = none := by kernel_rfl
theorem l_impl_areDigits (k : Nat) : LOK Try.prog x_impl_areDigits k c_impl_areDigits := LOK.by [(f_impl_areDigits_0D.E, .block 0 (.loop f_impl_areDigits_0B))] (by kernel_rfl) (AllOK.cons (f_impl_areDigits_0ok k) AllOK.nil)
theorem s_impl_areDigits (k : Nat) : SoundAt Try.prog k 88 d_impl_areDigits.E := @fn_all Try.prog d_impl_areDigits x_impl_areDigits 88 Try.f88 c_impl_areDigits (by kernel_rfl) (by kernel_rfl) (by kernel_rfl) Try.func88 (by kernel_rfl) (by kernel_rfl) (by kernel_rfl) T_ok g_impl_areDigits l_impl_areDigits z_impl_areDigits h_impl_areDigits k
/-! function 89 -/
noncomputable def r_spec_voPower : List PK := [{ t := Ty.int IntKind.i64 }]
noncomputable def q_spec_voPower : List PK := [{ t := Ty.int IntKind.i64 }, { t := Ty.int IntKind.i64 }]
noncomputable def to_spec_voPower (r : Int) : Tup r_spec_voPower × OutD := ((r, ()), none)
noncomputable def of_spec_voPower : Tup r_spec_voPower × OutD → Option (Int)
  | (a, none) => some (a.1)
  | _ => none
theorem to_of_spec_voPower : ∀ b r, of_spec_voPower b = some r → to_spec_voPower r = b := by
  rintro ⟨a, o⟩ r h
  cases o with
  | none => injection h with h; subst h; rfl
  | some _ => cases h
noncomputable def f_spec_voPower_0 : Nat → Int → Int → Int → Option Int
  | 0, _, _, _ => none
  | k + 1, v0, v1, v5 =>
    if decide (v1 > (0 : Int)) = true then f_spec_voPower_0 k v0 (wrap64 (v1 - (1 : Int))) (wrap64 (v5 * v0)) else some v5
noncomputable def f_spec_voPower_0i : Spec := { objs := [OSh.ro], tmps := [((0 : Nat), TSh.at (Sh.int IntKind.i64)), ((1 : Nat), TSh.at (Sh.int IntKind.i64)), ((5 : Nat), TSh.at (Sh.int IntKind.i64))] }
noncomputable def f_spec_voPower_0o : Spec := { objs := [OSh.ro], tmps := [((5 : Nat), TSh.at (Sh.int IntKind.i64))] }
noncomputable def f_spec_voPower_0D : LoopDef (Tup r_spec_voPower × OutD) := .plain f_spec_voPower_0i f_spec_voPower_0o (Int) (fun k x => f_spec_voPower_0 k x.2.1 x.2.2.1 x.2.2.2.1) (fun z => (((), ()), (z, ()))) (fun y => (y.2.1)) (fun _ => rfl)
noncomputable def f_spec_voPower : Nat → Int → Int → Option Int
  | 0, _, _ => none
  | k + 1, p0, p1 =>
    Option.bind (f_spec_voPower_0 k p0 p1 (1 : Int)) fun z0 => some z0
noncomputable def d_spec_voPower : FnDef := .of q_spec_voPower r_spec_voPower (Int) (fun k x => f_spec_voPower k x.1 x.2.1) to_spec_voPower of_spec_voPower to_of_spec_voPower
noncomputable def c_spec_voPower : Code := Try.f89.body.getD .skip
noncomputable def x_spec_voPower : Ctx (Tup r_spec_voPower × OutD) := { T := T, G := [], mvs := [], no := 0, n := 14, res := resOf T q_spec_voPower r_spec_voPower Try.f89.results.toList, loops := [(0, f_spec_voPower_0D.E)], regs := [], conds := [] }
theorem g_spec_voPower (k : Nat) : EnvOK Try.prog k x_spec_voPower.G := (EnvOK.nil mixed)
noncomputable def f_spec_voPower_0B : Code := (findLoop 0 c_spec_voPower).getD .skip
theorem f_spec_voPower_0h (k : Nat) (x : f_spec_voPower_0i.D) : f_spec_voPower_0D.lp (k + 1) x = loopK x_spec_voPower f_spec_voPower_0D 0 f_spec_voPower_0B k x := by kernel_rfl
theorem f_spec_voPower_0l (k : Nat) : LOK Try.prog x_spec_voPower k f_spec_voPower_0B := LOK.by [] (by kernel_rfl) AllOK.nil
theorem f_spec_voPower_0z (x : f_spec_voPower_0i.D) : f_spec_voPower_0D.lp 0 x = none := by kernel_rfl
theorem f_spec_voPower_0ok (k : Nat) : EOK Try.prog x_spec_voPower k f_spec_voPower_0D.E (.block 0 (.loop f_spec_voPower_0B)) := loop_ok T_ok g_spec_voPower f_spec_voPower_0z f_spec_voPower_0h f_spec_voPower_0l k
theorem h_spec_voPower (k : Nat) (x : Tup d_spec_voPower.ps) : d_spec_voPower.f (k + 1) x = fnK d_spec_voPower x_spec_voPower c_spec_voPower k x := by kernel_rfl
theorem z_spec_voPower (x : Tup d_spec_voPower.ps) : d_spec_voPower.f 0 x = none := by kernel_rfl
theorem l_spec_voPower (k : Nat) : LOK Try.prog x_spec_voPower k c_spec_voPower := LOK.by [(f_spec_voPower_0D.E, .block 0 (.loop f_spec_voPower_0B))] (by kernel_rfl) (AllOK.cons (f_spec_voPower_0ok k) AllOK.nil)
theorem s_spec_voPower (k : Nat) : SoundAt Try.prog k 89 d_spec_voPower.E := @fn_all Try.prog d_spec_voPower x_spec_voPower 89 Try.f89 c_spec_voPower (by kernel_rfl) (by kernel_rfl) (by kernel_rfl) Try.func89 (by kernel_rfl) (by kernel_rfl) (by kernel_rfl) T_ok g_spec_voPower l_spec_voPower z_spec_voPower h_spec_voPower k
/-! function 91 -/
noncomputable def r_slices_Index_int_int : List PK := [{ t := Ty.int IntKind.i64 }]
noncomputable def q_slices_Index_int_int : List PK := [{ t := Ty.slice (3 : Nat) (Ty.int IntKind.i64) }, { t := Ty.int IntKind.i64 }]
noncomputable def to_slices_Index_int_int (r : Int) : Tup r_slices_Index_int_int × OutD := ((r, ()), none)
noncomputable def of_slices_Index_int_int : Tup r_slices_Index_int_int × OutD → Option (Int)
  | (a, none) => some (a.1)
  | _ => none
theorem to_of_slices_Index_int_int : ∀ b r, of_slices_Index_int_int b = some r → to_slices_Index_int_int r = b := by
  rintro ⟨a, o⟩ r h
  cases o with
  | none => injection h with h; subst h; rfl
  | some _ => cases h
noncomputable def f_slices_Index_int_int_0 : Nat → List Int → Int → Int → Int → Option (LR Unit Int)
  | 0, _, _, _, _ => none
  | k + 1, v0, v1, v7, v8 =>
    if decide (v8 < v7) = true then if (0 : Int) ≤ v8 then if v8 < (↑(List.length v0) : Int) then if decide (v1 = List.getD v0 (Int.toNat v8) (0 : Int)) = true then some (LR.ret v8) else f_slices_Index_int_int_0 k v0 v1 v7 (wrap64 (v8 + (1 : Int))) else none else none else some (LR.go ())
noncomputable def f_slices_Index_int_int_0i : Spec := { objs := [OSh.ro], tmps := [((0 : Nat), TSh.at (Sh.snap (0 : Nat) (Ty.int IntKind.i64))), ((1 : Nat), TSh.at (Sh.int IntKind.i64)), ((7 : Nat), TSh.at (Sh.int IntKind.i64)), ((8 : Nat), TSh.at (Sh.int IntKind.i64))] }
noncomputable def f_slices_Index_int_int_0o : Spec := { objs := [OSh.ro], tmps := [] }
noncomputable def f_slices_Index_int_int_0D : LoopDef (Tup r_slices_Index_int_int × OutD) := .rets f_slices_Index_int_int_0i f_slices_Index_int_int_0o (Unit) (Int) (fun k x => f_slices_Index_int_int_0 k x.2.1 x.2.2.1 x.2.2.2.1 x.2.2.2.2.1) (fun z => (((), ()), (()))) (fun y => ()) (fun _ => rfl) to_slices_Index_int_int of_slices_Index_int_int to_of_slices_Index_int_int
noncomputable def f_slices_Index_int_int : Nat → List Int → Int → Option Int
  | 0, _, _ => none
  | k + 1, p0, p1 =>
    Option.bind (f_slices_Index_int_int_0 k p0 p1 (↑(List.length p0) : Int) (0 : Int)) fun z0 => LR.on z0 (fun y0 => some (-1 : Int)) fun r0 => some r0
noncomputable def d_slices_Index_int_int : FnDef := .of q_slices_Index_int_int r_slices_Index_int_int (Int) (fun k x => f_slices_Index_int_int k x.1 x.2.1) to_slices_Index_int_int of_slices_Index_int_int to_of_slices_Index_int_int
noncomputable def c_slices_Index_int_int : Code := Try.f91.body.getD .skip
noncomputable def x_slices_Index_int_int : Ctx (Tup r_slices_Index_int_int × OutD) := { T := T, G := [], mvs := [], no := 0, n := 19, res := resOf T q_slices_Index_int_int r_slices_Index_int_int Try.f91.results.toList, loops := [(0, f_slices_Index_int_int_0D.E)], regs := [], conds := [] }
theorem g_slices_Index_int_int (k : Nat) : EnvOK Try.prog k x_slices_Index_int_int.G := (EnvOK.nil mixed)
noncomputable def f_slices_Index_int_int_0B : Code := (findLoop 0 c_slices_Index_int_int).getD .skip
theorem f_slices_Index_int_int_0h (k : Nat) (x : f_slices_Index_int_int_0i.D) : f_slices_Index_int_int_0D.lp (k + 1) x = loopK x_slices_Index_int_int f_slices_Index_int_int_0D 0 f_slices_Index_int_int_0B k x := by kernel_rfl
theorem f_slices_Index_int_int_0l (k : Nat) : LOK Try.prog x_slices_Index_int_int k f_slices_Index_int_int_0B := LOK.by [] (by kernel_rfl) AllOK.nil
theorem f_slices_Index_int_int_0z (x : f_slices_Index_int_int_0i.D) : f_slices_Index_int_int_0D.lp 0 x = none := by kernel_rfl
theorem f_slices_Index_int_int_0ok (k : Nat) : EOK Try.prog x_slices_Index_int_int k f_slices_Index_int_int_0D.E (.block 0 (.loop f_slices_Index_int_int_0B)) := loop_ok T_ok g_slices_Index_int_int f_slices_Index_int_int_0z f_slices_Index_int_int_0h f_slices_Index_int_int_0l k
theorem h_slices_Index_int_int (k : Nat) (x : Tup d_slices_Index_int_int.ps) : d_slices_Index_int_int.f (k + 1) x = fnK d_slices_Index_int_int x_slices_Index_int_int c_slices_Index_int_int k x := by kernel_rfl
theorem z_slices_Index_int_int (x : Tup d_slices_Index_int_int.ps) : d_slices_Index_int_int.f 0 x = none := by kernel_rfl
theorem l_slices_Index_int_int (k : Nat) : LOK Try.prog x_slices_Index_int_int k c_slices_Index_int_int := LOK.by [(f_slices_Index_int_int_0D.E, .block 0 (.loop f_slices_Index_int_int_0B))] (by kernel_rfl) (AllOK.cons (f_slices_Index_int_int_0ok k) AllOK.nil)
theorem s_slices_Index_int_int (k : Nat) : SoundAt Try.prog k 91 d_slices_Index_int_int.E := @fn_all Try.prog d_slices_Index_int_int x_slices_Index_int_int 91 Try.f91 c_slices_Index_int_int (by kernel_rfl) (by kernel_rfl) (by kernel_rfl) Try.func91 (by kernel_rfl) (by kernel_rfl) (by kernel_rfl) T_ok g_slices_Index_int_int l_slices_Index_int_int z_slices_Index_int_int h_slices_Index_int_int k
/-! function 93 -/
noncomputable def r_spec_psSame : List PK := [{ t := Ty.int IntKind.i64 }]
noncomputable def q_spec_psSame : List PK := [{ t := Ty.pair (Ty.slice (3 : Nat) (Ty.int IntKind.i64)) (Ty.slice (81 : Nat) (Ty.pair (Ty.int IntKind.i64) (Ty.pair (Ty.int IntKind.i64) (Ty.pair (Ty.int IntKind.i64) (Ty.int IntKind.i64))))), agg := true }, { t := Ty.pair (Ty.int IntKind.i64) (Ty.pair (Ty.int IntKind.i64) (Ty.pair (Ty.int IntKind.i64) (Ty.int IntKind.i64))), agg := true }]
noncomputable def to_spec_psSame (r : Int) : Tup r_spec_psSame × OutD := ((r, ()), none)
noncomputable def of_spec_psSame : Tup r_spec_psSame × OutD → Option (Int)
  | (a, none) => some (a.1)
  | _ => none
theorem to_of_spec_psSame : ∀ b r, of_spec_psSame b = some r → to_spec_psSame r = b := by
  rintro ⟨a, o⟩ r h
  cases o with
  | none => injection h with h; subst h; rfl
  | some _ => cases h
noncomputable def f_spec_psSame_0 : Nat → Int → Int → Int → Int → List (Int × Int × Int × Int) → Int → Int → Option (LR Unit Int)
  | 0, _, _, _, _, _, _, _ => none
  | k + 1, b1_0, b1_1, b1_2, b1_3, v8, v9, v10 =>
    if decide (v10 < v9) = true then if (0 : Int) ≤ v10 then if v10 < (↑(List.length v8) : Int) then if decide (Prod.fst (List.getD v8 (Int.toNat v10) ((0 : Int), (0 : Int), (0 : Int), (0 : Int))) = b1_0) = true then if decide (Prod.fst (Prod.snd (List.getD v8 (Int.toNat v10) ((0 : Int), (0 : Int), (0 : Int), (0 : Int)))) = b1_1) = true then if decide (Prod.snd (Prod.snd (Prod.snd (List.getD v8 (Int.toNat v10) ((0 : Int), (0 : Int), (0 : Int), (0 : Int))))) = b1_3) = true then some (LR.ret v10) else f_spec_psSame_0 k b1_0 b1_1 b1_2 b1_3 v8 v9 (wrap64 (v10 + (1 : Int))) else f_spec_psSame_0 k b1_0 b1_1 b1_2 b1_3 v8 v9 (wrap64 (v10 + (1 : Int))) else f_spec_psSame_0 k b1_0 b1_1 b1_2 b1_3 v8 v9 (wrap64 (v10 + (1 : Int))) else none else none else some (LR.go ())
noncomputable def f_spec_psSame_0i : Spec := { objs := [OSh.ro, OSh.box (81 : Nat) [Sh.int IntKind.i64, Sh.int IntKind.i64, Sh.int IntKind.i64, Sh.int IntKind.i64]], tmps := [((3 : Nat), TSh.at (Sh.ptr (1 : Nat) (0 : Nat))), ((8 : Nat), TSh.at (Sh.snap (0 : Nat) (Ty.pair (Ty.int IntKind.i64) (Ty.pair (Ty.int IntKind.i64) (Ty.pair (Ty.int IntKind.i64) (Ty.int IntKind.i64)))))), ((9 : Nat), TSh.at (Sh.int IntKind.i64)), ((10 : Nat), TSh.at (Sh.int IntKind.i64))] }
noncomputable def f_spec_psSame_0o : Spec := { objs := [OSh.ro], tmps := [] }
noncomputable def f_spec_psSame_0D : LoopDef (Tup r_spec_psSame × OutD) := .rets f_spec_psSame_0i f_spec_psSame_0o (Unit) (Int) (fun k x => f_spec_psSame_0 k x.1.2.1.1 x.1.2.1.2.1 x.1.2.1.2.2.1 x.1.2.1.2.2.2.1 x.2.2.1 x.2.2.2.1 x.2.2.2.2.1) (fun z => (((), ()), (()))) (fun y => ()) (fun _ => rfl) to_spec_psSame of_spec_psSame to_of_spec_psSame
noncomputable def f_spec_psSame : Nat → List Int × List (Int × Int × Int × Int) → Int × Int × Int × Int → Option Int
  | 0, _, _ => none
  | k + 1, p0, p1 =>
    Option.bind (f_spec_psSame_0 k (Prod.fst p1) (Prod.fst (Prod.snd p1)) (Prod.fst (Prod.snd (Prod.snd p1))) (Prod.snd (Prod.snd (Prod.snd p1))) (Prod.snd p0) (↑(List.length (Prod.snd p0)) : Int) (0 : Int)) fun z0 => LR.on z0 (fun y0 => some (-1 : Int)) fun r0 => some r0
noncomputable def d_spec_psSame : FnDef := .of q_spec_psSame r_spec_psSame (Int) (fun k x => f_spec_psSame k x.1 x.2.1) to_spec_psSame of_spec_psSame to_of_spec_psSame
noncomputable def c_spec_psSame : Code := Try.f93.body.getD .skip
noncomputable def x_spec_psSame : Ctx (Tup r_spec_psSame × OutD) := { T := T, G := [], mvs := [], no := 0, n := 36, res := resOf T q_spec_psSame r_spec_psSame Try.f93.results.toList, loops := [(0, f_spec_psSame_0D.E)], regs := [], conds := [] }
theorem g_spec_psSame (k : Nat) : EnvOK Try.prog k x_spec_psSame.G := (EnvOK.nil mixed)
noncomputable def f_spec_psSame_0B : Code := (findLoop 0 c_spec_psSame).getD .skip
theorem f_spec_psSame_0h (k : Nat) (x : f_spec_psSame_0i.D) : f_spec_psSame_0D.lp (k + 1) x = loopK x_spec_psSame f_spec_psSame_0D 0 f_spec_psSame_0B k x := by kernel_rfl
theorem f_spec_psSame_0l (k : Nat) : LOK Try.prog x_spec_psSame k f_spec_psSame_0B := LOK.by [] (by kernel_rfl) AllOK.nil
theorem f_spec_psSame_0z (x : f_spec_psSame_0i.D) : f_spec_psSame_0D.lp 0 x = none := by kernel_rfl
theorem f_spec_psSame_0ok (k : Nat) : EOK Try.prog x_spec_psSame k f_spec_psSame_0D.E (.block 0 (.loop f_spec_psSame_0B)) := loop_ok T_ok g_spec_psSame f_spec_psSame_0z f_spec_psSame_0h f_spec_psSame_0l k
theorem h_spec_psSame (k : Nat) (x : Tup d_spec_psSame.ps) : d_spec_psSame.f (k + 1) x = fnK d_spec_psSame x_spec_psSame c_spec_psSame k x := by kernel_rfl
theorem z_spec_psSame (x : Tup d_spec_psSame.ps) : d_spec_psSame.f 0 x = none := by kernel_rfl
theorem l_spec_psSame (k : Nat) : LOK Try.prog x_spec_psSame k c_spec_psSame := LOK.by [(f_spec_psSame_0D.E, .block 0 (.loop f_spec_psSame_0B))] (by kernel_rfl) (AllOK.cons (f_spec_psSame_0ok k) AllOK.nil)
theorem s_spec_psSame (k : Nat) : SoundAt Try.prog k 93 d_spec_psSame.E := @fn_all Try.prog d_spec_psSame x_spec_psSame 93 Try.f93 c_spec_psSame (by kernel_rfl) (by kernel_rfl) (by kernel_rfl) Try.func93 (by kernel_rfl) (by kernel_rfl) (by kernel_rfl) T_ok g_spec_psSame l_spec_psSame z_spec_psSame h_spec_psSame k
/-! function 94 -/
noncomputable def r_laws_toLoan : List PK := [{ t := Ty.pair (Ty.int IntKind.i64) (Ty.pair (Ty.int IntKind.i64) (Ty.pair (Ty.int IntKind.i64) (Ty.int IntKind.i64))), agg := true }]
noncomputable def q_laws_toLoan : List PK := [{ t := Ty.pair (Ty.int IntKind.i64) (Ty.pair (Ty.int IntKind.i64) (Ty.pair (Ty.int IntKind.i64) (Ty.int IntKind.i64))), agg := true }]
noncomputable def to_laws_toLoan (r : Int × Int × Int × Int) : Tup r_laws_toLoan × OutD := ((r, ()), none)
noncomputable def of_laws_toLoan : Tup r_laws_toLoan × OutD → Option (Int × Int × Int × Int)
  | (a, none) => some (a.1)
  | _ => none
theorem to_of_laws_toLoan : ∀ b r, of_laws_toLoan b = some r → to_laws_toLoan r = b := by
  rintro ⟨a, o⟩ r h
  cases o with
  | none => injection h with h; subst h; rfl
  | some _ => cases h
noncomputable def f_laws_toLoan : Nat → Int × Int × Int × Int → Option (Int × Int × Int × Int)
  | 0, _ => none
  | k + 1, p0 =>
    some (Prod.fst p0, Prod.fst (Prod.snd p0), Prod.fst (Prod.snd (Prod.snd p0)), Prod.snd (Prod.snd (Prod.snd p0)))
noncomputable def d_laws_toLoan : FnDef := .of q_laws_toLoan r_laws_toLoan (Int × Int × Int × Int) (fun k x => f_laws_toLoan k x.1) to_laws_toLoan of_laws_toLoan to_of_laws_toLoan
noncomputable def c_laws_toLoan : Code := Try.f94.body.getD .skip
noncomputable def x_laws_toLoan : Ctx (Tup r_laws_toLoan × OutD) := { T := T, G := [], mvs := [], no := 0, n := 17, res := resOf T q_laws_toLoan r_laws_toLoan Try.f94.results.toList, loops := [], regs := [], conds := [] }
theorem g_laws_toLoan (k : Nat) : EnvOK Try.prog k x_laws_toLoan.G := (EnvOK.nil mixed)
theorem h_laws_toLoan (k : Nat) (x : Tup d_laws_toLoan.ps) : d_laws_toLoan.f (k + 1) x = fnK d_laws_toLoan x_laws_toLoan c_laws_toLoan k x := by kernel_rfl
theorem z_laws_toLoan (x : Tup d_laws_toLoan.ps) : d_laws_toLoan.f 0 x = none := by kernel_rfl
theorem l_laws_toLoan (k : Nat) : LOK Try.prog x_laws_toLoan k c_laws_toLoan := LOK.by [] (by kernel_rfl) AllOK.nil
theorem s_laws_toLoan (k : Nat) : SoundAt Try.prog k 94 d_laws_toLoan.E := @fn_all Try.prog d_laws_toLoan x_laws_toLoan 94 Try.f94 c_laws_toLoan (by kernel_rfl) (by kernel_rfl) (by kernel_rfl) Try.func94 (by kernel_rfl) (by kernel_rfl) (by kernel_rfl) T_ok g_laws_toLoan l_laws_toLoan z_laws_toLoan h_laws_toLoan k
/-! function 95 -/
noncomputable def r_impl_isDay : List PK := [{ t := Ty.bool }]
noncomputable def q_impl_isDay : List PK := [{ t := Ty.int IntKind.i64 }]
noncomputable def to_impl_isDay (r : Bool) : Tup r_impl_isDay × OutD := ((r, ()), none)
noncomputable def of_impl_isDay : Tup r_impl_isDay × OutD → Option (Bool)
  | (a, none) => some (a.1)
  | _ => none
theorem to_of_impl_isDay : ∀ b r, of_impl_isDay b = some r → to_impl_isDay r = b := by
  rintro ⟨a, o⟩ r h
  cases o with
  | none => injection h with h; subst h; rfl
  | some _ => cases h
noncomputable def f_impl_isDay : Nat → Int → Option Bool
  | 0, _ => none
  | k + 1, p0 =>
    if decide (p0 ≥ (0 : Int)) = true then some (decide (p0 ≤ (999 : Int))) else some false
noncomputable def d_impl_isDay : FnDef := .of q_impl_isDay r_impl_isDay (Bool) (fun k x => f_impl_isDay k x.1) to_impl_isDay of_impl_isDay to_of_impl_isDay
noncomputable def c_impl_isDay : Code := Try.f95.body.getD .skip
noncomputable def x_impl_isDay : Ctx (Tup r_impl_isDay × OutD) := { T := T, G := [], mvs := [], no := 0, n := 9, res := resOf T q_impl_isDay r_impl_isDay Try.f95.results.toList, loops := [], regs := [], conds := [] }
theorem g_impl_isDay (k : Nat) : EnvOK Try.prog k x_impl_isDay.G := (EnvOK.nil mixed)
theorem h_impl_isDay (k : Nat) (x : Tup d_impl_isDay.ps) : d_impl_isDay.f (k + 1) x = fnK d_impl_isDay x_impl_isDay c_impl_isDay k x := by kernel_rfl
theorem z_impl_isDay (x : Tup d_impl_isDay.ps) : d_impl_isDay.f 0 x = none := by kernel_rfl
theorem l_impl_isDay (k : Nat) : LOK Try.prog x_impl_isDay k c_impl_isDay := LOK.by [] (by kernel_rfl) AllOK.nil
theorem s_impl_isDay (k : Nat) : SoundAt Try.prog k 95 d_impl_isDay.E := @fn_all Try.prog d_impl_isDay x_impl_isDay 95 Try.f95 c_impl_isDay (by kernel_rfl) (by kernel_rfl) (by kernel_rfl) Try.func95 (by kernel_rfl) (by kernel_rfl) (by kernel_rfl) T_ok g_impl_isDay l_impl_isDay z_impl_isDay h_impl_isDay k
/-! function 96 -/
noncomputable def r_laws_eqLoan : List PK := [{ t := Ty.bool }]
noncomputable def q_laws_eqLoan : List PK := [{ t := Ty.pair (Ty.int IntKind.i64) (Ty.pair (Ty.int IntKind.i64) (Ty.pair (Ty.int IntKind.i64) (Ty.int IntKind.i64))), agg := true }, { t := Ty.pair (Ty.int IntKind.i64) (Ty.pair (Ty.int IntKind.i64) (Ty.pair (Ty.int IntKind.i64) (Ty.int IntKind.i64))), agg := true }]
noncomputable def to_laws_eqLoan (r : Bool) : Tup r_laws_eqLoan × OutD := ((r, ()), none)
noncomputable def of_laws_eqLoan : Tup r_laws_eqLoan × OutD → Option (Bool)
  | (a, none) => some (a.1)
  | _ => none
theorem to_of_laws_eqLoan : ∀ b r, of_laws_eqLoan b = some r → to_laws_eqLoan r = b := by
  rintro ⟨a, o⟩ r h
  cases o with
  | none => injection h with h; subst h; rfl
  | some _ => cases h
noncomputable def f_laws_eqLoan : Nat → Int × Int × Int × Int → Int × Int × Int × Int → Option Bool
  | 0, _, _ => none
  | k + 1, p0, p1 =>
    if decide (Prod.fst p0 ≠ Prod.fst p1) = true then some false else if decide (Prod.fst (Prod.snd p0) ≠ Prod.fst (Prod.snd p1)) = true then some false else if decide (Prod.fst (Prod.snd (Prod.snd p0)) ≠ Prod.fst (Prod.snd (Prod.snd p1))) = true then some false else if decide (Prod.snd (Prod.snd (Prod.snd p0)) ≠ Prod.snd (Prod.snd (Prod.snd p1))) = true then some false else some true
noncomputable def d_laws_eqLoan : FnDef := .of q_laws_eqLoan r_laws_eqLoan (Bool) (fun k x => f_laws_eqLoan k x.1 x.2.1) to_laws_eqLoan of_laws_eqLoan to_of_laws_eqLoan
noncomputable def c_laws_eqLoan : Code := Try.f96.body.getD .skip
noncomputable def x_laws_eqLoan : Ctx (Tup r_laws_eqLoan × OutD) := { T := T, G := [], mvs := [], no := 0, n := 25, res := resOf T q_laws_eqLoan r_laws_eqLoan Try.f96.results.toList, loops := [], regs := [], conds := [] }
theorem g_laws_eqLoan (k : Nat) : EnvOK Try.prog k x_laws_eqLoan.G := (EnvOK.nil mixed)
theorem h_laws_eqLoan (k : Nat) (x : Tup d_laws_eqLoan.ps) : d_laws_eqLoan.f (k + 1) x = fnK d_laws_eqLoan x_laws_eqLoan c_laws_eqLoan k x := by kernel_rfl
theorem z_laws_eqLoan (x : Tup d_laws_eqLoan.ps) : d_laws_eqLoan.f 0 x = none := by kernel_rfl
theorem l_laws_eqLoan (k : Nat) : LOK Try.prog x_laws_eqLoan k c_laws_eqLoan := LOK.by [] (by kernel_rfl) AllOK.nil
theorem s_laws_eqLoan (k : Nat) : SoundAt Try.prog k 96 d_laws_eqLoan.E := @fn_all Try.prog d_laws_eqLoan x_laws_eqLoan 96 Try.f96 c_laws_eqLoan (by kernel_rfl) (by kernel_rfl) (by kernel_rfl) Try.func96 (by kernel_rfl) (by kernel_rfl) (by kernel_rfl) T_ok g_laws_eqLoan l_laws_eqLoan z_laws_eqLoan h_laws_eqLoan k
/-! function 98 -/
noncomputable def r_laws_toCell : List PK := [{ t := Ty.pair (Ty.int IntKind.i64) (Ty.int IntKind.i64), agg := true }]
noncomputable def q_laws_toCell : List PK := [{ t := Ty.pair (Ty.int IntKind.i64) (Ty.int IntKind.i64), agg := true }]
noncomputable def to_laws_toCell (r : Int × Int) : Tup r_laws_toCell × OutD := ((r, ()), none)
noncomputable def of_laws_toCell : Tup r_laws_toCell × OutD → Option (Int × Int)
  | (a, none) => some (a.1)
  | _ => none
theorem to_of_laws_toCell : ∀ b r, of_laws_toCell b = some r → to_laws_toCell r = b := by
  rintro ⟨a, o⟩ r h
  cases o with
  | none => injection h with h; subst h; rfl
  | some _ => cases h
noncomputable def f_laws_toCell : Nat → Int × Int → Option (Int × Int)
  | 0, _ => none
  | k + 1, p0 =>
    some (Prod.fst p0, Prod.snd p0)
noncomputable def d_laws_toCell : FnDef := .of q_laws_toCell r_laws_toCell (Int × Int) (fun k x => f_laws_toCell k x.1) to_laws_toCell of_laws_toCell to_of_laws_toCell
noncomputable def c_laws_toCell : Code := Try.f98.body.getD .skip
noncomputable def x_laws_toCell : Ctx (Tup r_laws_toCell × OutD) := { T := T, G := [], mvs := [], no := 0, n := 11, res := resOf T q_laws_toCell r_laws_toCell Try.f98.results.toList, loops := [], regs := [], conds := [] }
theorem g_laws_toCell (k : Nat) : EnvOK Try.prog k x_laws_toCell.G := (EnvOK.nil mixed)
theorem h_laws_toCell (k : Nat) (x : Tup d_laws_toCell.ps) : d_laws_toCell.f (k + 1) x = fnK d_laws_toCell x_laws_toCell c_laws_toCell k x := by kernel_rfl
theorem z_laws_toCell (x : Tup d_laws_toCell.ps) : d_laws_toCell.f 0 x = none := by kernel_rfl
theorem l_laws_toCell (k : Nat) : LOK Try.prog x_laws_toCell k c_laws_toCell := LOK.by [] (by kernel_rfl) AllOK.nil
theorem s_laws_toCell (k : Nat) : SoundAt Try.prog k 98 d_laws_toCell.E := @fn_all Try.prog d_laws_toCell x_laws_toCell 98 Try.f98 c_laws_toCell (by kernel_rfl) (by kernel_rfl) (by kernel_rfl) Try.func98 (by kernel_rfl) (by kernel_rfl) (by kernel_rfl) T_ok g_laws_toCell l_laws_toCell z_laws_toCell h_laws_toCell k
/-! function 101 -/
noncomputable def r_laws_eqCell : List PK := [{ t := Ty.bool }]
noncomputable def q_laws_eqCell : List PK := [{ t := Ty.pair (Ty.int IntKind.i64) (Ty.int IntKind.i64), agg := true }, { t := Ty.pair (Ty.int IntKind.i64) (Ty.int IntKind.i64), agg := true }]
noncomputable def to_laws_eqCell (r : Bool) : Tup r_laws_eqCell × OutD := ((r, ()), none)
noncomputable def of_laws_eqCell : Tup r_laws_eqCell × OutD → Option (Bool)
  | (a, none) => some (a.1)
  | _ => none
theorem to_of_laws_eqCell : ∀ b r, of_laws_eqCell b = some r → to_laws_eqCell r = b := by
  rintro ⟨a, o⟩ r h
  cases o with
  | none => injection h with h; subst h; rfl
  | some _ => cases h
noncomputable def f_laws_eqCell : Nat → Int × Int → Int × Int → Option Bool
  | 0, _, _ => none
  | k + 1, p0, p1 =>
    if decide (Prod.fst p0 ≠ Prod.fst p1) = true then some false else if decide (Prod.snd p0 ≠ Prod.snd p1) = true then some false else some true
noncomputable def d_laws_eqCell : FnDef := .of q_laws_eqCell r_laws_eqCell (Bool) (fun k x => f_laws_eqCell k x.1 x.2.1) to_laws_eqCell of_laws_eqCell to_of_laws_eqCell
noncomputable def c_laws_eqCell : Code := Try.f101.body.getD .skip
noncomputable def x_laws_eqCell : Ctx (Tup r_laws_eqCell × OutD) := { T := T, G := [], mvs := [], no := 0, n := 15, res := resOf T q_laws_eqCell r_laws_eqCell Try.f101.results.toList, loops := [], regs := [], conds := [] }
theorem g_laws_eqCell (k : Nat) : EnvOK Try.prog k x_laws_eqCell.G := (EnvOK.nil mixed)
theorem h_laws_eqCell (k : Nat) (x : Tup d_laws_eqCell.ps) : d_laws_eqCell.f (k + 1) x = fnK d_laws_eqCell x_laws_eqCell c_laws_eqCell k x := by kernel_rfl
theorem z_laws_eqCell (x : Tup d_laws_eqCell.ps) : d_laws_eqCell.f 0 x = none := by kernel_rfl
theorem l_laws_eqCell (k : Nat) : LOK Try.prog x_laws_eqCell k c_laws_eqCell := LOK.by [] (by kernel_rfl) AllOK.nil
theorem s_laws_eqCell (k : Nat) : SoundAt Try.prog k 101 d_laws_eqCell.E := @fn_all Try.prog d_laws_eqCell x_laws_eqCell 101 Try.f101 c_laws_eqCell (by kernel_rfl) (by kernel_rfl) (by kernel_rfl) Try.func101 (by kernel_rfl) (by kernel_rfl) (by kernel_rfl) T_ok g_laws_eqCell l_laws_eqCell z_laws_eqCell h_laws_eqCell k
/-! function 104 -/
noncomputable def r_impl_IsCell : List PK := [{ t := Ty.bool }]
noncomputable def q_impl_IsCell : List PK := [{ t := Ty.pair (Ty.int IntKind.i64) (Ty.int IntKind.i64), agg := true }]
noncomputable def to_impl_IsCell (r : Bool) : Tup r_impl_IsCell × OutD := ((r, ()), none)
noncomputable def of_impl_IsCell : Tup r_impl_IsCell × OutD → Option (Bool)
  | (a, none) => some (a.1)
  | _ => none
theorem to_of_impl_IsCell : ∀ b r, of_impl_IsCell b = some r → to_impl_IsCell r = b := by
  rintro ⟨a, o⟩ r h
  cases o with
  | none => injection h with h; subst h; rfl
  | some _ => cases h
noncomputable def f_impl_IsCell : Nat → Int × Int → Option Bool
  | 0, _ => none
  | k + 1, p0 =>
    if decide (Prod.fst p0 < (0 : Int)) = true then some false else if decide (Prod.fst p0 > (7 : Int)) = true then some false else if decide (Prod.snd p0 < (0 : Int)) = true then some false else if decide (Prod.snd p0 > (1 : Int)) = true then some false else if decide (Prod.snd p0 = (0 : Int)) = true then some true else if decide (Prod.fst p0 = (3 : Int)) = true then some true else some (decide (Prod.fst p0 = (6 : Int)))
noncomputable def d_impl_IsCell : FnDef := .of q_impl_IsCell r_impl_IsCell (Bool) (fun k x => f_impl_IsCell k x.1) to_impl_IsCell of_impl_IsCell to_of_impl_IsCell
noncomputable def c_impl_IsCell : Code := Try.f104.body.getD .skip
noncomputable def x_impl_IsCell : Ctx (Tup r_impl_IsCell × OutD) := { T := T, G := [], mvs := [], no := 0, n := 34, res := resOf T q_impl_IsCell r_impl_IsCell Try.f104.results.toList, loops := [], regs := [], conds := [] }
theorem g_impl_IsCell (k : Nat) : EnvOK Try.prog k x_impl_IsCell.G := (EnvOK.nil mixed)
theorem h_impl_IsCell (k : Nat) (x : Tup d_impl_IsCell.ps) : d_impl_IsCell.f (k + 1) x = fnK d_impl_IsCell x_impl_IsCell c_impl_IsCell k x := by kernel_rfl
theorem z_impl_IsCell (x : Tup d_impl_IsCell.ps) : d_impl_IsCell.f 0 x = none := by kernel_rfl
theorem l_impl_IsCell (k : Nat) : LOK Try.prog x_impl_IsCell k c_impl_IsCell := LOK.by [] (by kernel_rfl) AllOK.nil
theorem s_impl_IsCell (k : Nat) : SoundAt Try.prog k 104 d_impl_IsCell.E := @fn_all Try.prog d_impl_IsCell x_impl_IsCell 104 Try.f104 c_impl_IsCell (by kernel_rfl) (by kernel_rfl) (by kernel_rfl) Try.func104 (by kernel_rfl) (by kernel_rfl) (by kernel_rfl) T_ok g_impl_IsCell l_impl_IsCell z_impl_IsCell h_impl_IsCell k
/-! function 105 -/
noncomputable def r_spec_paTurning : List PK := [{ t := Ty.bool }]
noncomputable def q_spec_paTurning : List PK := [{ t := Ty.pair (Ty.int IntKind.i64) (Ty.int IntKind.i64), agg := true }]
noncomputable def to_spec_paTurning (r : Bool) : Tup r_spec_paTurning × OutD := ((r, ()), none)
noncomputable def of_spec_paTurning : Tup r_spec_paTurning × OutD → Option (Bool)
  | (a, none) => some (a.1)
  | _ => none
theorem to_of_spec_paTurning : ∀ b r, of_spec_paTurning b = some r → to_spec_paTurning r = b := by
  rintro ⟨a, o⟩ r h
  cases o with
  | none => injection h with h; subst h; rfl
  | some _ => cases h
noncomputable def f_spec_paTurning : Nat → Int × Int → Option Bool
  | 0, _ => none
  | k + 1, p0 =>
    if decide (Prod.fst p0 = (3 : Int)) = true then some true else some (decide (Prod.fst p0 = (6 : Int)))
noncomputable def d_spec_paTurning : FnDef := .of q_spec_paTurning r_spec_paTurning (Bool) (fun k x => f_spec_paTurning k x.1) to_spec_paTurning of_spec_paTurning to_of_spec_paTurning
noncomputable def c_spec_paTurning : Code := Try.f105.body.getD .skip
noncomputable def x_spec_paTurning : Ctx (Tup r_spec_paTurning × OutD) := { T := T, G := [], mvs := [], no := 0, n := 11, res := resOf T q_spec_paTurning r_spec_paTurning Try.f105.results.toList, loops := [], regs := [], conds := [] }
theorem g_spec_paTurning (k : Nat) : EnvOK Try.prog k x_spec_paTurning.G := (EnvOK.nil mixed)
theorem h_spec_paTurning (k : Nat) (x : Tup d_spec_paTurning.ps) : d_spec_paTurning.f (k + 1) x = fnK d_spec_paTurning x_spec_paTurning c_spec_paTurning k x := by kernel_rfl
theorem z_spec_paTurning (x : Tup d_spec_paTurning.ps) : d_spec_paTurning.f 0 x = none := by kernel_rfl
theorem l_spec_paTurning (k : Nat) : LOK Try.prog x_spec_paTurning k c_spec_paTurning := LOK.by [] (by kernel_rfl) AllOK.nil
theorem s_spec_paTurning (k : Nat) : SoundAt Try.prog k 105 d_spec_paTurning.E := @fn_all Try.prog d_spec_paTurning x_spec_paTurning 105 Try.f105 c_spec_paTurning (by kernel_rfl) (by kernel_rfl) (by kernel_rfl) Try.func105 (by kernel_rfl) (by kernel_rfl) (by kernel_rfl) T_ok g_spec_paTurning l_spec_paTurning z_spec_paTurning h_spec_paTurning k
end
end Go.Proofs.Ytcmndffpmjinlaa.Vs
