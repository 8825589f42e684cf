/- The proof, part 4. -/
import Derived.Test.Ytcmndffpmjinlaaqvotm2
set_option maxRecDepth 100000
set_option linter.unusedVariables false
set_option linter.unusedSimpArgs false
namespace Go.Proofs.Ytcmndffpmjinlaa.Vs
open Go.RowKit
noncomputable section
/-! function 16 -/
/-! function 18 -/
noncomputable def r_laws_toIntS : List PK := [{ t := Ty.slice (3 : Nat) (Ty.int IntKind.i64) }]
noncomputable def q_laws_toIntS : List PK := [{ t := Ty.slice (3 : Nat) (Ty.int IntKind.i64) }]
noncomputable def to_laws_toIntS (r : List Int) : Tup r_laws_toIntS × OutD := ((r, ()), none)
noncomputable def of_laws_toIntS : Tup r_laws_toIntS × OutD → Option (List Int)
  | (a, none) => some (a.1)
  | _ => none
theorem to_of_laws_toIntS : ∀ b r, of_laws_toIntS b = some r → to_laws_toIntS r = b := by
  rintro ⟨a, o⟩ r h
  cases o with
  | none => injection h with h; subst h; rfl
  | some _ => cases h
noncomputable def f_laws_toIntS_0 : Nat → List Int → List Int → Int → Option (List Int)
  | 0, _, _, _ => none
  | k + 1, o1, v0, v4 =>
    if decide (v4 < (↑(List.length v0) : Int)) = true then if (0 : Int) ≤ v4 then if v4 < (↑(List.length v0) : Int) then if (0 : Int) ≤ v4 then if v4 < (↑(List.length o1) : Int) then f_laws_toIntS_0 k (List.set o1 (Int.toNat v4) (List.getD v0 (Int.toNat v4) (0 : Int))) v0 (wrap64 (v4 + (1 : Int))) else none else none else none else none else some o1
noncomputable def f_laws_toIntS_0i : Spec := { objs := [OSh.ro, OSh.row true (3 : Nat) (Ty.int IntKind.i64)], tmps := [((0 : Nat), TSh.at (Sh.snap (0 : Nat) (Ty.int IntKind.i64))), ((3 : Nat), TSh.at (Sh.sl (1 : Nat))), ((4 : Nat), TSh.at (Sh.int IntKind.i64))] }
noncomputable def f_laws_toIntS_0o : Spec := { objs := [OSh.ro, OSh.row true (3 : Nat) (Ty.int IntKind.i64)], tmps := [((3 : Nat), TSh.at (Sh.sl (1 : Nat)))] }
noncomputable def f_laws_toIntS_0D : LoopDef (Tup r_laws_toIntS × OutD) := .plain f_laws_toIntS_0i f_laws_toIntS_0o (List Int) (fun k x => f_laws_toIntS_0 k x.1.2.1 x.2.1 x.2.2.2.1) (fun z => (((), z, ()), ((), ()))) (fun y => (y.1.2.1)) (fun _ => rfl)
noncomputable def f_laws_toIntS : Nat → List Int → Option (List Int)
  | 0, _ => none
  | k + 1, p0 =>
    if Int.toNat (↑(List.length p0) : Int) * (8 : Nat) ≤ (281474976710656 : Nat) then Option.bind (f_laws_toIntS_0 k (List.replicate (Int.toNat (↑(List.length p0) : Int)) (0 : Int)) p0 (0 : Int)) fun z0 => some z0 else none
noncomputable def d_laws_toIntS : FnDef := .of q_laws_toIntS r_laws_toIntS (List Int) (fun k x => f_laws_toIntS k x.1) to_laws_toIntS of_laws_toIntS to_of_laws_toIntS
noncomputable def c_laws_toIntS : Code := Try.f18.body.getD .skip
noncomputable def x_laws_toIntS : Ctx (Tup r_laws_toIntS × OutD) := { T := T, G := [], mvs := [], no := 0, n := 22, res := resOf T q_laws_toIntS r_laws_toIntS Try.f18.results.toList, loops := [(0, f_laws_toIntS_0D.E)], regs := [], conds := [] }
theorem g_laws_toIntS (k : Nat) : EnvOK Try.prog k x_laws_toIntS.G := (EnvOK.nil mixed)
noncomputable def f_laws_toIntS_0B : Code := (findLoop 0 c_laws_toIntS).getD .skip
theorem f_laws_toIntS_0h (k : Nat) (x : f_laws_toIntS_0i.D) : f_laws_toIntS_0D.lp (k + 1) x = loopK x_laws_toIntS f_laws_toIntS_0D 0 f_laws_toIntS_0B k x := by kernel_rfl
theorem f_laws_toIntS_0l (k : Nat) : LOK Try.prog x_laws_toIntS k f_laws_toIntS_0B := LOK.by [] (by kernel_rfl) AllOK.nil
theorem f_laws_toIntS_0z (x : f_laws_toIntS_0i.D) : f_laws_toIntS_0D.lp 0 x = none := by kernel_rfl
theorem f_laws_toIntS_0ok (k : Nat) : EOK Try.prog x_laws_toIntS k f_laws_toIntS_0D.E (.block 0 (.loop f_laws_toIntS_0B)) := loop_ok T_ok g_laws_toIntS f_laws_toIntS_0z f_laws_toIntS_0h f_laws_toIntS_0l k
theorem h_laws_toIntS (k : Nat) (x : Tup d_laws_toIntS.ps) : d_laws_toIntS.f (k + 1) x = fnK d_laws_toIntS x_laws_toIntS c_laws_toIntS k x := by kernel_rfl
theorem z_laws_toIntS (x : Tup d_laws_toIntS.ps) : d_laws_toIntS.f 0 x = none := by kernel_rfl
theorem l_laws_toIntS (k : Nat) : LOK Try.prog x_laws_toIntS k c_laws_toIntS := LOK.by [(f_laws_toIntS_0D.E, .block 0 (.loop f_laws_toIntS_0B))] (by kernel_rfl) (AllOK.cons (f_laws_toIntS_0ok k) AllOK.nil)
theorem s_laws_toIntS (k : Nat) : SoundAt Try.prog k 18 d_laws_toIntS.E := @fn_all Try.prog d_laws_toIntS x_laws_toIntS 18 Try.f18 c_laws_toIntS (by kernel_rfl) (by kernel_rfl) (by kernel_rfl) Try.func18 (by kernel_rfl) (by kernel_rfl) (by kernel_rfl) T_ok g_laws_toIntS l_laws_toIntS z_laws_toIntS h_laws_toIntS k
/-! function 20 -/
noncomputable def r_laws_eqIntS : List PK := [{ t := Ty.bool }]
noncomputable def q_laws_eqIntS : List PK := [{ t := Ty.slice (3 : Nat) (Ty.int IntKind.i64) }, { t := Ty.slice (3 : Nat) (Ty.int IntKind.i64) }]
noncomputable def to_laws_eqIntS (r : Bool) : Tup r_laws_eqIntS × OutD := ((r, ()), none)
noncomputable def of_laws_eqIntS : Tup r_laws_eqIntS × OutD → Option (Bool)
  | (a, none) => some (a.1)
  | _ => none
theorem to_of_laws_eqIntS : ∀ b r, of_laws_eqIntS b = some r → to_laws_eqIntS r = b := by
  rintro ⟨a, o⟩ r h
  cases o with
  | none => injection h with h; subst h; rfl
  | some _ => cases h
noncomputable def f_laws_eqIntS_0 : Nat → List Int → List Int → Int → Option (LR Unit Bool)
  | 0, _, _, _ => none
  | k + 1, v0, v1, v5 =>
    if decide (v5 < (↑(List.length v0) : Int)) = true then if (0 : Int) ≤ v5 then if v5 < (↑(List.length v0) : Int) then if (0 : Int) ≤ v5 then if v5 < (↑(List.length v1) : Int) then if decide (List.getD v0 (Int.toNat v5) (0 : Int) ≠ List.getD v1 (Int.toNat v5) (0 : Int)) = true then some (LR.ret false) else f_laws_eqIntS_0 k v0 v1 (wrap64 (v5 + (1 : Int))) else none else none else none else none else some (LR.go ())
noncomputable def f_laws_eqIntS_0i : Spec := { objs := [OSh.ro], tmps := [((0 : Nat), TSh.at (Sh.snap (0 : Nat) (Ty.int IntKind.i64))), ((1 : Nat), TSh.at (Sh.snap (0 : Nat) (Ty.int IntKind.i64))), ((5 : Nat), TSh.at (Sh.int IntKind.i64))] }
noncomputable def f_laws_eqIntS_0o : Spec := { objs := [OSh.ro], tmps := [] }
noncomputable def f_laws_eqIntS_0D : LoopDef (Tup r_laws_eqIntS × OutD) := .rets f_laws_eqIntS_0i f_laws_eqIntS_0o (Unit) (Bool) (fun k x => f_laws_eqIntS_0 k x.2.1 x.2.2.1 x.2.2.2.1) (fun z => (((), ()), (()))) (fun y => ()) (fun _ => rfl) to_laws_eqIntS of_laws_eqIntS to_of_laws_eqIntS
noncomputable def f_laws_eqIntS : Nat → List Int → List Int → Option Bool
  | 0, _, _ => none
  | k + 1, p0, p1 =>
    if decide ((↑(List.length p0) : Int) ≠ (↑(List.length p1) : Int)) = true then some false else Option.bind (f_laws_eqIntS_0 k p0 p1 (0 : Int)) fun z0 => LR.on z0 (fun y0 => some true) fun r0 => some r0
noncomputable def d_laws_eqIntS : FnDef := .of q_laws_eqIntS r_laws_eqIntS (Bool) (fun k x => f_laws_eqIntS k x.1 x.2.1) to_laws_eqIntS of_laws_eqIntS to_of_laws_eqIntS
noncomputable def c_laws_eqIntS : Code := Try.f20.body.getD .skip
noncomputable def x_laws_eqIntS : Ctx (Tup r_laws_eqIntS × OutD) := { T := T, G := [], mvs := [], no := 0, n := 26, res := resOf T q_laws_eqIntS r_laws_eqIntS Try.f20.results.toList, loops := [(0, f_laws_eqIntS_0D.E)], regs := [], conds := [] }
theorem g_laws_eqIntS (k : Nat) : EnvOK Try.prog k x_laws_eqIntS.G := (EnvOK.nil mixed)
noncomputable def f_laws_eqIntS_0B : Code := (findLoop 0 c_laws_eqIntS).getD .skip
theorem f_laws_eqIntS_0h (k : Nat) (x : f_laws_eqIntS_0i.D) : f_laws_eqIntS_0D.lp (k + 1) x = loopK x_laws_eqIntS f_laws_eqIntS_0D 0 f_laws_eqIntS_0B k x := by kernel_rfl
theorem f_laws_eqIntS_0l (k : Nat) : LOK Try.prog x_laws_eqIntS k f_laws_eqIntS_0B := LOK.by [] (by kernel_rfl) AllOK.nil
theorem f_laws_eqIntS_0z (x : f_laws_eqIntS_0i.D) : f_laws_eqIntS_0D.lp 0 x = none := by kernel_rfl
theorem f_laws_eqIntS_0ok (k : Nat) : EOK Try.prog x_laws_eqIntS k f_laws_eqIntS_0D.E (.block 0 (.loop f_laws_eqIntS_0B)) := loop_ok T_ok g_laws_eqIntS f_laws_eqIntS_0z f_laws_eqIntS_0h f_laws_eqIntS_0l k
theorem h_laws_eqIntS (k : Nat) (x : Tup d_laws_eqIntS.ps) : d_laws_eqIntS.f (k + 1) x = fnK d_laws_eqIntS x_laws_eqIntS c_laws_eqIntS k x := by kernel_rfl
theorem z_laws_eqIntS (x : Tup d_laws_eqIntS.ps) : d_laws_eqIntS.f 0 x = none := by kernel_rfl
theorem l_laws_eqIntS (k : Nat) : LOK Try.prog x_laws_eqIntS k c_laws_eqIntS := LOK.by [(f_laws_eqIntS_0D.E, .block 0 (.loop f_laws_eqIntS_0B))] (by kernel_rfl) (AllOK.cons (f_laws_eqIntS_0ok k) AllOK.nil)
theorem s_laws_eqIntS (k : Nat) : SoundAt Try.prog k 20 d_laws_eqIntS.E := @fn_all Try.prog d_laws_eqIntS x_laws_eqIntS 20 Try.f20 c_laws_eqIntS (by kernel_rfl) (by kernel_rfl) (by kernel_rfl) Try.func20 (by kernel_rfl) (by kernel_rfl) (by kernel_rfl) T_ok g_laws_eqIntS l_laws_eqIntS z_laws_eqIntS h_laws_eqIntS k
/-! function 44 -/
noncomputable def r_laws_markIntS : List PK := [{ t := Ty.int IntKind.i64 }]
noncomputable def q_laws_markIntS : List PK := [{ t := Ty.slice (3 : Nat) (Ty.int IntKind.i64), own := some ((0 : Nat), (3 : Nat), Ty.int IntKind.i64) }, { t := Ty.int IntKind.i64 }]
noncomputable def to_laws_markIntS (r : Int × List Int) : Tup r_laws_markIntS × OutD := ((r.1, ()), some ⟨Ty.int IntKind.i64, r.2⟩)
noncomputable def of_laws_markIntS : Tup r_laws_markIntS × OutD → Option (Int × List Int)
  | (a, some ⟨u, ys⟩) => if h : u = Ty.int IntKind.i64 then some (a.1, castU h ys) else none
  | _ => none
theorem to_of_laws_markIntS : ∀ b r, of_laws_markIntS b = some r → to_laws_markIntS r = b := by
  rintro ⟨a, o⟩ r h
  cases o with
  | none => cases h
  | some s =>
    obtain ⟨u, ys⟩ := s
    simp only [of_laws_markIntS] at h
    split at h
    · rename_i hu; subst hu; injection h with h; subst h; rfl
    · cases h
noncomputable def f_laws_markIntS_0 : Nat → List Int → Int → Int → Option (List Int × Int)
  | 0, _, _, _ => none
  | k + 1, o1, v1, v5 =>
    if decide (v5 < (↑(List.length o1) : Int)) = true then if (0 : Int) ≤ v5 then if v5 < (↑(List.length o1) : Int) then f_laws_markIntS_0 k (List.set o1 (Int.toNat v5) v1) (wrap64 (v1 + (1 : Int))) (wrap64 (v5 + (1 : Int))) else none else none else some (o1, v1)
noncomputable def f_laws_markIntS_0i : Spec := { objs := [OSh.ro, OSh.row false (3 : Nat) (Ty.int IntKind.i64)], tmps := [((0 : Nat), TSh.at (Sh.sl (1 : Nat))), ((1 : Nat), TSh.at (Sh.int IntKind.i64)), ((5 : Nat), TSh.at (Sh.int IntKind.i64))] }
noncomputable def f_laws_markIntS_0o : Spec := { objs := [OSh.ro, OSh.row false (3 : Nat) (Ty.int IntKind.i64)], tmps := [((1 : Nat), TSh.at (Sh.int IntKind.i64))] }
noncomputable def f_laws_markIntS_0D : LoopDef (Tup r_laws_markIntS × OutD) := .plain f_laws_markIntS_0i f_laws_markIntS_0o (List Int × Int) (fun k x => f_laws_markIntS_0 k x.1.2.1 x.2.2.1 x.2.2.2.1) (fun z => (((), z.1, ()), (z.2, ()))) (fun y => (y.1.2.1, y.2.1)) (fun _ => rfl)
noncomputable def f_laws_markIntS : Nat → List Int → Int → Option (Int × List Int)
  | 0, _, _ => none
  | k + 1, p0, p1 =>
    Option.bind (f_laws_markIntS_0 k p0 p1 (0 : Int)) fun z0 => some (Prod.snd z0, Prod.fst z0)
noncomputable def d_laws_markIntS : FnDef := .of q_laws_markIntS r_laws_markIntS (Int × List Int) (fun k x => f_laws_markIntS k x.1 x.2.1) to_laws_markIntS of_laws_markIntS to_of_laws_markIntS
noncomputable def c_laws_markIntS : Code := Try.f44.body.getD .skip
noncomputable def x_laws_markIntS : Ctx (Tup r_laws_markIntS × OutD) := { T := T, G := [], mvs := [], no := 1, n := 19, res := resOf T q_laws_markIntS r_laws_markIntS Try.f44.results.toList, loops := [(0, f_laws_markIntS_0D.E)], regs := [], conds := [] }
theorem g_laws_markIntS (k : Nat) : EnvOK Try.prog k x_laws_markIntS.G := (EnvOK.nil mixed)
noncomputable def f_laws_markIntS_0B : Code := (findLoop 0 c_laws_markIntS).getD .skip
theorem f_laws_markIntS_0h (k : Nat) (x : f_laws_markIntS_0i.D) : f_laws_markIntS_0D.lp (k + 1) x = loopK x_laws_markIntS f_laws_markIntS_0D 0 f_laws_markIntS_0B k x := by kernel_rfl
theorem f_laws_markIntS_0l (k : Nat) : LOK Try.prog x_laws_markIntS k f_laws_markIntS_0B := LOK.by [] (by kernel_rfl) AllOK.nil
theorem f_laws_markIntS_0z (x : f_laws_markIntS_0i.D) : f_laws_markIntS_0D.lp 0 x = none := by kernel_rfl
theorem f_laws_markIntS_0ok (k : Nat) : EOK Try.prog x_laws_markIntS k f_laws_markIntS_0D.E (.block 0 (.loop f_laws_markIntS_0B)) := loop_ok T_ok g_laws_markIntS f_laws_markIntS_0z f_laws_markIntS_0h f_laws_markIntS_0l k
theorem h_laws_markIntS (k : Nat) (x : Tup d_laws_markIntS.ps) : d_laws_markIntS.f (k + 1) x = fnK d_laws_markIntS x_laws_markIntS c_laws_markIntS k x := by kernel_rfl
theorem z_laws_markIntS (x : Tup d_laws_markIntS.ps) : d_laws_markIntS.f 0 x = none := by kernel_rfl
theorem l_laws_markIntS (k : Nat) : LOK Try.prog x_laws_markIntS k c_laws_markIntS := LOK.by [(f_laws_markIntS_0D.E, .block 0 (.loop f_laws_markIntS_0B))] (by kernel_rfl) (AllOK.cons (f_laws_markIntS_0ok k) AllOK.nil)
theorem s_laws_markIntS (k : Nat) : SoundAt Try.prog k 44 d_laws_markIntS.E := @fn_all Try.prog d_laws_markIntS x_laws_markIntS 44 Try.f44 c_laws_markIntS (by kernel_rfl) (by kernel_rfl) (by kernel_rfl) Try.func44 (by kernel_rfl) (by kernel_rfl) (by kernel_rfl) T_ok g_laws_markIntS l_laws_markIntS z_laws_markIntS h_laws_markIntS k
/-! function 45 -/
noncomputable def r_laws_heldIntS : List PK := [{ t := Ty.int IntKind.i64 }]
noncomputable def q_laws_heldIntS : List PK := [{ t := Ty.slice (3 : Nat) (Ty.int IntKind.i64) }, { t := Ty.int IntKind.i64 }]
noncomputable def to_laws_heldIntS (r : Int) : Tup r_laws_heldIntS × OutD := ((r, ()), none)
noncomputable def of_laws_heldIntS : Tup r_laws_heldIntS × OutD → Option (Int)
  | (a, none) => some (a.1)
  | _ => none
theorem to_of_laws_heldIntS : ∀ b r, of_laws_heldIntS b = some r → to_laws_heldIntS r = b := by
  rintro ⟨a, o⟩ r h
  cases o with
  | none => injection h with h; subst h; rfl
  | some _ => cases h
noncomputable def f_laws_heldIntS_0 : Nat → List Int → Int → Int → Option (LR Int Int)
  | 0, _, _, _ => none
  | k + 1, v0, v1, v5 =>
    if decide (v5 < (↑(List.length v0) : Int)) = true then if (0 : Int) ≤ v5 then if v5 < (↑(List.length v0) : Int) then if decide (List.getD v0 (Int.toNat v5) (0 : Int) ≠ v1) = true then some (LR.ret (-1 : Int)) else f_laws_heldIntS_0 k v0 (wrap64 (v1 + (1 : Int))) (wrap64 (v5 + (1 : Int))) else none else none else some (LR.go v1)
noncomputable def f_laws_heldIntS_0i : Spec := { objs := [OSh.ro], tmps := [((0 : Nat), TSh.at (Sh.snap (0 : Nat) (Ty.int IntKind.i64))), ((1 : Nat), TSh.at (Sh.int IntKind.i64)), ((5 : Nat), TSh.at (Sh.int IntKind.i64))] }
noncomputable def f_laws_heldIntS_0o : Spec := { objs := [OSh.ro], tmps := [((1 : Nat), TSh.at (Sh.int IntKind.i64))] }
noncomputable def f_laws_heldIntS_0D : LoopDef (Tup r_laws_heldIntS × OutD) := .rets f_laws_heldIntS_0i f_laws_heldIntS_0o (Int) (Int) (fun k x => f_laws_heldIntS_0 k x.2.1 x.2.2.1 x.2.2.2.1) (fun z => (((), ()), (z, ()))) (fun y => (y.2.1)) (fun _ => rfl) to_laws_heldIntS of_laws_heldIntS to_of_laws_heldIntS
noncomputable def f_laws_heldIntS : Nat → List Int → Int → Option Int
  | 0, _, _ => none
  | k + 1, p0, p1 =>
    Option.bind (f_laws_heldIntS_0 k p0 p1 (0 : Int)) fun z0 => LR.on z0 (fun y0 => some y0) fun r0 => some r0
noncomputable def d_laws_heldIntS : FnDef := .of q_laws_heldIntS r_laws_heldIntS (Int) (fun k x => f_laws_heldIntS k x.1 x.2.1) to_laws_heldIntS of_laws_heldIntS to_of_laws_heldIntS
noncomputable def c_laws_heldIntS : Code := Try.f45.body.getD .skip
noncomputable def x_laws_heldIntS : Ctx (Tup r_laws_heldIntS × OutD) := { T := T, G := [], mvs := [], no := 0, n := 21, res := resOf T q_laws_heldIntS r_laws_heldIntS Try.f45.results.toList, loops := [(0, f_laws_heldIntS_0D.E)], regs := [], conds := [] }
theorem g_laws_heldIntS (k : Nat) : EnvOK Try.prog k x_laws_heldIntS.G := (EnvOK.nil mixed)
noncomputable def f_laws_heldIntS_0B : Code := (findLoop 0 c_laws_heldIntS).getD .skip
theorem f_laws_heldIntS_0h (k : Nat) (x : f_laws_heldIntS_0i.D) : f_laws_heldIntS_0D.lp (k + 1) x = loopK x_laws_heldIntS f_laws_heldIntS_0D 0 f_laws_heldIntS_0B k x := by kernel_rfl
theorem f_laws_heldIntS_0l (k : Nat) : LOK Try.prog x_laws_heldIntS k f_laws_heldIntS_0B := LOK.by [] (by kernel_rfl) AllOK.nil
theorem f_laws_heldIntS_0z (x : f_laws_heldIntS_0i.D) : f_laws_heldIntS_0D.lp 0 x = none := by kernel_rfl
theorem f_laws_heldIntS_0ok (k : Nat) : EOK Try.prog x_laws_heldIntS k f_laws_heldIntS_0D.E (.block 0 (.loop f_laws_heldIntS_0B)) := loop_ok T_ok g_laws_heldIntS f_laws_heldIntS_0z f_laws_heldIntS_0h f_laws_heldIntS_0l k
theorem h_laws_heldIntS (k : Nat) (x : Tup d_laws_heldIntS.ps) : d_laws_heldIntS.f (k + 1) x = fnK d_laws_heldIntS x_laws_heldIntS c_laws_heldIntS k x := by kernel_rfl
theorem z_laws_heldIntS (x : Tup d_laws_heldIntS.ps) : d_laws_heldIntS.f 0 x = none := by kernel_rfl
theorem l_laws_heldIntS (k : Nat) : LOK Try.prog x_laws_heldIntS k c_laws_heldIntS := LOK.by [(f_laws_heldIntS_0D.E, .block 0 (.loop f_laws_heldIntS_0B))] (by kernel_rfl) (AllOK.cons (f_laws_heldIntS_0ok k) AllOK.nil)
theorem s_laws_heldIntS (k : Nat) : SoundAt Try.prog k 45 d_laws_heldIntS.E := @fn_all Try.prog d_laws_heldIntS x_laws_heldIntS 45 Try.f45 c_laws_heldIntS (by kernel_rfl) (by kernel_rfl) (by kernel_rfl) Try.func45 (by kernel_rfl) (by kernel_rfl) (by kernel_rfl) T_ok g_laws_heldIntS l_laws_heldIntS z_laws_heldIntS h_laws_heldIntS k
/-! function 55 -/
noncomputable def r_spec_l1In : List PK := [{ t := Ty.bool }]
noncomputable def q_spec_l1In : List PK := [{ t := Ty.int IntKind.i64 }, { t := Ty.int IntKind.i64 }, { t := Ty.int IntKind.i64 }]
noncomputable def to_spec_l1In (r : Bool) : Tup r_spec_l1In × OutD := ((r, ()), none)
noncomputable def of_spec_l1In : Tup r_spec_l1In × OutD → Option (Bool)
  | (a, none) => some (a.1)
  | _ => none
theorem to_of_spec_l1In : ∀ b r, of_spec_l1In b = some r → to_spec_l1In r = b := by
  rintro ⟨a, o⟩ r h
  cases o with
  | none => injection h with h; subst h; rfl
  | some _ => cases h
noncomputable def f_spec_l1In : Nat → Int → Int → Int → Option Bool
  | 0, _, _, _ => none
  | k + 1, p0, p1, p2 =>
    if decide (p0 ≥ p1) = true then some (decide (p0 ≤ p2)) else some false
noncomputable def d_spec_l1In : FnDef := .of q_spec_l1In r_spec_l1In (Bool) (fun k x => f_spec_l1In k x.1 x.2.1 x.2.2.1) to_spec_l1In of_spec_l1In to_of_spec_l1In
noncomputable def c_spec_l1In : Code := Try.f55.body.getD .skip
noncomputable def x_spec_l1In : Ctx (Tup r_spec_l1In × OutD) := { T := T, G := [], mvs := [], no := 0, n := 15, res := resOf T q_spec_l1In r_spec_l1In Try.f55.results.toList, loops := [], regs := [], conds := [] }
theorem g_spec_l1In (k : Nat) : EnvOK Try.prog k x_spec_l1In.G := (EnvOK.nil mixed)
theorem h_spec_l1In (k : Nat) (x : Tup d_spec_l1In.ps) : d_spec_l1In.f (k + 1) x = fnK d_spec_l1In x_spec_l1In c_spec_l1In k x := by kernel_rfl
theorem z_spec_l1In (x : Tup d_spec_l1In.ps) : d_spec_l1In.f 0 x = none := by kernel_rfl
theorem l_spec_l1In (k : Nat) : LOK Try.prog x_spec_l1In k c_spec_l1In := LOK.by [] (by kernel_rfl) AllOK.nil
theorem s_spec_l1In (k : Nat) : SoundAt Try.prog k 55 d_spec_l1In.E := @fn_all Try.prog d_spec_l1In x_spec_l1In 55 Try.f55 c_spec_l1In (by kernel_rfl) (by kernel_rfl) (by kernel_rfl) Try.func55 (by kernel_rfl) (by kernel_rfl) (by kernel_rfl) T_ok g_spec_l1In l_spec_l1In z_spec_l1In h_spec_l1In k
/-! function 56 -/
/-! function 60 -/
/-! function 61 -/
noncomputable def r_spec_voMost : List PK := [{ t := Ty.int IntKind.i64 }, { t := Ty.int IntKind.i64 }]
noncomputable def q_spec_voMost : List PK := [{ t := Ty.slice (3 : Nat) (Ty.int IntKind.i64) }]
noncomputable def to_spec_voMost (r : Int × Int) : Tup r_spec_voMost × OutD := ((r.1, r.2, ()), none)
noncomputable def of_spec_voMost : Tup r_spec_voMost × OutD → Option (Int × Int)
  | (a, none) => some (a.1, a.2.1)
  | _ => none
theorem to_of_spec_voMost : ∀ b r, of_spec_voMost b = some r → to_spec_voMost r = b := by
  rintro ⟨a, o⟩ r h
  cases o with
  | none => injection h with h; subst h; rfl
  | some _ => cases h
noncomputable def f_spec_voMost_0 : Nat → List Int → List Int → Int → Int → Option (List Int)
  | 0, _, _, _, _ => none
  | k + 1, o1, v11, v12, v13 =>
    if decide (v13 < v12) = true then if (0 : Int) ≤ v13 then if v13 < (↑(List.length v11) : Int) then if (0 : Int) ≤ List.getD v11 (Int.toNat v13) (0 : Int) then if List.getD v11 (Int.toNat v13) (0 : Int) < (↑(List.length o1) : Int) then if (0 : Int) ≤ List.getD v11 (Int.toNat v13) (0 : Int) then if List.getD v11 (Int.toNat v13) (0 : Int) < (↑(List.length o1) : Int) then f_spec_voMost_0 k (List.set o1 (Int.toNat (List.getD v11 (Int.toNat v13) (0 : Int))) (wrap64 (List.getD o1 (Int.toNat (List.getD v11 (Int.toNat v13) (0 : Int))) (0 : Int) + (1 : Int)))) v11 v12 (wrap64 (v13 + (1 : Int))) else none else none else none else none else none else none else some o1
noncomputable def f_spec_voMost_0i : Spec := { objs := [OSh.ro, OSh.row true (3 : Nat) (Ty.int IntKind.i64)], tmps := [((4 : Nat), TSh.at (Sh.sl (1 : Nat))), ((11 : Nat), TSh.at (Sh.snap (0 : Nat) (Ty.int IntKind.i64))), ((12 : Nat), TSh.at (Sh.int IntKind.i64)), ((13 : Nat), TSh.at (Sh.int IntKind.i64))] }
noncomputable def f_spec_voMost_0o : Spec := { objs := [OSh.ro, OSh.row true (3 : Nat) (Ty.int IntKind.i64)], tmps := [((4 : Nat), TSh.at (Sh.sl (1 : Nat)))] }
noncomputable def f_spec_voMost_0D : LoopDef (Tup r_spec_voMost × OutD) := .plain f_spec_voMost_0i f_spec_voMost_0o (List Int) (fun k x => f_spec_voMost_0 k x.1.2.1 x.2.2.1 x.2.2.2.1 x.2.2.2.2.1) (fun z => (((), z, ()), ((), ()))) (fun y => (y.1.2.1)) (fun _ => rfl)
noncomputable def f_spec_voMost_2 : Nat → List Int → Int → Int → Int → Option (List Int × Int)
  | 0, _, _, _, _ => none
  | k + 1, o1, v7, v25, v26 =>
    if decide (v26 < v25) = true then if (0 : Int) ≤ v26 then if v26 < (↑(List.length o1) : Int) then if (0 : Int) ≤ v7 then if v7 < (↑(List.length o1) : Int) then if decide (List.getD o1 (Int.toNat v26) (0 : Int) > List.getD o1 (Int.toNat v7) (0 : Int)) = true then f_spec_voMost_2 k o1 v26 v25 (wrap64 (v26 + (1 : Int))) else f_spec_voMost_2 k o1 v7 v25 (wrap64 (v26 + (1 : Int))) else none else none else none else none else some (o1, v7)
noncomputable def f_spec_voMost_2i : Spec := { objs := [OSh.ro, OSh.row true (3 : Nat) (Ty.int IntKind.i64)], tmps := [((4 : Nat), TSh.at (Sh.sl (1 : Nat))), ((7 : Nat), TSh.at (Sh.int IntKind.i64)), ((24 : Nat), TSh.at (Sh.sl (1 : Nat))), ((25 : Nat), TSh.at (Sh.int IntKind.i64)), ((26 : Nat), TSh.at (Sh.int IntKind.i64))] }
noncomputable def f_spec_voMost_2o : Spec := { objs := [OSh.ro, OSh.row true (3 : Nat) (Ty.int IntKind.i64)], tmps := [((4 : Nat), TSh.at (Sh.sl (1 : Nat))), ((7 : Nat), TSh.at (Sh.int IntKind.i64))] }
noncomputable def f_spec_voMost_2D : LoopDef (Tup r_spec_voMost × OutD) := .plain f_spec_voMost_2i f_spec_voMost_2o (List Int × Int) (fun k x => f_spec_voMost_2 k x.1.2.1 x.2.2.1 x.2.2.2.2.1 x.2.2.2.2.2.1) (fun z => (((), z.1, ()), ((), z.2, ()))) (fun y => (y.1.2.1, y.2.2.1)) (fun _ => rfl)
noncomputable def f_spec_voMost : Nat → List Int → Option (Int × Int)
  | 0, _ => none
  | k + 1, p0 =>
    Option.bind (f_spec_voMost_0 k (List.replicate (Int.toNat (10 : Int)) (0 : Int)) p0 (↑(List.length p0) : Int) (0 : Int)) fun z0 => Option.bind (f_spec_voMost_2 k z0 (0 : Int) (↑(List.length z0) : Int) (0 : Int)) fun z1 => if (0 : Int) ≤ Prod.snd z1 then if Prod.snd z1 < (↑(List.length (Prod.fst z1)) : Int) then some (Prod.snd z1, List.getD (Prod.fst z1) (Int.toNat (Prod.snd z1)) (0 : Int)) else none else none
noncomputable def d_spec_voMost : FnDef := .of q_spec_voMost r_spec_voMost (Int × Int) (fun k x => f_spec_voMost k x.1) to_spec_voMost of_spec_voMost to_of_spec_voMost
noncomputable def c_spec_voMost : Code := Try.f61.body.getD .skip
noncomputable def x_spec_voMost : Ctx (Tup r_spec_voMost × OutD) := { T := T, G := [], mvs := [], no := 0, n := 44, res := resOf T q_spec_voMost r_spec_voMost Try.f61.results.toList, loops := [(0, f_spec_voMost_0D.E), (2, f_spec_voMost_2D.E)], regs := [], conds := [] }
theorem g_spec_voMost (k : Nat) : EnvOK Try.prog k x_spec_voMost.G := (EnvOK.nil mixed)
noncomputable def f_spec_voMost_0B : Code := (findLoop 0 c_spec_voMost).getD .skip
theorem f_spec_voMost_0h (k : Nat) (x : f_spec_voMost_0i.D) : f_spec_voMost_0D.lp (k + 1) x = loopK x_spec_voMost f_spec_voMost_0D 0 f_spec_voMost_0B k x := by kernel_rfl
theorem f_spec_voMost_0l (k : Nat) : LOK Try.prog x_spec_voMost k f_spec_voMost_0B := LOK.by [] (by kernel_rfl) AllOK.nil
theorem f_spec_voMost_0z (x : f_spec_voMost_0i.D) : f_spec_voMost_0D.lp 0 x = none := by kernel_rfl
theorem f_spec_voMost_0ok (k : Nat) : EOK Try.prog x_spec_voMost k f_spec_voMost_0D.E (.block 0 (.loop f_spec_voMost_0B)) := loop_ok T_ok g_spec_voMost f_spec_voMost_0z f_spec_voMost_0h f_spec_voMost_0l k
noncomputable def f_spec_voMost_2B : Code := (findLoop 2 c_spec_voMost).getD .skip
theorem f_spec_voMost_2h (k : Nat) (x : f_spec_voMost_2i.D) : f_spec_voMost_2D.lp (k + 1) x = loopK x_spec_voMost f_spec_voMost_2D 2 f_spec_voMost_2B k x := by kernel_rfl
theorem f_spec_voMost_2l (k : Nat) : LOK Try.prog x_spec_voMost k f_spec_voMost_2B := LOK.by [] (by kernel_rfl) AllOK.nil
theorem f_spec_voMost_2z (x : f_spec_voMost_2i.D) : f_spec_voMost_2D.lp 0 x = none := by kernel_rfl
theorem f_spec_voMost_2ok (k : Nat) : EOK Try.prog x_spec_voMost k f_spec_voMost_2D.E (.block 2 (.loop f_spec_voMost_2B)) := loop_ok T_ok g_spec_voMost f_spec_voMost_2z f_spec_voMost_2h f_spec_voMost_2l k
theorem h_spec_voMost (k : Nat) (x : Tup d_spec_voMost.ps) : d_spec_voMost.f (k + 1) x = fnK d_spec_voMost x_spec_voMost c_spec_voMost k x := by kernel_rfl
theorem z_spec_voMost (x : Tup d_spec_voMost.ps) : d_spec_voMost.f 0 x = none := by kernel_rfl
theorem l_spec_voMost (k : Nat) : LOK Try.prog x_spec_voMost k c_spec_voMost := LOK.by [(f_spec_voMost_0D.E, .block 0 (.loop f_spec_voMost_0B)), (f_spec_voMost_2D.E, .block 2 (.loop f_spec_voMost_2B))] (by kernel_rfl) (AllOK.cons (f_spec_voMost_0ok k) (AllOK.cons (f_spec_voMost_2ok k) AllOK.nil))
theorem s_spec_voMost (k : Nat) : SoundAt Try.prog k 61 d_spec_voMost.E := @fn_all Try.prog d_spec_voMost x_spec_voMost 61 Try.f61 c_spec_voMost (by kernel_rfl) (by kernel_rfl) (by kernel_rfl) Try.func61 (by kernel_rfl) (by kernel_rfl) (by kernel_rfl) T_ok g_spec_voMost l_spec_voMost z_spec_voMost h_spec_voMost k
/-! function 62 -/
noncomputable def r_impl_mostVoted : List PK := [{ t := Ty.int IntKind.i64 }, { t := Ty.int IntKind.i64 }]
noncomputable def q_impl_mostVoted : List PK := [{ t := Ty.slice (3 : Nat) (Ty.int IntKind.i64) }]
noncomputable def to_impl_mostVoted (r : Int × Int) : Tup r_impl_mostVoted × OutD := ((r.1, r.2, ()), none)
noncomputable def of_impl_mostVoted : Tup r_impl_mostVoted × OutD → Option (Int × Int)
  | (a, none) => some (a.1, a.2.1)
  | _ => none
theorem to_of_impl_mostVoted : ∀ b r, of_impl_mostVoted b = some r → to_impl_mostVoted r = b := by
  rintro ⟨a, o⟩ r h
  cases o with
  | none => injection h with h; subst h; rfl
  | some _ => cases h
noncomputable def f_impl_mostVoted_0 : Nat → Int → Int → Int → Int → Int → Int → Int → Int → Int → Int → List Int → Int → Int → Option (Int × Int × Int × Int × Int × Int × Int × Int × Int × Int)
  | 0, _, _, _, _, _, _, _, _, _, _, _, _, _ => none
  | k + 1, b1_0, b1_1, b1_2, b1_3, b1_4, b1_5, b1_6, b1_7, b1_8, b1_9, v11, v12, v13 =>
    if decide (v13 < v12) = true then if (0 : Int) ≤ v13 then if v13 < (↑(List.length v11) : Int) then if (0 : Int) ≤ List.getD v11 (Int.toNat v13) (0 : Int) then if List.getD v11 (Int.toNat v13) (0 : Int) < (↑(10 : Nat) : Int) then if Int.toNat (List.getD v11 (Int.toNat v13) (0 : Int)) < List.length [b1_0, b1_1, b1_2, b1_3, b1_4, b1_5, b1_6, b1_7, b1_8, b1_9] then if (0 : Int) ≤ List.getD v11 (Int.toNat v13) (0 : Int) then if List.getD v11 (Int.toNat v13) (0 : Int) < (↑(10 : Nat) : Int) then if Int.toNat (List.getD v11 (Int.toNat v13) (0 : Int)) < List.length [b1_0, b1_1, b1_2, b1_3, b1_4, b1_5, b1_6, b1_7, b1_8, b1_9] then f_impl_mostVoted_0 k (List.getD (List.set [b1_0, b1_1, b1_2, b1_3, b1_4, b1_5, b1_6, b1_7, b1_8, b1_9] (Int.toNat (List.getD v11 (Int.toNat v13) (0 : Int))) (wrap64 (List.getD [b1_0, b1_1, b1_2, b1_3, b1_4, b1_5, b1_6, b1_7, b1_8, b1_9] (Int.toNat (List.getD v11 (Int.toNat v13) (0 : Int))) (0 : Int) + (1 : Int)))) (0 : Nat) (0 : Int)) (List.getD (List.set [b1_0, b1_1, b1_2, b1_3, b1_4, b1_5, b1_6, b1_7, b1_8, b1_9] (Int.toNat (List.getD v11 (Int.toNat v13) (0 : Int))) (wrap64 (List.getD [b1_0, b1_1, b1_2, b1_3, b1_4, b1_5, b1_6, b1_7, b1_8, b1_9] (Int.toNat (List.getD v11 (Int.toNat v13) (0 : Int))) (0 : Int) + (1 : Int)))) ((0 : Nat) + (1 : Nat)) (0 : Int)) (List.getD (List.set [b1_0, b1_1, b1_2, b1_3, b1_4, b1_5, b1_6, b1_7, b1_8, b1_9] (Int.toNat (List.getD v11 (Int.toNat v13) (0 : Int))) (wrap64 (List.getD [b1_0, b1_1, b1_2, b1_3, b1_4, b1_5, b1_6, b1_7, b1_8, b1_9] (Int.toNat (List.getD v11 (Int.toNat v13) (0 : Int))) (0 : Int) + (1 : Int)))) ((0 : Nat) + (1 : Nat) + (1 : Nat)) (0 : Int)) (List.getD (List.set [b1_0, b1_1, b1_2, b1_3, b1_4, b1_5, b1_6, b1_7, b1_8, b1_9] (Int.toNat (List.getD v11 (Int.toNat v13) (0 : Int))) (wrap64 (List.getD [b1_0, b1_1, b1_2, b1_3, b1_4, b1_5, b1_6, b1_7, b1_8, b1_9] (Int.toNat (List.getD v11 (Int.toNat v13) (0 : Int))) (0 : Int) + (1 : Int)))) ((0 : Nat) + (1 : Nat) + (1 : Nat) + (1 : Nat)) (0 : Int)) (List.getD (List.set [b1_0, b1_1, b1_2, b1_3, b1_4, b1_5, b1_6, b1_7, b1_8, b1_9] (Int.toNat (List.getD v11 (Int.toNat v13) (0 : Int))) (wrap64 (List.getD [b1_0, b1_1, b1_2, b1_3, b1_4, b1_5, b1_6, b1_7, b1_8, b1_9] (Int.toNat (List.getD v11 (Int.toNat v13) (0 : Int))) (0 : Int) + (1 : Int)))) ((0 : Nat) + (1 : Nat) + (1 : Nat) + (1 : Nat) + (1 : Nat)) (0 : Int)) (List.getD (List.set [b1_0, b1_1, b1_2, b1_3, b1_4, b1_5, b1_6, b1_7, b1_8, b1_9] (Int.toNat (List.getD v11 (Int.toNat v13) (0 : Int))) (wrap64 (List.getD [b1_0, b1_1, b1_2, b1_3, b1_4, b1_5, b1_6, b1_7, b1_8, b1_9] (Int.toNat (List.getD v11 (Int.toNat v13) (0 : Int))) (0 : Int) + (1 : Int)))) ((0 : Nat) + (1 : Nat) + (1 : Nat) + (1 : Nat) + (1 : Nat) + (1 : Nat)) (0 : Int)) (List.getD (List.set [b1_0, b1_1, b1_2, b1_3, b1_4, b1_5, b1_6, b1_7, b1_8, b1_9] (Int.toNat (List.getD v11 (Int.toNat v13) (0 : Int))) (wrap64 (List.getD [b1_0, b1_1, b1_2, b1_3, b1_4, b1_5, b1_6, b1_7, b1_8, b1_9] (Int.toNat (List.getD v11 (Int.toNat v13) (0 : Int))) (0 : Int) + (1 : Int)))) ((0 : Nat) + (1 : Nat) + (1 : Nat) + (1 : Nat) + (1 : Nat) + (1 : Nat) + (1 : Nat)) (0 : Int)) (List.getD (List.set [b1_0, b1_1, b1_2, b1_3, b1_4, b1_5, b1_6, b1_7, b1_8, b1_9] (Int.toNat (List.getD v11 (Int.toNat v13) (0 : Int))) (wrap64 (List.getD [b1_0, b1_1, b1_2, b1_3, b1_4, b1_5, b1_6, b1_7, b1_8, b1_9] (Int.toNat (List.getD v11 (Int.toNat v13) (0 : Int))) (0 : Int) + (1 : Int)))) ((0 : Nat) + (1 : Nat) + (1 : Nat) + (1 : Nat) + (1 : Nat) + (1 : Nat) + (1 : Nat) + (1 : Nat)) (0 : Int)) (List.getD (List.set [b1_0, b1_1, b1_2, b1_3, b1_4, b1_5, b1_6, b1_7, b1_8, b1_9] (Int.toNat (List.getD v11 (Int.toNat v13) (0 : Int))) (wrap64 (List.getD [b1_0, b1_1, b1_2, b1_3, b1_4, b1_5, b1_6, b1_7, b1_8, b1_9] (Int.toNat (List.getD v11 (Int.toNat v13) (0 : Int))) (0 : Int) + (1 : Int)))) ((0 : Nat) + (1 : Nat) + (1 : Nat) + (1 : Nat) + (1 : Nat) + (1 : Nat) + (1 : Nat) + (1 : Nat) + (1 : Nat)) (0 : Int)) (List.getD (List.set [b1_0, b1_1, b1_2, b1_3, b1_4, b1_5, b1_6, b1_7, b1_8, b1_9] (Int.toNat (List.getD v11 (Int.toNat v13) (0 : Int))) (wrap64 (List.getD [b1_0, b1_1, b1_2, b1_3, b1_4, b1_5, b1_6, b1_7, b1_8, b1_9] (Int.toNat (List.getD v11 (Int.toNat v13) (0 : Int))) (0 : Int) + (1 : Int)))) ((0 : Nat) + (1 : Nat) + (1 : Nat) + (1 : Nat) + (1 : Nat) + (1 : Nat) + (1 : Nat) + (1 : Nat) + (1 : Nat) + (1 : Nat)) (0 : Int)) v11 v12 (wrap64 (v13 + (1 : Int))) else none else none else none else none else none else none else none else none else some (b1_0, b1_1, b1_2, b1_3, b1_4, b1_5, b1_6, b1_7, b1_8, b1_9)
noncomputable def f_impl_mostVoted_0i : Spec := { objs := [OSh.ro, OSh.box (77 : Nat) [Sh.int IntKind.i64, Sh.int IntKind.i64, Sh.int IntKind.i64, Sh.int IntKind.i64, Sh.int IntKind.i64, Sh.int IntKind.i64, Sh.int IntKind.i64, Sh.int IntKind.i64, Sh.int IntKind.i64, Sh.int IntKind.i64]], tmps := [((4 : Nat), TSh.at (Sh.ptr (1 : Nat) (0 : Nat))), ((11 : Nat), TSh.at (Sh.snap (0 : Nat) (Ty.int IntKind.i64))), ((12 : Nat), TSh.at (Sh.int IntKind.i64)), ((13 : Nat), TSh.at (Sh.int IntKind.i64))] }
noncomputable def f_impl_mostVoted_0o : Spec := { objs := [OSh.ro, OSh.box (77 : Nat) [Sh.int IntKind.i64, Sh.int IntKind.i64, Sh.int IntKind.i64, Sh.int IntKind.i64, Sh.int IntKind.i64, Sh.int IntKind.i64, Sh.int IntKind.i64, Sh.int IntKind.i64, Sh.int IntKind.i64, Sh.int IntKind.i64]], tmps := [((4 : Nat), TSh.at (Sh.ptr (1 : Nat) (0 : Nat)))] }
noncomputable def f_impl_mostVoted_0D : LoopDef (Tup r_impl_mostVoted × OutD) := .plain f_impl_mostVoted_0i f_impl_mostVoted_0o (Int × Int × Int × Int × Int × Int × Int × Int × Int × Int) (fun k x => f_impl_mostVoted_0 k x.1.2.1.1 x.1.2.1.2.1 x.1.2.1.2.2.1 x.1.2.1.2.2.2.1 x.1.2.1.2.2.2.2.1 x.1.2.1.2.2.2.2.2.1 x.1.2.1.2.2.2.2.2.2.1 x.1.2.1.2.2.2.2.2.2.2.1 x.1.2.1.2.2.2.2.2.2.2.2.1 x.1.2.1.2.2.2.2.2.2.2.2.2.1 x.2.2.1 x.2.2.2.1 x.2.2.2.2.1) (fun z => (((), (z.1, z.2.1, z.2.2.1, z.2.2.2.1, z.2.2.2.2.1, z.2.2.2.2.2.1, z.2.2.2.2.2.2.1, z.2.2.2.2.2.2.2.1, z.2.2.2.2.2.2.2.2.1, z.2.2.2.2.2.2.2.2.2, ()), ()), ((), ()))) (fun y => (y.1.2.1.1, y.1.2.1.2.1, y.1.2.1.2.2.1, y.1.2.1.2.2.2.1, y.1.2.1.2.2.2.2.1, y.1.2.1.2.2.2.2.2.1, y.1.2.1.2.2.2.2.2.2.1, y.1.2.1.2.2.2.2.2.2.2.1, y.1.2.1.2.2.2.2.2.2.2.2.1, y.1.2.1.2.2.2.2.2.2.2.2.2.1)) (fun _ => rfl)
noncomputable def f_impl_mostVoted_2 : Nat → Int → Int → Int → Int → Int → Int → Int → Int → Int → Int → Int → Int → Int → Int → Int → Int → Int → Int → Int → Int → Int → Int → Option (Int × Int × Int × Int × Int × Int × Int × Int × Int × Int × Int)
  | 0, _, _, _, _, _, _, _, _, _, _, _, _, _, _, _, _, _, _, _, _, _, _ => none
  | k + 1, b1_0, b1_1, b1_2, b1_3, b1_4, b1_5, b1_6, b1_7, b1_8, b1_9, v7, v23_0, v23_1, v23_2, v23_3, v23_4, v23_5, v23_6, v23_7, v23_8, v23_9, v24 =>
    if decide (v24 < (10 : Int)) = true then if (0 : Int) ≤ v24 then if v24 < (↑(10 : Nat) : Int) then if (0 : Int) ≤ v7 then if v7 < (↑(10 : Nat) : Int) then if Int.toNat v7 < List.length [b1_0, b1_1, b1_2, b1_3, b1_4, b1_5, b1_6, b1_7, b1_8, b1_9] then if decide (List.getD [v23_0, v23_1, v23_2, v23_3, v23_4, v23_5, v23_6, v23_7, v23_8, v23_9] (Int.toNat v24) (0 : Int) > List.getD [b1_0, b1_1, b1_2, b1_3, b1_4, b1_5, b1_6, b1_7, b1_8, b1_9] (Int.toNat v7) (0 : Int)) = true then f_impl_mostVoted_2 k b1_0 b1_1 b1_2 b1_3 b1_4 b1_5 b1_6 b1_7 b1_8 b1_9 v24 v23_0 v23_1 v23_2 v23_3 v23_4 v23_5 v23_6 v23_7 v23_8 v23_9 (wrap64 (v24 + (1 : Int))) else f_impl_mostVoted_2 k b1_0 b1_1 b1_2 b1_3 b1_4 b1_5 b1_6 b1_7 b1_8 b1_9 v7 v23_0 v23_1 v23_2 v23_3 v23_4 v23_5 v23_6 v23_7 v23_8 v23_9 (wrap64 (v24 + (1 : Int))) else none else none else none else none else none else some (b1_0, b1_1, b1_2, b1_3, b1_4, b1_5, b1_6, b1_7, b1_8, b1_9, v7)
noncomputable def f_impl_mostVoted_2i : Spec := { objs := [OSh.ro, OSh.box (77 : Nat) [Sh.int IntKind.i64, Sh.int IntKind.i64, Sh.int IntKind.i64, Sh.int IntKind.i64, Sh.int IntKind.i64, Sh.int IntKind.i64, Sh.int IntKind.i64, Sh.int IntKind.i64, Sh.int IntKind.i64, Sh.int IntKind.i64]], tmps := [((4 : Nat), TSh.at (Sh.ptr (1 : Nat) (0 : Nat))), ((7 : Nat), TSh.at (Sh.int IntKind.i64)), ((23 : Nat), TSh.agg [Sh.int IntKind.i64, Sh.int IntKind.i64, Sh.int IntKind.i64, Sh.int IntKind.i64, Sh.int IntKind.i64, Sh.int IntKind.i64, Sh.int IntKind.i64, Sh.int IntKind.i64, Sh.int IntKind.i64, Sh.int IntKind.i64]), ((24 : Nat), TSh.at (Sh.int IntKind.i64))] }
noncomputable def f_impl_mostVoted_2o : Spec := { objs := [OSh.ro, OSh.box (77 : Nat) [Sh.int IntKind.i64, Sh.int IntKind.i64, Sh.int IntKind.i64, Sh.int IntKind.i64, Sh.int IntKind.i64, Sh.int IntKind.i64, Sh.int IntKind.i64, Sh.int IntKind.i64, Sh.int IntKind.i64, Sh.int IntKind.i64]], tmps := [((4 : Nat), TSh.at (Sh.ptr (1 : Nat) (0 : Nat))), ((7 : Nat), TSh.at (Sh.int IntKind.i64))] }
noncomputable def f_impl_mostVoted_2D : LoopDef (Tup r_impl_mostVoted × OutD) := .plain f_impl_mostVoted_2i f_impl_mostVoted_2o (Int × Int × Int × Int × Int × Int × Int × Int × Int × Int × Int) (fun k x => f_impl_mostVoted_2 k x.1.2.1.1 x.1.2.1.2.1 x.1.2.1.2.2.1 x.1.2.1.2.2.2.1 x.1.2.1.2.2.2.2.1 x.1.2.1.2.2.2.2.2.1 x.1.2.1.2.2.2.2.2.2.1 x.1.2.1.2.2.2.2.2.2.2.1 x.1.2.1.2.2.2.2.2.2.2.2.1 x.1.2.1.2.2.2.2.2.2.2.2.2.1 x.2.2.1 x.2.2.2.1.1 x.2.2.2.1.2.1 x.2.2.2.1.2.2.1 x.2.2.2.1.2.2.2.1 x.2.2.2.1.2.2.2.2.1 x.2.2.2.1.2.2.2.2.2.1 x.2.2.2.1.2.2.2.2.2.2.1 x.2.2.2.1.2.2.2.2.2.2.2.1 x.2.2.2.1.2.2.2.2.2.2.2.2.1 x.2.2.2.1.2.2.2.2.2.2.2.2.2.1 x.2.2.2.2.1) (fun z => (((), (z.1, z.2.1, z.2.2.1, z.2.2.2.1, z.2.2.2.2.1, z.2.2.2.2.2.1, z.2.2.2.2.2.2.1, z.2.2.2.2.2.2.2.1, z.2.2.2.2.2.2.2.2.1, z.2.2.2.2.2.2.2.2.2.1, ()), ()), ((), z.2.2.2.2.2.2.2.2.2.2, ()))) (fun y => (y.1.2.1.1, y.1.2.1.2.1, y.1.2.1.2.2.1, y.1.2.1.2.2.2.1, y.1.2.1.2.2.2.2.1, y.1.2.1.2.2.2.2.2.1, y.1.2.1.2.2.2.2.2.2.1, y.1.2.1.2.2.2.2.2.2.2.1, y.1.2.1.2.2.2.2.2.2.2.2.1, y.1.2.1.2.2.2.2.2.2.2.2.2.1, y.2.2.1)) (fun _ => rfl)
noncomputable def f_impl_mostVoted : Nat → List Int → Option (Int × Int)
  | 0, _ => none
  | k + 1, p0 =>
    Option.bind (f_impl_mostVoted_0 k (0 : Int) (0 : Int) (0 : Int) (0 : Int) (0 : Int) (0 : Int) (0 : Int) (0 : Int) (0 : Int) (0 : Int) p0 (↑(List.length p0) : Int) (0 : Int)) fun z0 => Option.bind (f_impl_mostVoted_2 k (Prod.fst z0) (Prod.fst (Prod.snd z0)) (Prod.fst (Prod.snd (Prod.snd z0))) (Prod.fst (Prod.snd (Prod.snd (Prod.snd z0)))) (Prod.fst (Prod.snd (Prod.snd (Prod.snd (Prod.snd z0))))) (Prod.fst (Prod.snd (Prod.snd (Prod.snd (Prod.snd (Prod.snd z0)))))) (Prod.fst (Prod.snd (Prod.snd (Prod.snd (Prod.snd (Prod.snd (Prod.snd z0))))))) (Prod.fst (Prod.snd (Prod.snd (Prod.snd (Prod.snd (Prod.snd (Prod.snd (Prod.snd z0)))))))) (Prod.fst (Prod.snd (Prod.snd (Prod.snd (Prod.snd (Prod.snd (Prod.snd (Prod.snd (Prod.snd z0))))))))) (Prod.snd (Prod.snd (Prod.snd (Prod.snd (Prod.snd (Prod.snd (Prod.snd (Prod.snd (Prod.snd z0))))))))) (0 : Int) (Prod.fst z0) (Prod.fst (Prod.snd z0)) (Prod.fst (Prod.snd (Prod.snd z0))) (Prod.fst (Prod.snd (Prod.snd (Prod.snd z0)))) (Prod.fst (Prod.snd (Prod.snd (Prod.snd (Prod.snd z0))))) (Prod.fst (Prod.snd (Prod.snd (Prod.snd (Prod.snd (Prod.snd z0)))))) (Prod.fst (Prod.snd (Prod.snd (Prod.snd (Prod.snd (Prod.snd (Prod.snd z0))))))) (Prod.fst (Prod.snd (Prod.snd (Prod.snd (Prod.snd (Prod.snd (Prod.snd (Prod.snd z0)))))))) (Prod.fst (Prod.snd (Prod.snd (Prod.snd (Prod.snd (Prod.snd (Prod.snd (Prod.snd (Prod.snd z0))))))))) (Prod.snd (Prod.snd (Prod.snd (Prod.snd (Prod.snd (Prod.snd (Prod.snd (Prod.snd (Prod.snd z0))))))))) (0 : Int)) fun z1 => if (0 : Int) ≤ Prod.snd (Prod.snd (Prod.snd (Prod.snd (Prod.snd (Prod.snd (Prod.snd (Prod.snd (Prod.snd (Prod.snd z1))))))))) then if Prod.snd (Prod.snd (Prod.snd (Prod.snd (Prod.snd (Prod.snd (Prod.snd (Prod.snd (Prod.snd (Prod.snd z1))))))))) < (↑(10 : Nat) : Int) then if Int.toNat (Prod.snd (Prod.snd (Prod.snd (Prod.snd (Prod.snd (Prod.snd (Prod.snd (Prod.snd (Prod.snd (Prod.snd z1)))))))))) < List.length [Prod.fst z1, Prod.fst (Prod.snd z1), Prod.fst (Prod.snd (Prod.snd z1)), Prod.fst (Prod.snd (Prod.snd (Prod.snd z1))), Prod.fst (Prod.snd (Prod.snd (Prod.snd (Prod.snd z1)))), Prod.fst (Prod.snd (Prod.snd (Prod.snd (Prod.snd (Prod.snd z1))))), Prod.fst (Prod.snd (Prod.snd (Prod.snd (Prod.snd (Prod.snd (Prod.snd z1)))))), Prod.fst (Prod.snd (Prod.snd (Prod.snd (Prod.snd (Prod.snd (Prod.snd (Prod.snd z1))))))), Prod.fst (Prod.snd (Prod.snd (Prod.snd (Prod.snd (Prod.snd (Prod.snd (Prod.snd (Prod.snd z1)))))))), Prod.fst (Prod.snd (Prod.snd (Prod.snd (Prod.snd (Prod.snd (Prod.snd (Prod.snd (Prod.snd (Prod.snd z1)))))))))] then some (Prod.snd (Prod.snd (Prod.snd (Prod.snd (Prod.snd (Prod.snd (Prod.snd (Prod.snd (Prod.snd (Prod.snd z1))))))))), List.getD [Prod.fst z1, Prod.fst (Prod.snd z1), Prod.fst (Prod.snd (Prod.snd z1)), Prod.fst (Prod.snd (Prod.snd (Prod.snd z1))), Prod.fst (Prod.snd (Prod.snd (Prod.snd (Prod.snd z1)))), Prod.fst (Prod.snd (Prod.snd (Prod.snd (Prod.snd (Prod.snd z1))))), Prod.fst (Prod.snd (Prod.snd (Prod.snd (Prod.snd (Prod.snd (Prod.snd z1)))))), Prod.fst (Prod.snd (Prod.snd (Prod.snd (Prod.snd (Prod.snd (Prod.snd (Prod.snd z1))))))), Prod.fst (Prod.snd (Prod.snd (Prod.snd (Prod.snd (Prod.snd (Prod.snd (Prod.snd (Prod.snd z1)))))))), Prod.fst (Prod.snd (Prod.snd (Prod.snd (Prod.snd (Prod.snd (Prod.snd (Prod.snd (Prod.snd (Prod.snd z1)))))))))] (Int.toNat (Prod.snd (Prod.snd (Prod.snd (Prod.snd (Prod.snd (Prod.snd (Prod.snd (Prod.snd (Prod.snd (Prod.snd z1))))))))))) (0 : Int)) else none else none else none
noncomputable def d_impl_mostVoted : FnDef := .of q_impl_mostVoted r_impl_mostVoted (Int × Int) (fun k x => f_impl_mostVoted k x.1) to_impl_mostVoted of_impl_mostVoted to_of_impl_mostVoted
noncomputable def c_impl_mostVoted : Code := Try.f62.body.getD .skip
noncomputable def x_impl_mostVoted : Ctx (Tup r_impl_mostVoted × OutD) := { T := T, G := [], mvs := [], no := 0, n := 39, res := resOf T q_impl_mostVoted r_impl_mostVoted Try.f62.results.toList, loops := [(0, f_impl_mostVoted_0D.E), (2, f_impl_mostVoted_2D.E)], regs := [], conds := [] }
theorem g_impl_mostVoted (k : Nat) : EnvOK Try.prog k x_impl_mostVoted.G := (EnvOK.nil mixed)
noncomputable def f_impl_mostVoted_0B : Code := (findLoop 0 c_impl_mostVoted).getD .skip
theorem f_impl_mostVoted_0h (k : Nat) (x : f_impl_mostVoted_0i.D) : f_impl_mostVoted_0D.lp (k + 1) x = loopK x_impl_mostVoted f_impl_mostVoted_0D 0 f_impl_mostVoted_0B k x := by kernel_rfl
theorem f_impl_mostVoted_0l (k : Nat) : LOK Try.prog x_impl_mostVoted k f_impl_mostVoted_0B := LOK.by [] (by kernel_rfl) AllOK.nil
theorem f_impl_mostVoted_0z (x : f_impl_mostVoted_0i.D) : f_impl_mostVoted_0D.lp 0 x = none := by kernel_rfl
theorem f_impl_mostVoted_0ok (k : Nat) : EOK Try.prog x_impl_mostVoted k f_impl_mostVoted_0D.E (.block 0 (.loop f_impl_mostVoted_0B)) := loop_ok T_ok g_impl_mostVoted f_impl_mostVoted_0z f_impl_mostVoted_0h f_impl_mostVoted_0l k
noncomputable def f_impl_mostVoted_2B : Code := (findLoop 2 c_impl_mostVoted).getD .skip
theorem f_impl_mostVoted_2h (k : Nat) (x : f_impl_mostVoted_2i.D) : f_impl_mostVoted_2D.lp (k + 1) x = loopK x_impl_mostVoted f_impl_mostVoted_2D 2 f_impl_mostVoted_2B k x := by kernel_rfl
theorem f_impl_mostVoted_2l (k : Nat) : LOK Try.prog x_impl_mostVoted k f_impl_mostVoted_2B := LOK.by [] (by kernel_rfl) AllOK.nil
theorem f_impl_mostVoted_2z (x : f_impl_mostVoted_2i.D) : f_impl_mostVoted_2D.lp 0 x = none := by kernel_rfl
theorem f_impl_mostVoted_2ok (k : Nat) : EOK Try.prog x_impl_mostVoted k f_impl_mostVoted_2D.E (.block 2 (.loop f_impl_mostVoted_2B)) := loop_ok T_ok g_impl_mostVoted f_impl_mostVoted_2z f_impl_mostVoted_2h f_impl_mostVoted_2l k
theorem h_impl_mostVoted (k : Nat) (x : Tup d_impl_mostVoted.ps) : d_impl_mostVoted.f (k + 1) x = fnK d_impl_mostVoted x_impl_mostVoted c_impl_mostVoted k x := by kernel_rfl
theorem z_impl_mostVoted (x : Tup d_impl_mostVoted.ps) : d_impl_mostVoted.f 0 x = none := by kernel_rfl
theorem l_impl_mostVoted (k : Nat) : LOK Try.prog x_impl_mostVoted k c_impl_mostVoted := LOK.by [(f_impl_mostVoted_0D.E, .block 0 (.loop f_impl_mostVoted_0B)), (f_impl_mostVoted_2D.E, .block 2 (.loop f_impl_mostVoted_2B))] (by kernel_rfl) (AllOK.cons (f_impl_mostVoted_0ok k) (AllOK.cons (f_impl_mostVoted_2ok k) AllOK.nil))
theorem s_impl_mostVoted (k : Nat) : SoundAt Try.prog k 62 d_impl_mostVoted.E := @fn_all Try.prog d_impl_mostVoted x_impl_mostVoted 62 Try.f62 c_impl_mostVoted (by kernel_rfl) (by kernel_rfl) (by kernel_rfl) Try.func62 (by kernel_rfl) (by kernel_rfl) (by kernel_rfl) T_ok g_impl_mostVoted l_impl_mostVoted z_impl_mostVoted h_impl_mostVoted k
/-! function 64 -/
/-! function 66 -/
noncomputable def r_laws_szIntS : List PK := [{ t := Ty.int IntKind.i64 }]
noncomputable def q_laws_szIntS : List PK := [{ t := Ty.slice (3 : Nat) (Ty.int IntKind.i64) }, { t := Ty.int IntKind.i64 }]
noncomputable def to_laws_szIntS (r : Int) : Tup r_laws_szIntS × OutD := ((r, ()), none)
noncomputable def of_laws_szIntS : Tup r_laws_szIntS × OutD → Option (Int)
  | (a, none) => some (a.1)
  | _ => none
theorem to_of_laws_szIntS : ∀ b r, of_laws_szIntS b = some r → to_laws_szIntS r = b := by
  rintro ⟨a, o⟩ r h
  cases o with
  | none => injection h with h; subst h; rfl
  | some _ => cases h
noncomputable def f_laws_szIntS : Nat → List Int → Int → Option Int
  | 0, _, _ => none
  | k + 1, p0, p1 =>
    if decide (wrap64 (p1 - (↑(List.length p0) : Int)) < (0 : Int)) = true then some (-1 : Int) else some (wrap64 (p1 - (↑(List.length p0) : Int)))
noncomputable def d_laws_szIntS : FnDef := .of q_laws_szIntS r_laws_szIntS (Int) (fun k x => f_laws_szIntS k x.1 x.2.1) to_laws_szIntS of_laws_szIntS to_of_laws_szIntS
noncomputable def c_laws_szIntS : Code := Try.f66.body.getD .skip
noncomputable def x_laws_szIntS : Ctx (Tup r_laws_szIntS × OutD) := { T := T, G := [], mvs := [], no := 0, n := 12, res := resOf T q_laws_szIntS r_laws_szIntS Try.f66.results.toList, loops := [], regs := [], conds := [] }
theorem g_laws_szIntS (k : Nat) : EnvOK Try.prog k x_laws_szIntS.G := (EnvOK.nil mixed)
theorem h_laws_szIntS (k : Nat) (x : Tup d_laws_szIntS.ps) : d_laws_szIntS.f (k + 1) x = fnK d_laws_szIntS x_laws_szIntS c_laws_szIntS k x := by kernel_rfl
theorem z_laws_szIntS (x : Tup d_laws_szIntS.ps) : d_laws_szIntS.f 0 x = none := by kernel_rfl
theorem l_laws_szIntS (k : Nat) : LOK Try.prog x_laws_szIntS k c_laws_szIntS := LOK.by [] (by kernel_rfl) AllOK.nil
theorem s_laws_szIntS (k : Nat) : SoundAt Try.prog k 66 d_laws_szIntS.E := @fn_all Try.prog d_laws_szIntS x_laws_szIntS 66 Try.f66 c_laws_szIntS (by kernel_rfl) (by kernel_rfl) (by kernel_rfl) Try.func66 (by kernel_rfl) (by kernel_rfl) (by kernel_rfl) T_ok g_laws_szIntS l_laws_szIntS z_laws_szIntS h_laws_szIntS k
/-! function 67 -/
/-! function 71 -/
/-! function 74 -/
noncomputable def r_spec_voPlace : List PK := [{ t := Ty.slice (3 : Nat) (Ty.int IntKind.i64) }]
noncomputable def q_spec_voPlace : List PK := [{ t := Ty.slice (25 : Nat) (Ty.slice (3 : Nat) (Ty.int IntKind.i64)) }, { t := Ty.int IntKind.i64 }]
noncomputable def to_spec_voPlace (r : List Int) : Tup r_spec_voPlace × OutD := ((r, ()), none)
noncomputable def of_spec_voPlace : Tup r_spec_voPlace × OutD → Option (List Int)
  | (a, none) => some (a.1)
  | _ => none
theorem to_of_spec_voPlace : ∀ b r, of_spec_voPlace b = some r → to_spec_voPlace r = b := by
  rintro ⟨a, o⟩ r h
  cases o with
  | none => injection h with h; subst h; rfl
  | some _ => cases h
noncomputable def f_spec_voPlace_0 : Nat → List Int → Int → List (List Int) → Int → Int → Option (List Int)
  | 0, _, _, _, _, _ => none
  | k + 1, o1, v1, v8, v9, v10 =>
    if decide (v10 < v9) = true then if (0 : Int) ≤ v10 then if v10 < (↑(List.length v8) : Int) then if (0 : Int) ≤ v1 then if v1 < (↑(List.length (List.getD v8 (Int.toNat v10) [])) : Int) then if List.length o1 + List.length [List.getD (List.getD v8 (Int.toNat v10) []) (Int.toNat v1) (0 : Int)] ≤ (140737488355328 / 8 : Nat) then f_spec_voPlace_0 k (o1 ++ [List.getD (List.getD v8 (Int.toNat v10) []) (Int.toNat v1) (0 : Int)]) v1 v8 v9 (wrap64 (v10 + (1 : Int))) else none else none else none else none else none else some o1
noncomputable def f_spec_voPlace_0i : Spec := { objs := [OSh.ro, OSh.row true (3 : Nat) (Ty.int IntKind.i64)], tmps := [((1 : Nat), TSh.at (Sh.int IntKind.i64)), ((5 : Nat), TSh.at (Sh.sl (1 : Nat))), ((8 : Nat), TSh.at (Sh.snap (0 : Nat) (Ty.slice (3 : Nat) (Ty.int IntKind.i64)))), ((9 : Nat), TSh.at (Sh.int IntKind.i64)), ((10 : Nat), TSh.at (Sh.int IntKind.i64))] }
noncomputable def f_spec_voPlace_0o : Spec := { objs := [OSh.ro, OSh.row true (3 : Nat) (Ty.int IntKind.i64)], tmps := [((5 : Nat), TSh.at (Sh.sl (1 : Nat)))] }
noncomputable def f_spec_voPlace_0D : LoopDef (Tup r_spec_voPlace × OutD) := .plain f_spec_voPlace_0i f_spec_voPlace_0o (List Int) (fun k x => f_spec_voPlace_0 k x.1.2.1 x.2.1 x.2.2.2.1 x.2.2.2.2.1 x.2.2.2.2.2.1) (fun z => (((), z, ()), ((), ()))) (fun y => (y.1.2.1)) (fun _ => rfl)
noncomputable def f_spec_voPlace : Nat → List (List Int) → Int → Option (List Int)
  | 0, _, _ => none
  | k + 1, p0, p1 =>
    Option.bind (f_spec_voPlace_0 k [] p1 p0 (↑(List.length p0) : Int) (0 : Int)) fun z0 => some z0
noncomputable def d_spec_voPlace : FnDef := .of q_spec_voPlace r_spec_voPlace (List Int) (fun k x => f_spec_voPlace k x.1 x.2.1) to_spec_voPlace of_spec_voPlace to_of_spec_voPlace
noncomputable def c_spec_voPlace : Code := Try.f74.body.getD .skip
noncomputable def x_spec_voPlace : Ctx (Tup r_spec_voPlace × OutD) := { T := T, G := [], mvs := [], no := 0, n := 23, res := resOf T q_spec_voPlace r_spec_voPlace Try.f74.results.toList, loops := [(0, f_spec_voPlace_0D.E)], regs := [], conds := [] }
theorem g_spec_voPlace (k : Nat) : EnvOK Try.prog k x_spec_voPlace.G := (EnvOK.nil mixed)
noncomputable def f_spec_voPlace_0B : Code := (findLoop 0 c_spec_voPlace).getD .skip
theorem f_spec_voPlace_0h (k : Nat) (x : f_spec_voPlace_0i.D) : f_spec_voPlace_0D.lp (k + 1) x = loopK x_spec_voPlace f_spec_voPlace_0D 0 f_spec_voPlace_0B k x := by kernel_rfl
theorem f_spec_voPlace_0l (k : Nat) : LOK Try.prog x_spec_voPlace k f_spec_voPlace_0B := LOK.by [] (by kernel_rfl) AllOK.nil
theorem f_spec_voPlace_0z (x : f_spec_voPlace_0i.D) : f_spec_voPlace_0D.lp 0 x = none := by kernel_rfl
theorem f_spec_voPlace_0ok (k : Nat) : EOK Try.prog x_spec_voPlace k f_spec_voPlace_0D.E (.block 0 (.loop f_spec_voPlace_0B)) := loop_ok T_ok g_spec_voPlace f_spec_voPlace_0z f_spec_voPlace_0h f_spec_voPlace_0l k
theorem h_spec_voPlace (k : Nat) (x : Tup d_spec_voPlace.ps) : d_spec_voPlace.f (k + 1) x = fnK d_spec_voPlace x_spec_voPlace c_spec_voPlace k x := by kernel_rfl
theorem z_spec_voPlace (x : Tup d_spec_voPlace.ps) : d_spec_voPlace.f 0 x = none := by kernel_rfl
theorem l_spec_voPlace (k : Nat) : LOK Try.prog x_spec_voPlace k c_spec_voPlace := LOK.by [(f_spec_voPlace_0D.E, .block 0 (.loop f_spec_voPlace_0B))] (by kernel_rfl) (AllOK.cons (f_spec_voPlace_0ok k) AllOK.nil)
theorem s_spec_voPlace (k : Nat) : SoundAt Try.prog k 74 d_spec_voPlace.E := @fn_all Try.prog d_spec_voPlace x_spec_voPlace 74 Try.f74 c_spec_voPlace (by kernel_rfl) (by kernel_rfl) (by kernel_rfl) Try.func74 (by kernel_rfl) (by kernel_rfl) (by kernel_rfl) T_ok g_spec_voPlace l_spec_voPlace z_spec_voPlace h_spec_voPlace k
/-! function 76 -/
noncomputable def r_impl_column : List PK := [{ t := Ty.slice (3 : Nat) (Ty.int IntKind.i64) }]
noncomputable def q_impl_column : List PK := [{ t := Ty.slice (25 : Nat) (Ty.slice (3 : Nat) (Ty.int IntKind.i64)) }, { t := Ty.int IntKind.i64 }]
noncomputable def to_impl_column (r : List Int) : Tup r_impl_column × OutD := ((r, ()), none)
noncomputable def of_impl_column : Tup r_impl_column × OutD → Option (List Int)
  | (a, none) => some (a.1)
  | _ => none
theorem to_of_impl_column : ∀ b r, of_impl_column b = some r → to_impl_column r = b := by
  rintro ⟨a, o⟩ r h
  cases o with
  | none => injection h with h; subst h; rfl
  | some _ => cases h
noncomputable def f_impl_column_0 : Nat → List Int → Int → List (List Int) → Int → Int → Option (List Int)
  | 0, _, _, _, _, _ => none
  | k + 1, o1, v1, v9, v10, v11 =>
    if decide (v11 < v10) = true then if (0 : Int) ≤ v11 then if v11 < (↑(List.length v9) : Int) then if (0 : Int) ≤ v1 then if v1 < (↑(List.length (List.getD v9 (Int.toNat v11) [])) : Int) then if List.length o1 + List.length [List.getD (List.getD v9 (Int.toNat v11) []) (Int.toNat v1) (0 : Int)] ≤ (140737488355328 / 8 : Nat) then f_impl_column_0 k (o1 ++ [List.getD (List.getD v9 (Int.toNat v11) []) (Int.toNat v1) (0 : Int)]) v1 v9 v10 (wrap64 (v11 + (1 : Int))) else none else none else none else none else none else some o1
noncomputable def f_impl_column_0i : Spec := { objs := [OSh.ro, OSh.row true (3 : Nat) (Ty.int IntKind.i64)], tmps := [((1 : Nat), TSh.at (Sh.int IntKind.i64)), ((5 : Nat), TSh.at (Sh.sl (1 : Nat))), ((9 : Nat), TSh.at (Sh.snap (0 : Nat) (Ty.slice (3 : Nat) (Ty.int IntKind.i64)))), ((10 : Nat), TSh.at (Sh.int IntKind.i64)), ((11 : Nat), TSh.at (Sh.int IntKind.i64))] }
noncomputable def f_impl_column_0o : Spec := { objs := [OSh.ro, OSh.row true (3 : Nat) (Ty.int IntKind.i64)], tmps := [((5 : Nat), TSh.at (Sh.sl (1 : Nat)))] }
noncomputable def f_impl_column_0D : LoopDef (Tup r_impl_column × OutD) := .plain f_impl_column_0i f_impl_column_0o (List Int) (fun k x => f_impl_column_0 k x.1.2.1 x.2.1 x.2.2.2.1 x.2.2.2.2.1 x.2.2.2.2.2.1) (fun z => (((), z, ()), ((), ()))) (fun y => (y.1.2.1)) (fun _ => rfl)
noncomputable def f_impl_column : Nat → List (List Int) → Int → Option (List Int)
  | 0, _, _ => none
  | k + 1, p0, p1 =>
    Option.bind (f_impl_column_0 k [] p1 p0 (↑(List.length p0) : Int) (0 : Int)) fun z0 => some z0
noncomputable def d_impl_column : FnDef := .of q_impl_column r_impl_column (List Int) (fun k x => f_impl_column k x.1 x.2.1) to_impl_column of_impl_column to_of_impl_column
noncomputable def c_impl_column : Code := Try.f76.body.getD .skip
noncomputable def x_impl_column : Ctx (Tup r_impl_column × OutD) := { T := T, G := [], mvs := [], no := 0, n := 24, res := resOf T q_impl_column r_impl_column Try.f76.results.toList, loops := [(0, f_impl_column_0D.E)], regs := [], conds := [] }
theorem g_impl_column (k : Nat) : EnvOK Try.prog k x_impl_column.G := (EnvOK.nil mixed)
noncomputable def f_impl_column_0B : Code := (findLoop 0 c_impl_column).getD .skip
theorem f_impl_column_0h (k : Nat) (x : f_impl_column_0i.D) : f_impl_column_0D.lp (k + 1) x = loopK x_impl_column f_impl_column_0D 0 f_impl_column_0B k x := by kernel_rfl
theorem f_impl_column_0l (k : Nat) : LOK Try.prog x_impl_column k f_impl_column_0B := LOK.by [] (by kernel_rfl) AllOK.nil
theorem f_impl_column_0z (x : f_impl_column_0i.D) : f_impl_column_0D.lp 0 x = none := by kernel_rfl
theorem f_impl_column_0ok (k : Nat) : EOK Try.prog x_impl_column k f_impl_column_0D.E (.block 0 (.loop f_impl_column_0B)) := loop_ok T_ok g_impl_column f_impl_column_0z f_impl_column_0h f_impl_column_0l k
theorem h_impl_column (k : Nat) (x : Tup d_impl_column.ps) : d_impl_column.f (k + 1) x = fnK d_impl_column x_impl_column c_impl_column k x := by kernel_rfl
theorem z_impl_column (x : Tup d_impl_column.ps) : d_impl_column.f 0 x = none := by kernel_rfl
theorem l_impl_column (k : Nat) : LOK Try.prog x_impl_column k c_impl_column := LOK.by [(f_impl_column_0D.E, .block 0 (.loop f_impl_column_0B))] (by kernel_rfl) (AllOK.cons (f_impl_column_0ok k) AllOK.nil)
theorem s_impl_column (k : Nat) : SoundAt Try.prog k 76 d_impl_column.E := @fn_all Try.prog d_impl_column x_impl_column 76 Try.f76 c_impl_column (by kernel_rfl) (by kernel_rfl) (by kernel_rfl) Try.func76 (by kernel_rfl) (by kernel_rfl) (by kernel_rfl) T_ok g_impl_column l_impl_column z_impl_column h_impl_column k
/-! function 79 -/
noncomputable def r_spec_l1Same : List PK := [{ t := Ty.bool }]
noncomputable def q_spec_l1Same : List PK := [{ t := Ty.slice (3 : Nat) (Ty.int IntKind.i64) }, { t := Ty.slice (3 : Nat) (Ty.int IntKind.i64) }]
noncomputable def to_spec_l1Same (r : Bool) : Tup r_spec_l1Same × OutD := ((r, ()), none)
noncomputable def of_spec_l1Same : Tup r_spec_l1Same × OutD → Option (Bool)
  | (a, none) => some (a.1)
  | _ => none
theorem to_of_spec_l1Same : ∀ b r, of_spec_l1Same b = some r → to_spec_l1Same r = b := by
  rintro ⟨a, o⟩ r h
  cases o with
  | none => injection h with h; subst h; rfl
  | some _ => cases h
noncomputable def f_spec_l1Same_0 : Nat → List Int → List Int → Int → Int → Option (LR Unit Bool)
  | 0, _, _, _, _ => none
  | k + 1, v0, v1, v12, v13 =>
    if decide (v13 < v12) = true then if (0 : Int) ≤ v13 then if v13 < (↑(List.length v0) : Int) then if (0 : Int) ≤ v13 then if v13 < (↑(List.length v1) : Int) then if decide (List.getD v0 (Int.toNat v13) (0 : Int) ≠ List.getD v1 (Int.toNat v13) (0 : Int)) = true then some (LR.ret false) else f_spec_l1Same_0 k v0 v1 v12 (wrap64 (v13 + (1 : Int))) else none else none else none else none else some (LR.go ())
noncomputable def f_spec_l1Same_0i : Spec := { objs := [OSh.ro], tmps := [((0 : Nat), TSh.at (Sh.snap (0 : Nat) (Ty.int IntKind.i64))), ((1 : Nat), TSh.at (Sh.snap (0 : Nat) (Ty.int IntKind.i64))), ((12 : Nat), TSh.at (Sh.int IntKind.i64)), ((13 : Nat), TSh.at (Sh.int IntKind.i64))] }
noncomputable def f_spec_l1Same_0o : Spec := { objs := [OSh.ro], tmps := [] }
noncomputable def f_spec_l1Same_0D : LoopDef (Tup r_spec_l1Same × OutD) := .rets f_spec_l1Same_0i f_spec_l1Same_0o (Unit) (Bool) (fun k x => f_spec_l1Same_0 k x.2.1 x.2.2.1 x.2.2.2.1 x.2.2.2.2.1) (fun z => (((), ()), (()))) (fun y => ()) (fun _ => rfl) to_spec_l1Same of_spec_l1Same to_of_spec_l1Same
noncomputable def f_spec_l1Same : Nat → List Int → List Int → Option Bool
  | 0, _, _ => none
  | k + 1, p0, p1 =>
    if decide ((↑(List.length p0) : Int) ≠ (↑(List.length p1) : Int)) = true then some false else Option.bind (f_spec_l1Same_0 k p0 p1 (↑(List.length p0) : Int) (0 : Int)) fun z0 => LR.on z0 (fun y0 => some true) fun r0 => some r0
noncomputable def d_spec_l1Same : FnDef := .of q_spec_l1Same r_spec_l1Same (Bool) (fun k x => f_spec_l1Same k x.1 x.2.1) to_spec_l1Same of_spec_l1Same to_of_spec_l1Same
noncomputable def c_spec_l1Same : Code := Try.f79.body.getD .skip
noncomputable def x_spec_l1Same : Ctx (Tup r_spec_l1Same × OutD) := { T := T, G := [], mvs := [], no := 0, n := 26, res := resOf T q_spec_l1Same r_spec_l1Same Try.f79.results.toList, loops := [(0, f_spec_l1Same_0D.E)], regs := [], conds := [] }
theorem g_spec_l1Same (k : Nat) : EnvOK Try.prog k x_spec_l1Same.G := (EnvOK.nil mixed)
noncomputable def f_spec_l1Same_0B : Code := (findLoop 0 c_spec_l1Same).getD .skip
theorem f_spec_l1Same_0h (k : Nat) (x : f_spec_l1Same_0i.D) : f_spec_l1Same_0D.lp (k + 1) x = loopK x_spec_l1Same f_spec_l1Same_0D 0 f_spec_l1Same_0B k x := by kernel_rfl
theorem f_spec_l1Same_0l (k : Nat) : LOK Try.prog x_spec_l1Same k f_spec_l1Same_0B := LOK.by [] (by kernel_rfl) AllOK.nil
theorem f_spec_l1Same_0z (x : f_spec_l1Same_0i.D) : f_spec_l1Same_0D.lp 0 x = none := by kernel_rfl
theorem f_spec_l1Same_0ok (k : Nat) : EOK Try.prog x_spec_l1Same k f_spec_l1Same_0D.E (.block 0 (.loop f_spec_l1Same_0B)) := loop_ok T_ok g_spec_l1Same f_spec_l1Same_0z f_spec_l1Same_0h f_spec_l1Same_0l k
theorem h_spec_l1Same (k : Nat) (x : Tup d_spec_l1Same.ps) : d_spec_l1Same.f (k + 1) x = fnK d_spec_l1Same x_spec_l1Same c_spec_l1Same k x := by kernel_rfl
theorem z_spec_l1Same (x : Tup d_spec_l1Same.ps) : d_spec_l1Same.f 0 x = none := by kernel_rfl
theorem l_spec_l1Same (k : Nat) : LOK Try.prog x_spec_l1Same k c_spec_l1Same := LOK.by [(f_spec_l1Same_0D.E, .block 0 (.loop f_spec_l1Same_0B))] (by kernel_rfl) (AllOK.cons (f_spec_l1Same_0ok k) AllOK.nil)
theorem s_spec_l1Same (k : Nat) : SoundAt Try.prog k 79 d_spec_l1Same.E := @fn_all Try.prog d_spec_l1Same x_spec_l1Same 79 Try.f79 c_spec_l1Same (by kernel_rfl) (by kernel_rfl) (by kernel_rfl) Try.func79 (by kernel_rfl) (by kernel_rfl) (by kernel_rfl) T_ok g_spec_l1Same l_spec_l1Same z_spec_l1Same h_spec_l1Same k
/-! function 80 -/
noncomputable def r_slices_Equal_int_int : List PK := [{ t := Ty.bool }]
noncomputable def q_slices_Equal_int_int : List PK := [{ t := Ty.slice (3 : Nat) (Ty.int IntKind.i64) }, { t := Ty.slice (3 : Nat) (Ty.int IntKind.i64) }]
noncomputable def to_slices_Equal_int_int (r : Bool) : Tup r_slices_Equal_int_int × OutD := ((r, ()), none)
noncomputable def of_slices_Equal_int_int : Tup r_slices_Equal_int_int × OutD → Option (Bool)
  | (a, none) => some (a.1)
  | _ => none
theorem to_of_slices_Equal_int_int : ∀ b r, of_slices_Equal_int_int b = some r → to_slices_Equal_int_int r = b := by
  rintro ⟨a, o⟩ r h
  cases o with
  | none => injection h with h; subst h; rfl
  | some _ => cases h
noncomputable def f_slices_Equal_int_int_0 : Nat → List Int → List Int → Int → Int → Option (LR Unit Bool)
  | 0, _, _, _, _ => none
  | k + 1, v0, v1, v12, v13 =>
    if decide (v13 < v12) = true then if (0 : Int) ≤ v13 then if v13 < (↑(List.length v0) : Int) then if (0 : Int) ≤ v13 then if v13 < (↑(List.length v1) : Int) then if decide (List.getD v0 (Int.toNat v13) (0 : Int) ≠ List.getD v1 (Int.toNat v13) (0 : Int)) = true then some (LR.ret false) else f_slices_Equal_int_int_0 k v0 v1 v12 (wrap64 (v13 + (1 : Int))) else none else none else none else none else some (LR.go ())
noncomputable def f_slices_Equal_int_int_0i : Spec := { objs := [OSh.ro], tmps := [((0 : Nat), TSh.at (Sh.snap (0 : Nat) (Ty.int IntKind.i64))), ((1 : Nat), TSh.at (Sh.snap (0 : Nat) (Ty.int IntKind.i64))), ((12 : Nat), TSh.at (Sh.int IntKind.i64)), ((13 : Nat), TSh.at (Sh.int IntKind.i64))] }
noncomputable def f_slices_Equal_int_int_0o : Spec := { objs := [OSh.ro], tmps := [] }
noncomputable def f_slices_Equal_int_int_0D : LoopDef (Tup r_slices_Equal_int_int × OutD) := .rets f_slices_Equal_int_int_0i f_slices_Equal_int_int_0o (Unit) (Bool) (fun k x => f_slices_Equal_int_int_0 k x.2.1 x.2.2.1 x.2.2.2.1 x.2.2.2.2.1) (fun z => (((), ()), (()))) (fun y => ()) (fun _ => rfl) to_slices_Equal_int_int of_slices_Equal_int_int to_of_slices_Equal_int_int
noncomputable def f_slices_Equal_int_int : Nat → List Int → List Int → Option Bool
  | 0, _, _ => none
  | k + 1, p0, p1 =>
    if decide ((↑(List.length p0) : Int) ≠ (↑(List.length p1) : Int)) = true then some false else Option.bind (f_slices_Equal_int_int_0 k p0 p1 (↑(List.length p0) : Int) (0 : Int)) fun z0 => LR.on z0 (fun y0 => some true) fun r0 => some r0
noncomputable def d_slices_Equal_int_int : FnDef := .of q_slices_Equal_int_int r_slices_Equal_int_int (Bool) (fun k x => f_slices_Equal_int_int k x.1 x.2.1) to_slices_Equal_int_int of_slices_Equal_int_int to_of_slices_Equal_int_int
noncomputable def c_slices_Equal_int_int : Code := Try.f80.body.getD .skip
noncomputable def x_slices_Equal_int_int : Ctx (Tup r_slices_Equal_int_int × OutD) := { T := T, G := [], mvs := [], no := 0, n := 26, res := resOf T q_slices_Equal_int_int r_slices_Equal_int_int Try.f80.results.toList, loops := [(0, f_slices_Equal_int_int_0D.E)], regs := [], conds := [] }
theorem g_slices_Equal_int_int (k : Nat) : EnvOK Try.prog k x_slices_Equal_int_int.G := (EnvOK.nil mixed)
noncomputable def f_slices_Equal_int_int_0B : Code := (findLoop 0 c_slices_Equal_int_int).getD .skip
theorem f_slices_Equal_int_int_0h (k : Nat) (x : f_slices_Equal_int_int_0i.D) : f_slices_Equal_int_int_0D.lp (k + 1) x = loopK x_slices_Equal_int_int f_slices_Equal_int_int_0D 0 f_slices_Equal_int_int_0B k x := by kernel_rfl
theorem f_slices_Equal_int_int_0l (k : Nat) : LOK Try.prog x_slices_Equal_int_int k f_slices_Equal_int_int_0B := LOK.by [] (by kernel_rfl) AllOK.nil
theorem f_slices_Equal_int_int_0z (x : f_slices_Equal_int_int_0i.D) : f_slices_Equal_int_int_0D.lp 0 x = none := by kernel_rfl
theorem f_slices_Equal_int_int_0ok (k : Nat) : EOK Try.prog x_slices_Equal_int_int k f_slices_Equal_int_int_0D.E (.block 0 (.loop f_slices_Equal_int_int_0B)) := loop_ok T_ok g_slices_Equal_int_int f_slices_Equal_int_int_0z f_slices_Equal_int_int_0h f_slices_Equal_int_int_0l k
theorem h_slices_Equal_int_int (k : Nat) (x : Tup d_slices_Equal_int_int.ps) : d_slices_Equal_int_int.f (k + 1) x = fnK d_slices_Equal_int_int x_slices_Equal_int_int c_slices_Equal_int_int k x := by kernel_rfl
theorem z_slices_Equal_int_int (x : Tup d_slices_Equal_int_int.ps) : d_slices_Equal_int_int.f 0 x = none := by kernel_rfl
theorem l_slices_Equal_int_int (k : Nat) : LOK Try.prog x_slices_Equal_int_int k c_slices_Equal_int_int := LOK.by [(f_slices_Equal_int_int_0D.E, .block 0 (.loop f_slices_Equal_int_int_0B))] (by kernel_rfl) (AllOK.cons (f_slices_Equal_int_int_0ok k) AllOK.nil)
theorem s_slices_Equal_int_int (k : Nat) : SoundAt Try.prog k 80 d_slices_Equal_int_int.E := @fn_all Try.prog d_slices_Equal_int_int x_slices_Equal_int_int 80 Try.f80 c_slices_Equal_int_int (by kernel_rfl) (by kernel_rfl) (by kernel_rfl) Try.func80 (by kernel_rfl) (by kernel_rfl) (by kernel_rfl) T_ok g_slices_Equal_int_int l_slices_Equal_int_int z_slices_Equal_int_int h_slices_Equal_int_int k
/-! function 81 -/
/-! function 88 -/
noncomputable def r_impl_areDigits : List PK := [{ t := Ty.bool }]
noncomputable def q_impl_areDigits : List PK := [{ t := Ty.slice (3 : Nat) (Ty.int IntKind.i64) }]
noncomputable def to_impl_areDigits (r : Bool) : Tup r_impl_areDigits × OutD := ((r, ()), none)
noncomputable def of_impl_areDigits : Tup r_impl_areDigits × OutD → Option (Bool)
  | (a, none) => some (a.1)
  | _ => none
theorem to_of_impl_areDigits : ∀ b r, of_impl_areDigits b = some r → to_impl_areDigits r = b := by
  rintro ⟨a, o⟩ r h
  cases o with
  | none => injection h with h; subst h; rfl
  | some _ => cases h
noncomputable def f_impl_areDigits_0 : Nat → List Int → Int → Int → Option (LR Unit Bool)
  | 0, _, _, _ => none
  | k + 1, v5, v6, v7 =>
    if decide (v7 < v6) = true then if (0 : Int) ≤ v7 then if v7 < (↑(List.length v5) : Int) then if decide (List.getD v5 (Int.toNat v7) (0 : Int) < (0 : Int)) = true then some (LR.ret false) else if decide (List.getD v5 (Int.toNat v7) (0 : Int) > (9 : Int)) = true then some (LR.ret false) else f_impl_areDigits_0 k v5 v6 (wrap64 (v7 + (1 : Int))) else none else none else some (LR.go ())
noncomputable def f_impl_areDigits_0i : Spec := { objs := [OSh.ro], tmps := [((5 : Nat), TSh.at (Sh.snap (0 : Nat) (Ty.int IntKind.i64))), ((6 : Nat), TSh.at (Sh.int IntKind.i64)), ((7 : Nat), TSh.at (Sh.int IntKind.i64))] }
noncomputable def f_impl_areDigits_0o : Spec := { objs := [OSh.ro], tmps := [] }
noncomputable def f_impl_areDigits_0D : LoopDef (Tup r_impl_areDigits × OutD) := .rets f_impl_areDigits_0i f_impl_areDigits_0o (Unit) (Bool) (fun k x => f_impl_areDigits_0 k x.2.1 x.2.2.1 x.2.2.2.1) (fun z => (((), ()), (()))) (fun y => ()) (fun _ => rfl) to_impl_areDigits of_impl_areDigits to_of_impl_areDigits
noncomputable def f_impl_areDigits : Nat → List Int → Option Bool
  | 0, _ => none
  | k + 1, p0 =>
    Option.bind (f_impl_areDigits_0 k p0 (↑(List.length p0) : Int) (0 : Int)) fun z0 => LR.on z0 (fun y0 => some true) fun r0 => some r0
noncomputable def d_impl_areDigits : FnDef := .of q_impl_areDigits r_impl_areDigits (Bool) (fun k x => f_impl_areDigits k x.1) to_impl_areDigits of_impl_areDigits to_of_impl_areDigits
noncomputable def c_impl_areDigits : Code := Try.f88.body.getD .skip
noncomputable def x_impl_areDigits : Ctx (Tup r_impl_areDigits × OutD) := { T := T, G := [], mvs := [], no := 0, n := 18, res := resOf T q_impl_areDigits r_impl_areDigits Try.f88.results.toList, loops := [(0, f_impl_areDigits_0D.E)], regs := [], conds := [] }
theorem g_impl_areDigits (k : Nat) : EnvOK Try.prog k x_impl_areDigits.G := (EnvOK.nil mixed)
noncomputable def f_impl_areDigits_0B : Code := (findLoop 0 c_impl_areDigits).getD .skip
theorem f_impl_areDigits_0h (k : Nat) (x : f_impl_areDigits_0i.D) : f_impl_areDigits_0D.lp (k + 1) x = loopK x_impl_areDigits f_impl_areDigits_0D 0 f_impl_areDigits_0B k x := by kernel_rfl
theorem f_impl_areDigits_0l (k : Nat) : LOK Try.prog x_impl_areDigits k f_impl_areDigits_0B := LOK.by [] (by kernel_rfl) AllOK.nil
theorem f_impl_areDigits_0z (x : f_impl_areDigits_0i.D) : f_impl_areDigits_0D.lp 0 x = none := by kernel_rfl
theorem f_impl_areDigits_0ok (k : Nat) : EOK Try.prog x_impl_areDigits k f_impl_areDigits_0D.E (.block 0 (.loop f_impl_areDigits_0B)) := loop_ok T_ok g_impl_areDigits f_impl_areDigits_0z f_impl_areDigits_0h f_impl_areDigits_0l k
theorem h_impl_areDigits (k : Nat) (x : Tup d_impl_areDigits.ps) : d_impl_areDigits.f (k + 1) x = fnK d_impl_areDigits x_impl_areDigits c_impl_areDigits k x := by kernel_rfl
theorem z_impl_areDigits (x : Tup d_impl_areDigits.ps) : d_impl_areDigits.f 0 x = none := by kernel_rfl
theorem l_impl_areDigits (k : Nat) : LOK Try.prog x_impl_areDigits k c_impl_areDigits := LOK.by [(f_impl_areDigits_0D.E, .block 0 (.loop f_impl_areDigits_0B))] (by kernel_rfl) (AllOK.cons (f_impl_areDigits_0ok k) AllOK.nil)
theorem s_impl_areDigits (k : Nat) : SoundAt Try.prog k 88 d_impl_areDigits.E := @fn_all Try.prog d_impl_areDigits x_impl_areDigits 88 Try.f88 c_impl_areDigits (by kernel_rfl) (by kernel_rfl) (by kernel_rfl) Try.func88 (by kernel_rfl) (by kernel_rfl) (by kernel_rfl) T_ok g_impl_areDigits l_impl_areDigits z_impl_areDigits h_impl_areDigits k
/-! function 89 -/
/-! function 91 -/
/-! function 93 -/
/-! function 94 -/
/-! function 95 -/
/-! function 96 -/
/-! function 98 -/
/-! function 101 -/
/-! function 104 -/
/-! function 105 -/
end
end Go.Proofs.Ytcmndffpmjinlaa.Vs

set_option maxRecDepth 100000
set_option linter.unusedVariables false
set_option linter.unusedSimpArgs false
namespace Go.Proofs.Ytcmndffpmjinlaa.Vs
open Go.RowKit
noncomputable section
/-! function 22 -/
/-! function 26 -/
/-! function 31 -/
/-! function 36 -/
noncomputable def r_laws_szIntSS : List PK := [{ t := Ty.int IntKind.i64 }]
noncomputable def q_laws_szIntSS : List PK := [{ t := Ty.slice (25 : Nat) (Ty.slice (3 : Nat) (Ty.int IntKind.i64)) }, { t := Ty.int IntKind.i64 }]
noncomputable def to_laws_szIntSS (r : Int) : Tup r_laws_szIntSS × OutD := ((r, ()), none)
noncomputable def of_laws_szIntSS : Tup r_laws_szIntSS × OutD → Option (Int)
  | (a, none) => some (a.1)
  | _ => none
theorem to_of_laws_szIntSS : ∀ b r, of_laws_szIntSS b = some r → to_laws_szIntSS r = b := by
  rintro ⟨a, o⟩ r h
  cases o with
  | none => injection h with h; subst h; rfl
  | some _ => cases h
noncomputable def f_laws_szIntSS_0 : Nat → List (List Int) → Int → Int → Option (LR Int Int)
  | 0, _, _, _ => none
  | k + 1, v0, v1, v5 =>
    if decide (v5 < (↑(List.length v0) : Int)) = true then if (0 : Int) ≤ v5 then if v5 < (↑(List.length v0) : Int) then Option.bind (f_laws_szIntS k (List.getD v0 (Int.toNat v5) []) v1) fun z0 => if decide (z0 < (0 : Int)) = true then some (LR.ret (-1 : Int)) else f_laws_szIntSS_0 k v0 z0 (wrap64 (v5 + (1 : Int))) else none else none else some (LR.go v1)
noncomputable def f_laws_szIntSS_0i : Spec := { objs := [OSh.ro], tmps := [((0 : Nat), TSh.at (Sh.snap (0 : Nat) (Ty.slice (3 : Nat) (Ty.int IntKind.i64)))), ((1 : Nat), TSh.at (Sh.int IntKind.i64)), ((5 : Nat), TSh.at (Sh.int IntKind.i64))] }
noncomputable def f_laws_szIntSS_0o : Spec := { objs := [OSh.ro], tmps := [((1 : Nat), TSh.at (Sh.int IntKind.i64))] }
noncomputable def f_laws_szIntSS_0D : LoopDef (Tup r_laws_szIntSS × OutD) := .rets f_laws_szIntSS_0i f_laws_szIntSS_0o (Int) (Int) (fun k x => f_laws_szIntSS_0 k x.2.1 x.2.2.1 x.2.2.2.1) (fun z => (((), ()), (z, ()))) (fun y => (y.2.1)) (fun _ => rfl) to_laws_szIntSS of_laws_szIntSS to_of_laws_szIntSS
noncomputable def f_laws_szIntSS : Nat → List (List Int) → Int → Option Int
  | 0, _, _ => none
  | k + 1, p0, p1 =>
    if decide (wrap64 (p1 - (↑(List.length p0) : Int)) < (0 : Int)) = true then some (-1 : Int) else Option.bind (f_laws_szIntSS_0 k p0 (wrap64 (p1 - (↑(List.length p0) : Int))) (0 : Int)) fun z1 => LR.on z1 (fun y1 => some y1) fun r1 => some r1
noncomputable def d_laws_szIntSS : FnDef := .of q_laws_szIntSS r_laws_szIntSS (Int) (fun k x => f_laws_szIntSS k x.1 x.2.1) to_laws_szIntSS of_laws_szIntSS to_of_laws_szIntSS
noncomputable def c_laws_szIntSS : Code := Try.f36.body.getD .skip
noncomputable def x_laws_szIntSS : Ctx (Tup r_laws_szIntSS × OutD) := { T := T, G := [(66, d_laws_szIntS.E)], mvs := [], no := 0, n := 27, res := resOf T q_laws_szIntSS r_laws_szIntSS Try.f36.results.toList, loops := [(0, f_laws_szIntSS_0D.E)], regs := [], conds := [] }
theorem g_laws_szIntSS (k : Nat) : EnvOK Try.prog k x_laws_szIntSS.G := (EnvOK.cons (s_laws_szIntS k) (EnvOK.nil mixed))
noncomputable def f_laws_szIntSS_0B : Code := (findLoop 0 c_laws_szIntSS).getD .skip
theorem f_laws_szIntSS_0h (k : Nat) (x : f_laws_szIntSS_0i.D) : f_laws_szIntSS_0D.lp (k + 1) x = loopK x_laws_szIntSS f_laws_szIntSS_0D 0 f_laws_szIntSS_0B k x := by kernel_rfl
theorem f_laws_szIntSS_0l (k : Nat) : LOK Try.prog x_laws_szIntSS k f_laws_szIntSS_0B := LOK.by [] (by kernel_rfl) AllOK.nil
theorem f_laws_szIntSS_0z (x : f_laws_szIntSS_0i.D) : f_laws_szIntSS_0D.lp 0 x = none := by kernel_rfl
theorem f_laws_szIntSS_0ok (k : Nat) : EOK Try.prog x_laws_szIntSS k f_laws_szIntSS_0D.E (.block 0 (.loop f_laws_szIntSS_0B)) := loop_ok T_ok g_laws_szIntSS f_laws_szIntSS_0z f_laws_szIntSS_0h f_laws_szIntSS_0l k
theorem h_laws_szIntSS (k : Nat) (x : Tup d_laws_szIntSS.ps) : d_laws_szIntSS.f (k + 1) x = fnK d_laws_szIntSS x_laws_szIntSS c_laws_szIntSS k x := by kernel_rfl
theorem z_laws_szIntSS (x : Tup d_laws_szIntSS.ps) : d_laws_szIntSS.f 0 x = none := by kernel_rfl
theorem l_laws_szIntSS (k : Nat) : LOK Try.prog x_laws_szIntSS k c_laws_szIntSS := LOK.by [(f_laws_szIntSS_0D.E, .block 0 (.loop f_laws_szIntSS_0B))] (by kernel_rfl) (AllOK.cons (f_laws_szIntSS_0ok k) AllOK.nil)
theorem s_laws_szIntSS (k : Nat) : SoundAt Try.prog k 36 d_laws_szIntSS.E := @fn_all Try.prog d_laws_szIntSS x_laws_szIntSS 36 Try.f36 c_laws_szIntSS (by kernel_rfl) (by kernel_rfl) (by kernel_rfl) Try.func36 (by kernel_rfl) (by kernel_rfl) (by kernel_rfl) T_ok g_laws_szIntSS l_laws_szIntSS z_laws_szIntSS h_laws_szIntSS k
/-! function 38 -/
noncomputable def r_laws_toIntSS : List PK := [{ t := Ty.slice (25 : Nat) (Ty.slice (3 : Nat) (Ty.int IntKind.i64)) }]
noncomputable def q_laws_toIntSS : List PK := [{ t := Ty.slice (25 : Nat) (Ty.slice (3 : Nat) (Ty.int IntKind.i64)) }]
noncomputable def to_laws_toIntSS (r : List (List Int)) : Tup r_laws_toIntSS × OutD := ((r, ()), none)
noncomputable def of_laws_toIntSS : Tup r_laws_toIntSS × OutD → Option (List (List Int))
  | (a, none) => some (a.1)
  | _ => none
theorem to_of_laws_toIntSS : ∀ b r, of_laws_toIntSS b = some r → to_laws_toIntSS r = b := by
  rintro ⟨a, o⟩ r h
  cases o with
  | none => injection h with h; subst h; rfl
  | some _ => cases h
noncomputable def f_laws_toIntSS_0 : Nat → List (List Int) → List (List Int) → Int → Option (List (List Int))
  | 0, _, _, _ => none
  | k + 1, o1, v0, v4 =>
    if decide (v4 < (↑(List.length v0) : Int)) = true then if (0 : Int) ≤ v4 then if v4 < (↑(List.length v0) : Int) then Option.bind (f_laws_toIntS k (List.getD v0 (Int.toNat v4) [])) fun z0 => if (0 : Int) ≤ v4 then if v4 < (↑(List.length o1) : Int) then f_laws_toIntSS_0 k (List.set o1 (Int.toNat v4) z0) v0 (wrap64 (v4 + (1 : Int))) else none else none else none else none else some o1
noncomputable def f_laws_toIntSS_0i : Spec := { objs := [OSh.ro, OSh.row true (25 : Nat) (Ty.slice (3 : Nat) (Ty.int IntKind.i64))], tmps := [((0 : Nat), TSh.at (Sh.snap (0 : Nat) (Ty.slice (3 : Nat) (Ty.int IntKind.i64)))), ((3 : Nat), TSh.at (Sh.sl (1 : Nat))), ((4 : Nat), TSh.at (Sh.int IntKind.i64))] }
noncomputable def f_laws_toIntSS_0o : Spec := { objs := [OSh.ro, OSh.row true (25 : Nat) (Ty.slice (3 : Nat) (Ty.int IntKind.i64))], tmps := [((3 : Nat), TSh.at (Sh.sl (1 : Nat)))] }
noncomputable def f_laws_toIntSS_0D : LoopDef (Tup r_laws_toIntSS × OutD) := .plain f_laws_toIntSS_0i f_laws_toIntSS_0o (List (List Int)) (fun k x => f_laws_toIntSS_0 k x.1.2.1 x.2.1 x.2.2.2.1) (fun z => (((), z, ()), ((), ()))) (fun y => (y.1.2.1)) (fun _ => rfl)
noncomputable def f_laws_toIntSS : Nat → List (List Int) → Option (List (List Int))
  | 0, _ => none
  | k + 1, p0 =>
    if Int.toNat (↑(List.length p0) : Int) * (24 : Nat) ≤ (281474976710656 : Nat) then Option.bind (f_laws_toIntSS_0 k (List.replicate (Int.toNat (↑(List.length p0) : Int)) []) p0 (0 : Int)) fun z1 => some z1 else none
noncomputable def d_laws_toIntSS : FnDef := .of q_laws_toIntSS r_laws_toIntSS (List (List Int)) (fun k x => f_laws_toIntSS k x.1) to_laws_toIntSS of_laws_toIntSS to_of_laws_toIntSS
noncomputable def c_laws_toIntSS : Code := Try.f38.body.getD .skip
noncomputable def x_laws_toIntSS : Ctx (Tup r_laws_toIntSS × OutD) := { T := T, G := [(18, d_laws_toIntS.E)], mvs := [], no := 0, n := 23, res := resOf T q_laws_toIntSS r_laws_toIntSS Try.f38.results.toList, loops := [(0, f_laws_toIntSS_0D.E)], regs := [], conds := [] }
theorem g_laws_toIntSS (k : Nat) : EnvOK Try.prog k x_laws_toIntSS.G := (EnvOK.cons (s_laws_toIntS k) (EnvOK.nil mixed))
noncomputable def f_laws_toIntSS_0B : Code := (findLoop 0 c_laws_toIntSS).getD .skip
theorem f_laws_toIntSS_0h (k : Nat) (x : f_laws_toIntSS_0i.D) : f_laws_toIntSS_0D.lp (k + 1) x = loopK x_laws_toIntSS f_laws_toIntSS_0D 0 f_laws_toIntSS_0B k x := by kernel_rfl
theorem f_laws_toIntSS_0l (k : Nat) : LOK Try.prog x_laws_toIntSS k f_laws_toIntSS_0B := LOK.by [] (by kernel_rfl) AllOK.nil
theorem f_laws_toIntSS_0z (x : f_laws_toIntSS_0i.D) : f_laws_toIntSS_0D.lp 0 x = none := by kernel_rfl
theorem f_laws_toIntSS_0ok (k : Nat) : EOK Try.prog x_laws_toIntSS k f_laws_toIntSS_0D.E (.block 0 (.loop f_laws_toIntSS_0B)) := loop_ok T_ok g_laws_toIntSS f_laws_toIntSS_0z f_laws_toIntSS_0h f_laws_toIntSS_0l k
theorem h_laws_toIntSS (k : Nat) (x : Tup d_laws_toIntSS.ps) : d_laws_toIntSS.f (k + 1) x = fnK d_laws_toIntSS x_laws_toIntSS c_laws_toIntSS k x := by kernel_rfl
theorem z_laws_toIntSS (x : Tup d_laws_toIntSS.ps) : d_laws_toIntSS.f 0 x = none := by kernel_rfl
theorem l_laws_toIntSS (k : Nat) : LOK Try.prog x_laws_toIntSS k c_laws_toIntSS := LOK.by [(f_laws_toIntSS_0D.E, .block 0 (.loop f_laws_toIntSS_0B))] (by kernel_rfl) (AllOK.cons (f_laws_toIntSS_0ok k) AllOK.nil)
theorem s_laws_toIntSS (k : Nat) : SoundAt Try.prog k 38 d_laws_toIntSS.E := @fn_all Try.prog d_laws_toIntSS x_laws_toIntSS 38 Try.f38 c_laws_toIntSS (by kernel_rfl) (by kernel_rfl) (by kernel_rfl) Try.func38 (by kernel_rfl) (by kernel_rfl) (by kernel_rfl) T_ok g_laws_toIntSS l_laws_toIntSS z_laws_toIntSS h_laws_toIntSS k
/-! function 40 -/
noncomputable def r_laws_eqIntSS : List PK := [{ t := Ty.bool }]
noncomputable def q_laws_eqIntSS : List PK := [{ t := Ty.slice (25 : Nat) (Ty.slice (3 : Nat) (Ty.int IntKind.i64)) }, { t := Ty.slice (25 : Nat) (Ty.slice (3 : Nat) (Ty.int IntKind.i64)) }]
noncomputable def to_laws_eqIntSS (r : Bool) : Tup r_laws_eqIntSS × OutD := ((r, ()), none)
noncomputable def of_laws_eqIntSS : Tup r_laws_eqIntSS × OutD → Option (Bool)
  | (a, none) => some (a.1)
  | _ => none
theorem to_of_laws_eqIntSS : ∀ b r, of_laws_eqIntSS b = some r → to_laws_eqIntSS r = b := by
  rintro ⟨a, o⟩ r h
  cases o with
  | none => injection h with h; subst h; rfl
  | some _ => cases h
noncomputable def f_laws_eqIntSS_0 : Nat → List (List Int) → List (List Int) → Int → Option (LR Unit Bool)
  | 0, _, _, _ => none
  | k + 1, v0, v1, v5 =>
    if decide (v5 < (↑(List.length v0) : Int)) = true then if (0 : Int) ≤ v5 then if v5 < (↑(List.length v0) : Int) then if (0 : Int) ≤ v5 then if v5 < (↑(List.length v1) : Int) then Option.bind (f_laws_eqIntS k (List.getD v0 (Int.toNat v5) []) (List.getD v1 (Int.toNat v5) [])) fun z0 => if (!z0) = true then some (LR.ret false) else f_laws_eqIntSS_0 k v0 v1 (wrap64 (v5 + (1 : Int))) else none else none else none else none else some (LR.go ())
noncomputable def f_laws_eqIntSS_0i : Spec := { objs := [OSh.ro], tmps := [((0 : Nat), TSh.at (Sh.snap (0 : Nat) (Ty.slice (3 : Nat) (Ty.int IntKind.i64)))), ((1 : Nat), TSh.at (Sh.snap (0 : Nat) (Ty.slice (3 : Nat) (Ty.int IntKind.i64)))), ((5 : Nat), TSh.at (Sh.int IntKind.i64))] }
noncomputable def f_laws_eqIntSS_0o : Spec := { objs := [OSh.ro], tmps := [] }
noncomputable def f_laws_eqIntSS_0D : LoopDef (Tup r_laws_eqIntSS × OutD) := .rets f_laws_eqIntSS_0i f_laws_eqIntSS_0o (Unit) (Bool) (fun k x => f_laws_eqIntSS_0 k x.2.1 x.2.2.1 x.2.2.2.1) (fun z => (((), ()), (()))) (fun y => ()) (fun _ => rfl) to_laws_eqIntSS of_laws_eqIntSS to_of_laws_eqIntSS
noncomputable def f_laws_eqIntSS : Nat → List (List Int) → List (List Int) → Option Bool
  | 0, _, _ => none
  | k + 1, p0, p1 =>
    if decide ((↑(List.length p0) : Int) ≠ (↑(List.length p1) : Int)) = true then some false else Option.bind (f_laws_eqIntSS_0 k p0 p1 (0 : Int)) fun z1 => LR.on z1 (fun y1 => some true) fun r1 => some r1
noncomputable def d_laws_eqIntSS : FnDef := .of q_laws_eqIntSS r_laws_eqIntSS (Bool) (fun k x => f_laws_eqIntSS k x.1 x.2.1) to_laws_eqIntSS of_laws_eqIntSS to_of_laws_eqIntSS
noncomputable def c_laws_eqIntSS : Code := Try.f40.body.getD .skip
noncomputable def x_laws_eqIntSS : Ctx (Tup r_laws_eqIntSS × OutD) := { T := T, G := [(20, d_laws_eqIntS.E)], mvs := [], no := 0, n := 27, res := resOf T q_laws_eqIntSS r_laws_eqIntSS Try.f40.results.toList, loops := [(0, f_laws_eqIntSS_0D.E)], regs := [], conds := [] }
theorem g_laws_eqIntSS (k : Nat) : EnvOK Try.prog k x_laws_eqIntSS.G := (EnvOK.cons (s_laws_eqIntS k) (EnvOK.nil mixed))
noncomputable def f_laws_eqIntSS_0B : Code := (findLoop 0 c_laws_eqIntSS).getD .skip
theorem f_laws_eqIntSS_0h (k : Nat) (x : f_laws_eqIntSS_0i.D) : f_laws_eqIntSS_0D.lp (k + 1) x = loopK x_laws_eqIntSS f_laws_eqIntSS_0D 0 f_laws_eqIntSS_0B k x := by kernel_rfl
theorem f_laws_eqIntSS_0l (k : Nat) : LOK Try.prog x_laws_eqIntSS k f_laws_eqIntSS_0B := LOK.by [] (by kernel_rfl) AllOK.nil
theorem f_laws_eqIntSS_0z (x : f_laws_eqIntSS_0i.D) : f_laws_eqIntSS_0D.lp 0 x = none := by kernel_rfl
theorem f_laws_eqIntSS_0ok (k : Nat) : EOK Try.prog x_laws_eqIntSS k f_laws_eqIntSS_0D.E (.block 0 (.loop f_laws_eqIntSS_0B)) := loop_ok T_ok g_laws_eqIntSS f_laws_eqIntSS_0z f_laws_eqIntSS_0h f_laws_eqIntSS_0l k
theorem h_laws_eqIntSS (k : Nat) (x : Tup d_laws_eqIntSS.ps) : d_laws_eqIntSS.f (k + 1) x = fnK d_laws_eqIntSS x_laws_eqIntSS c_laws_eqIntSS k x := by kernel_rfl
theorem z_laws_eqIntSS (x : Tup d_laws_eqIntSS.ps) : d_laws_eqIntSS.f 0 x = none := by kernel_rfl
theorem l_laws_eqIntSS (k : Nat) : LOK Try.prog x_laws_eqIntSS k c_laws_eqIntSS := LOK.by [(f_laws_eqIntSS_0D.E, .block 0 (.loop f_laws_eqIntSS_0B))] (by kernel_rfl) (AllOK.cons (f_laws_eqIntSS_0ok k) AllOK.nil)
theorem s_laws_eqIntSS (k : Nat) : SoundAt Try.prog k 40 d_laws_eqIntSS.E := @fn_all Try.prog d_laws_eqIntSS x_laws_eqIntSS 40 Try.f40 c_laws_eqIntSS (by kernel_rfl) (by kernel_rfl) (by kernel_rfl) Try.func40 (by kernel_rfl) (by kernel_rfl) (by kernel_rfl) T_ok g_laws_eqIntSS l_laws_eqIntSS z_laws_eqIntSS h_laws_eqIntSS k
/-! function 43 -/
noncomputable def r_laws_markIntSS : List PK := [{ t := Ty.int IntKind.i64 }]
noncomputable def q_laws_markIntSS : List PK := [{ t := Ty.slice (25 : Nat) (Ty.slice (3 : Nat) (Ty.int IntKind.i64)), own := some ((0 : Nat), (25 : Nat), Ty.slice (3 : Nat) (Ty.int IntKind.i64)) }, { t := Ty.int IntKind.i64 }]
noncomputable def to_laws_markIntSS (r : Int × List (List Int)) : Tup r_laws_markIntSS × OutD := ((r.1, ()), some ⟨Ty.slice (3 : Nat) (Ty.int IntKind.i64), r.2⟩)
noncomputable def of_laws_markIntSS : Tup r_laws_markIntSS × OutD → Option (Int × List (List Int))
  | (a, some ⟨u, ys⟩) => if h : u = Ty.slice (3 : Nat) (Ty.int IntKind.i64) then some (a.1, castU h ys) else none
  | _ => none
theorem to_of_laws_markIntSS : ∀ b r, of_laws_markIntSS b = some r → to_laws_markIntSS r = b := by
  rintro ⟨a, o⟩ r h
  cases o with
  | none => cases h
  | some s =>
    obtain ⟨u, ys⟩ := s
    simp only [of_laws_markIntSS] at h
    split at h
    · rename_i hu; subst hu; injection h with h; subst h; rfl
    · cases h
noncomputable def f_laws_markIntSS_0 : Nat → List (List Int) → Int → Int → Option (List (List Int) × Int)
  | 0, _, _, _ => none
  | k + 1, o1, v1, v5 =>
    if decide (v5 < (↑(List.length o1) : Int)) = true then if (0 : Int) ≤ v5 then if v5 < (↑(List.length o1) : Int) then Option.bind (readArgsI { tmps := [TV.sv (SV.at (At.sl (1 : Nat))), TV.sv (SV.at (At.int IntKind.i64 v1)), TV.sv (SV.at At.un), TV.sv (SV.at At.un), TV.sv (SV.at At.un), TV.sv (SV.at (At.int IntKind.i64 v5)), TV.sv (SV.at (At.int IntKind.i64 v5)), TV.sv (SV.at (At.sl (1 : Nat))), TV.sv (SV.at (At.int IntKind.i64 (↑(List.length o1) : Int))), TV.sv (SV.at (At.bool true)), TV.sv (SV.at At.un), TV.sv (SV.at At.un), TV.sv (SV.at (At.sl (1 : Nat))), TV.sv (SV.at (At.int IntKind.i64 v5)), TV.sv (SV.at (At.ep (1 : Nat) (Ty.slice (3 : Nat) (Ty.int IntKind.i64)) v5 (0 : Nat))), TV.sv (SV.at (At.inn (1 : Nat) v5)), TV.sv (SV.at (At.int IntKind.i64 v1)), TV.sv (SV.at At.un), TV.sv (SV.at At.un)], objs := [Ob.ro, Ob.row false (25 : Nat) (Ty.slice (3 : Nat) (Ty.int IntKind.i64)) o1] } (1 : Nat) v5 (3 : Nat) (Ty.int IntKind.i64) (CallE.ps (FnDef.E d_laws_markIntS)) (List.map (St.ev { tmps := [TV.sv (SV.at (At.sl (1 : Nat))), TV.sv (SV.at (At.int IntKind.i64 v1)), TV.sv (SV.at At.un), TV.sv (SV.at At.un), TV.sv (SV.at At.un), TV.sv (SV.at (At.int IntKind.i64 v5)), TV.sv (SV.at (At.int IntKind.i64 v5)), TV.sv (SV.at (At.sl (1 : Nat))), TV.sv (SV.at (At.int IntKind.i64 (↑(List.length o1) : Int))), TV.sv (SV.at (At.bool true)), TV.sv (SV.at At.un), TV.sv (SV.at At.un), TV.sv (SV.at (At.sl (1 : Nat))), TV.sv (SV.at (At.int IntKind.i64 v5)), TV.sv (SV.at (At.ep (1 : Nat) (Ty.slice (3 : Nat) (Ty.int IntKind.i64)) v5 (0 : Nat))), TV.sv (SV.at (At.inn (1 : Nat) v5)), TV.sv (SV.at (At.int IntKind.i64 v1)), TV.sv (SV.at At.un), TV.sv (SV.at At.un)], objs := [Ob.ro, Ob.row false (25 : Nat) (Ty.slice (3 : Nat) (Ty.int IntKind.i64)) o1] }) (Array.toList (Call.args { callee := Callee.value (Operand.func (44 : Nat)), args := #[Operand.tmp (15 : Nat), Operand.tmp (16 : Nat)], argTypes := #[(25 : Nat), (3 : Nat)] })))) fun z0 => Option.bind (f_laws_markIntS k (Prod.fst z0) (Prod.fst (Prod.snd z0))) fun z1 => f_laws_markIntSS_0 k (List.set o1 (Int.toNat v5) (Prod.snd z1)) (Prod.fst z1) (wrap64 (v5 + (1 : Int))) else none else none else some (o1, v1)
noncomputable def f_laws_markIntSS_0i : Spec := { objs := [OSh.ro, OSh.row false (25 : Nat) (Ty.slice (3 : Nat) (Ty.int IntKind.i64))], tmps := [((0 : Nat), TSh.at (Sh.sl (1 : Nat))), ((1 : Nat), TSh.at (Sh.int IntKind.i64)), ((5 : Nat), TSh.at (Sh.int IntKind.i64))] }
noncomputable def f_laws_markIntSS_0o : Spec := { objs := [OSh.ro, OSh.row false (25 : Nat) (Ty.slice (3 : Nat) (Ty.int IntKind.i64))], tmps := [((1 : Nat), TSh.at (Sh.int IntKind.i64))] }
noncomputable def f_laws_markIntSS_0D : LoopDef (Tup r_laws_markIntSS × OutD) := .plain f_laws_markIntSS_0i f_laws_markIntSS_0o (List (List Int) × Int) (fun k x => f_laws_markIntSS_0 k x.1.2.1 x.2.2.1 x.2.2.2.1) (fun z => (((), z.1, ()), (z.2, ()))) (fun y => (y.1.2.1, y.2.1)) (fun _ => rfl)
noncomputable def f_laws_markIntSS : Nat → List (List Int) → Int → Option (Int × List (List Int))
  | 0, _, _ => none
  | k + 1, p0, p1 =>
    Option.bind (f_laws_markIntSS_0 k p0 p1 (0 : Int)) fun z2 => some (Prod.snd z2, Prod.fst z2)
noncomputable def d_laws_markIntSS : FnDef := .of q_laws_markIntSS r_laws_markIntSS (Int × List (List Int)) (fun k x => f_laws_markIntSS k x.1 x.2.1) to_laws_markIntSS of_laws_markIntSS to_of_laws_markIntSS
noncomputable def c_laws_markIntSS : Code := Try.f43.body.getD .skip
noncomputable def x_laws_markIntSS : Ctx (Tup r_laws_markIntSS × OutD) := { T := T, G := [(44, d_laws_markIntS.E)], mvs := [], no := 1, n := 19, res := resOf T q_laws_markIntSS r_laws_markIntSS Try.f43.results.toList, loops := [(0, f_laws_markIntSS_0D.E)], regs := [], conds := [] }
theorem g_laws_markIntSS (k : Nat) : EnvOK Try.prog k x_laws_markIntSS.G := (EnvOK.cons (s_laws_markIntS k) (EnvOK.nil mixed))
noncomputable def f_laws_markIntSS_0B : Code := (findLoop 0 c_laws_markIntSS).getD .skip
theorem f_laws_markIntSS_0h (k : Nat) (x : f_laws_markIntSS_0i.D) : f_laws_markIntSS_0D.lp (k + 1) x = loopK x_laws_markIntSS f_laws_markIntSS_0D 0 f_laws_markIntSS_0B k x := by kernel_rfl
theorem f_laws_markIntSS_0l (k : Nat) : LOK Try.prog x_laws_markIntSS k f_laws_markIntSS_0B := LOK.by [] (by kernel_rfl) AllOK.nil
theorem f_laws_markIntSS_0z (x : f_laws_markIntSS_0i.D) : f_laws_markIntSS_0D.lp 0 x = none := by kernel_rfl
theorem f_laws_markIntSS_0ok (k : Nat) : EOK Try.prog x_laws_markIntSS k f_laws_markIntSS_0D.E (.block 0 (.loop f_laws_markIntSS_0B)) := loop_ok T_ok g_laws_markIntSS f_laws_markIntSS_0z f_laws_markIntSS_0h f_laws_markIntSS_0l k
theorem h_laws_markIntSS (k : Nat) (x : Tup d_laws_markIntSS.ps) : d_laws_markIntSS.f (k + 1) x = fnK d_laws_markIntSS x_laws_markIntSS c_laws_markIntSS k x := by kernel_rfl
theorem z_laws_markIntSS (x : Tup d_laws_markIntSS.ps) : d_laws_markIntSS.f 0 x = none := by kernel_rfl
theorem l_laws_markIntSS (k : Nat) : LOK Try.prog x_laws_markIntSS k c_laws_markIntSS := LOK.by [(f_laws_markIntSS_0D.E, .block 0 (.loop f_laws_markIntSS_0B))] (by kernel_rfl) (AllOK.cons (f_laws_markIntSS_0ok k) AllOK.nil)
theorem s_laws_markIntSS (k : Nat) : SoundAt Try.prog k 43 d_laws_markIntSS.E := @fn_all Try.prog d_laws_markIntSS x_laws_markIntSS 43 Try.f43 c_laws_markIntSS (by kernel_rfl) (by kernel_rfl) (by kernel_rfl) Try.func43 (by kernel_rfl) (by kernel_rfl) (by kernel_rfl) T_ok g_laws_markIntSS l_laws_markIntSS z_laws_markIntSS h_laws_markIntSS k
/-! function 48 -/
/-! function 53 -/
noncomputable def r_spec_voCopies : List PK := [{ t := Ty.bool }]
noncomputable def q_spec_voCopies : List PK := [{ t := Ty.int IntKind.i64 }]
noncomputable def to_spec_voCopies (r : Bool) : Tup r_spec_voCopies × OutD := ((r, ()), none)
noncomputable def of_spec_voCopies : Tup r_spec_voCopies × OutD → Option (Bool)
  | (a, none) => some (a.1)
  | _ => none
theorem to_of_spec_voCopies : ∀ b r, of_spec_voCopies b = some r → to_spec_voCopies r = b := by
  rintro ⟨a, o⟩ r h
  cases o with
  | none => injection h with h; subst h; rfl
  | some _ => cases h
noncomputable def f_spec_voCopies : Nat → Int → Option Bool
  | 0, _ => none
  | k + 1, p0 =>
    Option.bind (f_spec_l1In k p0 (1 : Int) (9 : Int)) fun z0 => some z0
noncomputable def d_spec_voCopies : FnDef := .of q_spec_voCopies r_spec_voCopies (Bool) (fun k x => f_spec_voCopies k x.1) to_spec_voCopies of_spec_voCopies to_of_spec_voCopies
noncomputable def c_spec_voCopies : Code := Try.f53.body.getD .skip
noncomputable def x_spec_voCopies : Ctx (Tup r_spec_voCopies × OutD) := { T := T, G := [(55, d_spec_l1In.E)], mvs := [], no := 0, n := 5, res := resOf T q_spec_voCopies r_spec_voCopies Try.f53.results.toList, loops := [], regs := [], conds := [] }
theorem g_spec_voCopies (k : Nat) : EnvOK Try.prog k x_spec_voCopies.G := (EnvOK.cons (s_spec_l1In k) (EnvOK.nil mixed))
theorem h_spec_voCopies (k : Nat) (x : Tup d_spec_voCopies.ps) : d_spec_voCopies.f (k + 1) x = fnK d_spec_voCopies x_spec_voCopies c_spec_voCopies k x := by kernel_rfl
theorem z_spec_voCopies (x : Tup d_spec_voCopies.ps) : d_spec_voCopies.f 0 x = none := by kernel_rfl
theorem l_spec_voCopies (k : Nat) : LOK Try.prog x_spec_voCopies k c_spec_voCopies := LOK.by [] (by kernel_rfl) AllOK.nil
theorem s_spec_voCopies (k : Nat) : SoundAt Try.prog k 53 d_spec_voCopies.E := @fn_all Try.prog d_spec_voCopies x_spec_voCopies 53 Try.f53 c_spec_voCopies (by kernel_rfl) (by kernel_rfl) (by kernel_rfl) Try.func53 (by kernel_rfl) (by kernel_rfl) (by kernel_rfl) T_ok g_spec_voCopies l_spec_voCopies z_spec_voCopies h_spec_voCopies k
/-! function 57 -/
noncomputable def r_impl_areVotes : List PK := [{ t := Ty.bool }]
noncomputable def q_impl_areVotes : List PK := [{ t := Ty.slice (3 : Nat) (Ty.int IntKind.i64) }]
noncomputable def to_impl_areVotes (r : Bool) : Tup r_impl_areVotes × OutD := ((r, ()), none)
noncomputable def of_impl_areVotes : Tup r_impl_areVotes × OutD → Option (Bool)
  | (a, none) => some (a.1)
  | _ => none
theorem to_of_impl_areVotes : ∀ b r, of_impl_areVotes b = some r → to_impl_areVotes r = b := by
  rintro ⟨a, o⟩ r h
  cases o with
  | none => injection h with h; subst h; rfl
  | some _ => cases h
noncomputable def f_impl_areVotes : Nat → List Int → Option Bool
  | 0, _ => none
  | k + 1, p0 =>
    if decide ((↑(List.length p0) : Int) ≥ (1 : Int)) = true then if decide ((↑(List.length p0) : Int) ≤ (9 : Int)) = true then Option.bind (f_impl_areDigits k p0) fun z0 => some z0 else some false else some false
noncomputable def d_impl_areVotes : FnDef := .of q_impl_areVotes r_impl_areVotes (Bool) (fun k x => f_impl_areVotes k x.1) to_impl_areVotes of_impl_areVotes to_of_impl_areVotes
noncomputable def c_impl_areVotes : Code := Try.f57.body.getD .skip
noncomputable def x_impl_areVotes : Ctx (Tup r_impl_areVotes × OutD) := { T := T, G := [(88, d_impl_areDigits.E)], mvs := [], no := 0, n := 15, res := resOf T q_impl_areVotes r_impl_areVotes Try.f57.results.toList, loops := [], regs := [], conds := [] }
theorem g_impl_areVotes (k : Nat) : EnvOK Try.prog k x_impl_areVotes.G := (EnvOK.cons (s_impl_areDigits k) (EnvOK.nil mixed))
theorem h_impl_areVotes (k : Nat) (x : Tup d_impl_areVotes.ps) : d_impl_areVotes.f (k + 1) x = fnK d_impl_areVotes x_impl_areVotes c_impl_areVotes k x := by kernel_rfl
theorem z_impl_areVotes (x : Tup d_impl_areVotes.ps) : d_impl_areVotes.f 0 x = none := by kernel_rfl
theorem l_impl_areVotes (k : Nat) : LOK Try.prog x_impl_areVotes k c_impl_areVotes := LOK.by [] (by kernel_rfl) AllOK.nil
theorem s_impl_areVotes (k : Nat) : SoundAt Try.prog k 57 d_impl_areVotes.E := @fn_all Try.prog d_impl_areVotes x_impl_areVotes 57 Try.f57 c_impl_areVotes (by kernel_rfl) (by kernel_rfl) (by kernel_rfl) Try.func57 (by kernel_rfl) (by kernel_rfl) (by kernel_rfl) T_ok g_impl_areVotes l_impl_areVotes z_impl_areVotes h_impl_areVotes k
/-! function 58 -/
/-! function 63 -/
noncomputable def r_spec_l1All : List PK := [{ t := Ty.bool }]
noncomputable def q_spec_l1All : List PK := [{ t := Ty.slice (3 : Nat) (Ty.int IntKind.i64) }, { t := Ty.int IntKind.i64 }, { t := Ty.int IntKind.i64 }]
noncomputable def to_spec_l1All (r : Bool) : Tup r_spec_l1All × OutD := ((r, ()), none)
noncomputable def of_spec_l1All : Tup r_spec_l1All × OutD → Option (Bool)
  | (a, none) => some (a.1)
  | _ => none
theorem to_of_spec_l1All : ∀ b r, of_spec_l1All b = some r → to_spec_l1All r = b := by
  rintro ⟨a, o⟩ r h
  cases o with
  | none => injection h with h; subst h; rfl
  | some _ => cases h
noncomputable def f_spec_l1All_0 : Nat → Int → Int → List Int → Int → Int → Option (LR Unit Bool)
  | 0, _, _, _, _, _ => none
  | k + 1, v1, v2, v9, v10, v11 =>
    if decide (v11 < v10) = true then if (0 : Int) ≤ v11 then if v11 < (↑(List.length v9) : Int) then Option.bind (f_spec_l1In k (List.getD v9 (Int.toNat v11) (0 : Int)) v1 v2) fun z0 => if (!z0) = true then some (LR.ret false) else f_spec_l1All_0 k v1 v2 v9 v10 (wrap64 (v11 + (1 : Int))) else none else none else some (LR.go ())
noncomputable def f_spec_l1All_0i : Spec := { objs := [OSh.ro], tmps := [((1 : Nat), TSh.at (Sh.int IntKind.i64)), ((2 : Nat), TSh.at (Sh.int IntKind.i64)), ((9 : Nat), TSh.at (Sh.snap (0 : Nat) (Ty.int IntKind.i64))), ((10 : Nat), TSh.at (Sh.int IntKind.i64)), ((11 : Nat), TSh.at (Sh.int IntKind.i64))] }
noncomputable def f_spec_l1All_0o : Spec := { objs := [OSh.ro], tmps := [] }
noncomputable def f_spec_l1All_0D : LoopDef (Tup r_spec_l1All × OutD) := .rets f_spec_l1All_0i f_spec_l1All_0o (Unit) (Bool) (fun k x => f_spec_l1All_0 k x.2.1 x.2.2.1 x.2.2.2.1 x.2.2.2.2.1 x.2.2.2.2.2.1) (fun z => (((), ()), (()))) (fun y => ()) (fun _ => rfl) to_spec_l1All of_spec_l1All to_of_spec_l1All
noncomputable def f_spec_l1All : Nat → List Int → Int → Int → Option Bool
  | 0, _, _, _ => none
  | k + 1, p0, p1, p2 =>
    Option.bind (f_spec_l1All_0 k p1 p2 p0 (↑(List.length p0) : Int) (0 : Int)) fun z1 => LR.on z1 (fun y1 => some true) fun r1 => some r1
noncomputable def d_spec_l1All : FnDef := .of q_spec_l1All r_spec_l1All (Bool) (fun k x => f_spec_l1All k x.1 x.2.1 x.2.2.1) to_spec_l1All of_spec_l1All to_of_spec_l1All
noncomputable def c_spec_l1All : Code := Try.f63.body.getD .skip
noncomputable def x_spec_l1All : Ctx (Tup r_spec_l1All × OutD) := { T := T, G := [(55, d_spec_l1In.E)], mvs := [], no := 0, n := 21, res := resOf T q_spec_l1All r_spec_l1All Try.f63.results.toList, loops := [(0, f_spec_l1All_0D.E)], regs := [], conds := [] }
theorem g_spec_l1All (k : Nat) : EnvOK Try.prog k x_spec_l1All.G := (EnvOK.cons (s_spec_l1In k) (EnvOK.nil mixed))
noncomputable def f_spec_l1All_0B : Code := (findLoop 0 c_spec_l1All).getD .skip
theorem f_spec_l1All_0h (k : Nat) (x : f_spec_l1All_0i.D) : f_spec_l1All_0D.lp (k + 1) x = loopK x_spec_l1All f_spec_l1All_0D 0 f_spec_l1All_0B k x := by kernel_rfl
theorem f_spec_l1All_0l (k : Nat) : LOK Try.prog x_spec_l1All k f_spec_l1All_0B := LOK.by [] (by kernel_rfl) AllOK.nil
theorem f_spec_l1All_0z (x : f_spec_l1All_0i.D) : f_spec_l1All_0D.lp 0 x = none := by kernel_rfl
theorem f_spec_l1All_0ok (k : Nat) : EOK Try.prog x_spec_l1All k f_spec_l1All_0D.E (.block 0 (.loop f_spec_l1All_0B)) := loop_ok T_ok g_spec_l1All f_spec_l1All_0z f_spec_l1All_0h f_spec_l1All_0l k
theorem h_spec_l1All (k : Nat) (x : Tup d_spec_l1All.ps) : d_spec_l1All.f (k + 1) x = fnK d_spec_l1All x_spec_l1All c_spec_l1All k x := by kernel_rfl
theorem z_spec_l1All (x : Tup d_spec_l1All.ps) : d_spec_l1All.f 0 x = none := by kernel_rfl
theorem l_spec_l1All (k : Nat) : LOK Try.prog x_spec_l1All k c_spec_l1All := LOK.by [(f_spec_l1All_0D.E, .block 0 (.loop f_spec_l1All_0B))] (by kernel_rfl) (AllOK.cons (f_spec_l1All_0ok k) AllOK.nil)
theorem s_spec_l1All (k : Nat) : SoundAt Try.prog k 63 d_spec_l1All.E := @fn_all Try.prog d_spec_l1All x_spec_l1All 63 Try.f63 c_spec_l1All (by kernel_rfl) (by kernel_rfl) (by kernel_rfl) Try.func63 (by kernel_rfl) (by kernel_rfl) (by kernel_rfl) T_ok g_spec_l1All l_spec_l1All z_spec_l1All h_spec_l1All k
/-! function 65 -/
/-! function 69 -/
/-! function 70 -/
/-! function 72 -/
/-! function 75 -/
noncomputable def r_impl_areRows : List PK := [{ t := Ty.bool }]
noncomputable def q_impl_areRows : List PK := [{ t := Ty.slice (25 : Nat) (Ty.slice (3 : Nat) (Ty.int IntKind.i64)) }]
noncomputable def to_impl_areRows (r : Bool) : Tup r_impl_areRows × OutD := ((r, ()), none)
noncomputable def of_impl_areRows : Tup r_impl_areRows × OutD → Option (Bool)
  | (a, none) => some (a.1)
  | _ => none
theorem to_of_impl_areRows : ∀ b r, of_impl_areRows b = some r → to_impl_areRows r = b := by
  rintro ⟨a, o⟩ r h
  cases o with
  | none => injection h with h; subst h; rfl
  | some _ => cases h
noncomputable def f_impl_areRows_0 : Nat → List (List Int) → List (List Int) → Int → Int → Option (LR Unit Bool)
  | 0, _, _, _, _ => none
  | k + 1, v0, v13, v14, v15 =>
    if decide (v15 < v14) = true then if (0 : Int) ≤ v15 then if v15 < (↑(List.length v13) : Int) then if (0 : Int) < (↑(List.length v0) : Int) then if decide ((↑(List.length (List.getD v13 (Int.toNat v15) [])) : Int) ≠ (↑(List.length (List.getD v0 (Int.toNat (0 : Int)) [])) : Int)) = true then some (LR.ret false) else if decide ((↑(List.length (List.getD v13 (Int.toNat v15) [])) : Int) > (40 : Int)) = true then some (LR.ret false) else Option.bind (f_impl_areDigits k (List.getD v13 (Int.toNat v15) [])) fun z0 => if (!z0) = true then some (LR.ret false) else f_impl_areRows_0 k v0 v13 v14 (wrap64 (v15 + (1 : Int))) else none else none else none else some (LR.go ())
noncomputable def f_impl_areRows_0i : Spec := { objs := [OSh.ro], tmps := [((0 : Nat), TSh.at (Sh.snap (0 : Nat) (Ty.slice (3 : Nat) (Ty.int IntKind.i64)))), ((13 : Nat), TSh.at (Sh.snap (0 : Nat) (Ty.slice (3 : Nat) (Ty.int IntKind.i64)))), ((14 : Nat), TSh.at (Sh.int IntKind.i64)), ((15 : Nat), TSh.at (Sh.int IntKind.i64))] }
noncomputable def f_impl_areRows_0o : Spec := { objs := [OSh.ro], tmps := [] }
noncomputable def f_impl_areRows_0D : LoopDef (Tup r_impl_areRows × OutD) := .rets f_impl_areRows_0i f_impl_areRows_0o (Unit) (Bool) (fun k x => f_impl_areRows_0 k x.2.1 x.2.2.1 x.2.2.2.1 x.2.2.2.2.1) (fun z => (((), ()), (()))) (fun y => ()) (fun _ => rfl) to_impl_areRows of_impl_areRows to_of_impl_areRows
noncomputable def f_impl_areRows : Nat → List (List Int) → Option Bool
  | 0, _ => none
  | k + 1, p0 =>
    if decide ((↑(List.length p0) : Int) < (1 : Int)) = true then some false else if decide ((↑(List.length p0) : Int) > (9 : Int)) = true then some false else Option.bind (f_impl_areRows_0 k p0 p0 (↑(List.length p0) : Int) (0 : Int)) fun z1 => LR.on z1 (fun y1 => some true) fun r1 => some r1
noncomputable def d_impl_areRows : FnDef := .of q_impl_areRows r_impl_areRows (Bool) (fun k x => f_impl_areRows k x.1) to_impl_areRows of_impl_areRows to_of_impl_areRows
noncomputable def c_impl_areRows : Code := Try.f75.body.getD .skip
noncomputable def x_impl_areRows : Ctx (Tup r_impl_areRows × OutD) := { T := T, G := [(88, d_impl_areDigits.E)], mvs := [], no := 0, n := 37, res := resOf T q_impl_areRows r_impl_areRows Try.f75.results.toList, loops := [(0, f_impl_areRows_0D.E)], regs := [], conds := [] }
theorem g_impl_areRows (k : Nat) : EnvOK Try.prog k x_impl_areRows.G := (EnvOK.cons (s_impl_areDigits k) (EnvOK.nil mixed))
noncomputable def f_impl_areRows_0B : Code := (findLoop 0 c_impl_areRows).getD .skip
theorem f_impl_areRows_0h (k : Nat) (x : f_impl_areRows_0i.D) : f_impl_areRows_0D.lp (k + 1) x = loopK x_impl_areRows f_impl_areRows_0D 0 f_impl_areRows_0B k x := by kernel_rfl
theorem f_impl_areRows_0l (k : Nat) : LOK Try.prog x_impl_areRows k f_impl_areRows_0B := LOK.by [] (by kernel_rfl) AllOK.nil
theorem f_impl_areRows_0z (x : f_impl_areRows_0i.D) : f_impl_areRows_0D.lp 0 x = none := by kernel_rfl
theorem f_impl_areRows_0ok (k : Nat) : EOK Try.prog x_impl_areRows k f_impl_areRows_0D.E (.block 0 (.loop f_impl_areRows_0B)) := loop_ok T_ok g_impl_areRows f_impl_areRows_0z f_impl_areRows_0h f_impl_areRows_0l k
theorem h_impl_areRows (k : Nat) (x : Tup d_impl_areRows.ps) : d_impl_areRows.f (k + 1) x = fnK d_impl_areRows x_impl_areRows c_impl_areRows k x := by kernel_rfl
theorem z_impl_areRows (x : Tup d_impl_areRows.ps) : d_impl_areRows.f 0 x = none := by kernel_rfl
theorem l_impl_areRows (k : Nat) : LOK Try.prog x_impl_areRows k c_impl_areRows := LOK.by [(f_impl_areRows_0D.E, .block 0 (.loop f_impl_areRows_0B))] (by kernel_rfl) (AllOK.cons (f_impl_areRows_0ok k) AllOK.nil)
theorem s_impl_areRows (k : Nat) : SoundAt Try.prog k 75 d_impl_areRows.E := @fn_all Try.prog d_impl_areRows x_impl_areRows 75 Try.f75 c_impl_areRows (by kernel_rfl) (by kernel_rfl) (by kernel_rfl) Try.func75 (by kernel_rfl) (by kernel_rfl) (by kernel_rfl) T_ok g_impl_areRows l_impl_areRows z_impl_areRows h_impl_areRows k
/-! function 77 -/
noncomputable def r_spec_voVoted : List PK := [{ t := Ty.slice (3 : Nat) (Ty.int IntKind.i64) }]
noncomputable def q_spec_voVoted : List PK := [{ t := Ty.slice (25 : Nat) (Ty.slice (3 : Nat) (Ty.int IntKind.i64)) }]
noncomputable def to_spec_voVoted (r : List Int) : Tup r_spec_voVoted × OutD := ((r, ()), none)
noncomputable def of_spec_voVoted : Tup r_spec_voVoted × OutD → Option (List Int)
  | (a, none) => some (a.1)
  | _ => none
theorem to_of_spec_voVoted : ∀ b r, of_spec_voVoted b = some r → to_spec_voVoted r = b := by
  rintro ⟨a, o⟩ r h
  cases o with
  | none => injection h with h; subst h; rfl
  | some _ => cases h
noncomputable def f_spec_voVoted_0 : Nat → List Int → List (List Int) → Int → Int → Option (List Int)
  | 0, _, _, _, _ => none
  | k + 1, o1, v0, v10, v11 =>
    if decide (v11 < v10) = true then Option.bind (f_spec_voPlace k v0 v11) fun z0 => Option.bind (f_spec_voMost k z0) fun z1 => if List.length o1 + List.length [Prod.fst z1] ≤ (140737488355328 / 8 : Nat) then f_spec_voVoted_0 k (o1 ++ [Prod.fst z1]) v0 v10 (wrap64 (v11 + (1 : Int))) else none else some o1
noncomputable def f_spec_voVoted_0i : Spec := { objs := [OSh.ro, OSh.row true (3 : Nat) (Ty.int IntKind.i64)], tmps := [((0 : Nat), TSh.at (Sh.snap (0 : Nat) (Ty.slice (3 : Nat) (Ty.int IntKind.i64)))), ((3 : Nat), TSh.at (Sh.sl (1 : Nat))), ((10 : Nat), TSh.at (Sh.int IntKind.i64)), ((11 : Nat), TSh.at (Sh.int IntKind.i64))] }
noncomputable def f_spec_voVoted_0o : Spec := { objs := [OSh.ro, OSh.row true (3 : Nat) (Ty.int IntKind.i64)], tmps := [((3 : Nat), TSh.at (Sh.sl (1 : Nat)))] }
noncomputable def f_spec_voVoted_0D : LoopDef (Tup r_spec_voVoted × OutD) := .plain f_spec_voVoted_0i f_spec_voVoted_0o (List Int) (fun k x => f_spec_voVoted_0 k x.1.2.1 x.2.1 x.2.2.2.1 x.2.2.2.2.1) (fun z => (((), z, ()), ((), ()))) (fun y => (y.1.2.1)) (fun _ => rfl)
noncomputable def f_spec_voVoted : Nat → List (List Int) → Option (List Int)
  | 0, _ => none
  | k + 1, p0 =>
    if (0 : Int) < (↑(List.length p0) : Int) then Option.bind (f_spec_voVoted_0 k [] p0 (↑(List.length (List.getD p0 (Int.toNat (0 : Int)) [])) : Int) (0 : Int)) fun z2 => some z2 else none
noncomputable def d_spec_voVoted : FnDef := .of q_spec_voVoted r_spec_voVoted (List Int) (fun k x => f_spec_voVoted k x.1) to_spec_voVoted of_spec_voVoted to_of_spec_voVoted
noncomputable def c_spec_voVoted : Code := Try.f77.body.getD .skip
noncomputable def x_spec_voVoted : Ctx (Tup r_spec_voVoted × OutD) := { T := T, G := [(74, d_spec_voPlace.E), (61, d_spec_voMost.E)], mvs := [], no := 0, n := 27, res := resOf T q_spec_voVoted r_spec_voVoted Try.f77.results.toList, loops := [(0, f_spec_voVoted_0D.E)], regs := [], conds := [] }
theorem g_spec_voVoted (k : Nat) : EnvOK Try.prog k x_spec_voVoted.G := (EnvOK.cons (s_spec_voPlace k) (EnvOK.cons (s_spec_voMost k) (EnvOK.nil mixed)))
noncomputable def f_spec_voVoted_0B : Code := (findLoop 0 c_spec_voVoted).getD .skip
theorem f_spec_voVoted_0h (k : Nat) (x : f_spec_voVoted_0i.D) : f_spec_voVoted_0D.lp (k + 1) x = loopK x_spec_voVoted f_spec_voVoted_0D 0 f_spec_voVoted_0B k x := by kernel_rfl
theorem f_spec_voVoted_0l (k : Nat) : LOK Try.prog x_spec_voVoted k f_spec_voVoted_0B := LOK.by [] (by kernel_rfl) AllOK.nil
theorem f_spec_voVoted_0z (x : f_spec_voVoted_0i.D) : f_spec_voVoted_0D.lp 0 x = none := by kernel_rfl
theorem f_spec_voVoted_0ok (k : Nat) : EOK Try.prog x_spec_voVoted k f_spec_voVoted_0D.E (.block 0 (.loop f_spec_voVoted_0B)) := loop_ok T_ok g_spec_voVoted f_spec_voVoted_0z f_spec_voVoted_0h f_spec_voVoted_0l k
theorem h_spec_voVoted (k : Nat) (x : Tup d_spec_voVoted.ps) : d_spec_voVoted.f (k + 1) x = fnK d_spec_voVoted x_spec_voVoted c_spec_voVoted k x := by kernel_rfl
theorem z_spec_voVoted (x : Tup d_spec_voVoted.ps) : d_spec_voVoted.f 0 x = none := by kernel_rfl
theorem l_spec_voVoted (k : Nat) : LOK Try.prog x_spec_voVoted k c_spec_voVoted := LOK.by [(f_spec_voVoted_0D.E, .block 0 (.loop f_spec_voVoted_0B))] (by kernel_rfl) (AllOK.cons (f_spec_voVoted_0ok k) AllOK.nil)
theorem s_spec_voVoted (k : Nat) : SoundAt Try.prog k 77 d_spec_voVoted.E := @fn_all Try.prog d_spec_voVoted x_spec_voVoted 77 Try.f77 c_spec_voVoted (by kernel_rfl) (by kernel_rfl) (by kernel_rfl) Try.func77 (by kernel_rfl) (by kernel_rfl) (by kernel_rfl) T_ok g_spec_voVoted l_spec_voVoted z_spec_voVoted h_spec_voVoted k
/-! function 78 -/
noncomputable def r_impl_votedRows : List PK := [{ t := Ty.slice (3 : Nat) (Ty.int IntKind.i64) }]
noncomputable def q_impl_votedRows : List PK := [{ t := Ty.slice (25 : Nat) (Ty.slice (3 : Nat) (Ty.int IntKind.i64)) }]
noncomputable def to_impl_votedRows (r : List Int) : Tup r_impl_votedRows × OutD := ((r, ()), none)
noncomputable def of_impl_votedRows : Tup r_impl_votedRows × OutD → Option (List Int)
  | (a, none) => some (a.1)
  | _ => none
theorem to_of_impl_votedRows : ∀ b r, of_impl_votedRows b = some r → to_impl_votedRows r = b := by
  rintro ⟨a, o⟩ r h
  cases o with
  | none => injection h with h; subst h; rfl
  | some _ => cases h
noncomputable def f_impl_votedRows_0 : Nat → List Int → List (List Int) → Int → Int → Option (List Int)
  | 0, _, _, _, _ => none
  | k + 1, o1, v0, v11, v12 =>
    if decide (v12 < v11) = true then Option.bind (f_impl_column k v0 v12) fun z0 => Option.bind (f_impl_mostVoted k z0) fun z1 => if List.length o1 + List.length [Prod.fst z1] ≤ (140737488355328 / 8 : Nat) then f_impl_votedRows_0 k (o1 ++ [Prod.fst z1]) v0 v11 (wrap64 (v12 + (1 : Int))) else none else some o1
noncomputable def f_impl_votedRows_0i : Spec := { objs := [OSh.ro, OSh.row true (3 : Nat) (Ty.int IntKind.i64)], tmps := [((0 : Nat), TSh.at (Sh.snap (0 : Nat) (Ty.slice (3 : Nat) (Ty.int IntKind.i64)))), ((3 : Nat), TSh.at (Sh.sl (1 : Nat))), ((11 : Nat), TSh.at (Sh.int IntKind.i64)), ((12 : Nat), TSh.at (Sh.int IntKind.i64))] }
noncomputable def f_impl_votedRows_0o : Spec := { objs := [OSh.ro, OSh.row true (3 : Nat) (Ty.int IntKind.i64)], tmps := [((3 : Nat), TSh.at (Sh.sl (1 : Nat)))] }
noncomputable def f_impl_votedRows_0D : LoopDef (Tup r_impl_votedRows × OutD) := .plain f_impl_votedRows_0i f_impl_votedRows_0o (List Int) (fun k x => f_impl_votedRows_0 k x.1.2.1 x.2.1 x.2.2.2.1 x.2.2.2.2.1) (fun z => (((), z, ()), ((), ()))) (fun y => (y.1.2.1)) (fun _ => rfl)
noncomputable def f_impl_votedRows : Nat → List (List Int) → Option (List Int)
  | 0, _ => none
  | k + 1, p0 =>
    if (0 : Int) < (↑(List.length p0) : Int) then Option.bind (f_impl_votedRows_0 k [] p0 (↑(List.length (List.getD p0 (Int.toNat (0 : Int)) [])) : Int) (0 : Int)) fun z2 => some z2 else none
noncomputable def d_impl_votedRows : FnDef := .of q_impl_votedRows r_impl_votedRows (List Int) (fun k x => f_impl_votedRows k x.1) to_impl_votedRows of_impl_votedRows to_of_impl_votedRows
noncomputable def c_impl_votedRows : Code := Try.f78.body.getD .skip
noncomputable def x_impl_votedRows : Ctx (Tup r_impl_votedRows × OutD) := { T := T, G := [(76, d_impl_column.E), (62, d_impl_mostVoted.E)], mvs := [], no := 0, n := 28, res := resOf T q_impl_votedRows r_impl_votedRows Try.f78.results.toList, loops := [(0, f_impl_votedRows_0D.E)], regs := [], conds := [] }
theorem g_impl_votedRows (k : Nat) : EnvOK Try.prog k x_impl_votedRows.G := (EnvOK.cons (s_impl_column k) (EnvOK.cons (s_impl_mostVoted k) (EnvOK.nil mixed)))
noncomputable def f_impl_votedRows_0B : Code := (findLoop 0 c_impl_votedRows).getD .skip
theorem f_impl_votedRows_0h (k : Nat) (x : f_impl_votedRows_0i.D) : f_impl_votedRows_0D.lp (k + 1) x = loopK x_impl_votedRows f_impl_votedRows_0D 0 f_impl_votedRows_0B k x := by kernel_rfl
theorem f_impl_votedRows_0l (k : Nat) : LOK Try.prog x_impl_votedRows k f_impl_votedRows_0B := LOK.by [] (by kernel_rfl) AllOK.nil
theorem f_impl_votedRows_0z (x : f_impl_votedRows_0i.D) : f_impl_votedRows_0D.lp 0 x = none := by kernel_rfl
theorem f_impl_votedRows_0ok (k : Nat) : EOK Try.prog x_impl_votedRows k f_impl_votedRows_0D.E (.block 0 (.loop f_impl_votedRows_0B)) := loop_ok T_ok g_impl_votedRows f_impl_votedRows_0z f_impl_votedRows_0h f_impl_votedRows_0l k
theorem h_impl_votedRows (k : Nat) (x : Tup d_impl_votedRows.ps) : d_impl_votedRows.f (k + 1) x = fnK d_impl_votedRows x_impl_votedRows c_impl_votedRows k x := by kernel_rfl
theorem z_impl_votedRows (x : Tup d_impl_votedRows.ps) : d_impl_votedRows.f 0 x = none := by kernel_rfl
theorem l_impl_votedRows (k : Nat) : LOK Try.prog x_impl_votedRows k c_impl_votedRows := LOK.by [(f_impl_votedRows_0D.E, .block 0 (.loop f_impl_votedRows_0B))] (by kernel_rfl) (AllOK.cons (f_impl_votedRows_0ok k) AllOK.nil)
theorem s_impl_votedRows (k : Nat) : SoundAt Try.prog k 78 d_impl_votedRows.E := @fn_all Try.prog d_impl_votedRows x_impl_votedRows 78 Try.f78 c_impl_votedRows (by kernel_rfl) (by kernel_rfl) (by kernel_rfl) Try.func78 (by kernel_rfl) (by kernel_rfl) (by kernel_rfl) T_ok g_impl_votedRows l_impl_votedRows z_impl_votedRows h_impl_votedRows k
/-! function 84 -/
/-! function 87 -/
/-! function 92 -/
/-! function 99 -/
/-! function 102 -/
/-! function 103 -/
end
end Go.Proofs.Ytcmndffpmjinlaa.Vs

set_option maxRecDepth 100000
set_option linter.unusedVariables false
set_option linter.unusedSimpArgs false
namespace Go.Proofs.Ytcmndffpmjinlaa.Vs
open Go.RowKit
noncomputable section
/-! function 15 -/
/-! function 19 -/
/-! function 24 -/
noncomputable def r_impl_MostVoted : List PK := [{ t := Ty.int IntKind.i64 }, { t := Ty.int IntKind.i64 }, { t := Ty.bool }]
noncomputable def q_impl_MostVoted : List PK := [{ t := Ty.slice (3 : Nat) (Ty.int IntKind.i64) }]
noncomputable def to_impl_MostVoted (r : Int × Int × Bool) : Tup r_impl_MostVoted × OutD := ((r.1, r.2.1, r.2.2, ()), none)
noncomputable def of_impl_MostVoted : Tup r_impl_MostVoted × OutD → Option (Int × Int × Bool)
  | (a, none) => some (a.1, a.2.1, a.2.2.1)
  | _ => none
theorem to_of_impl_MostVoted : ∀ b r, of_impl_MostVoted b = some r → to_impl_MostVoted r = b := by
  rintro ⟨a, o⟩ r h
  cases o with
  | none => injection h with h; subst h; rfl
  | some _ => cases h
noncomputable def f_impl_MostVoted : Nat → List Int → Option (Int × Int × Bool)
  | 0, _ => none
  | k + 1, p0 =>
    Option.bind (f_impl_areVotes k p0) fun z0 => if (!z0) = true then some ((0 : Int), (0 : Int), false) else Option.bind (f_impl_mostVoted k p0) fun z1 => some (Prod.fst z1, Prod.snd z1, true)
noncomputable def d_impl_MostVoted : FnDef := .of q_impl_MostVoted r_impl_MostVoted (Int × Int × Bool) (fun k x => f_impl_MostVoted k x.1) to_impl_MostVoted of_impl_MostVoted to_of_impl_MostVoted
noncomputable def c_impl_MostVoted : Code := Try.f24.body.getD .skip
noncomputable def x_impl_MostVoted : Ctx (Tup r_impl_MostVoted × OutD) := { T := T, G := [(57, d_impl_areVotes.E), (62, d_impl_mostVoted.E)], mvs := [], no := 0, n := 17, res := resOf T q_impl_MostVoted r_impl_MostVoted Try.f24.results.toList, loops := [], regs := [], conds := [] }
theorem g_impl_MostVoted (k : Nat) : EnvOK Try.prog k x_impl_MostVoted.G := (EnvOK.cons (s_impl_areVotes k) (EnvOK.cons (s_impl_mostVoted k) (EnvOK.nil mixed)))
theorem h_impl_MostVoted (k : Nat) (x : Tup d_impl_MostVoted.ps) : d_impl_MostVoted.f (k + 1) x = fnK d_impl_MostVoted x_impl_MostVoted c_impl_MostVoted k x := by kernel_rfl
theorem z_impl_MostVoted (x : Tup d_impl_MostVoted.ps) : d_impl_MostVoted.f 0 x = none := by kernel_rfl
theorem l_impl_MostVoted (k : Nat) : LOK Try.prog x_impl_MostVoted k c_impl_MostVoted := LOK.by [] (by kernel_rfl) AllOK.nil
theorem s_impl_MostVoted (k : Nat) : SoundAt Try.prog k 24 d_impl_MostVoted.E := @fn_all Try.prog d_impl_MostVoted x_impl_MostVoted 24 Try.f24 c_impl_MostVoted (by kernel_rfl) (by kernel_rfl) (by kernel_rfl) Try.func24 (by kernel_rfl) (by kernel_rfl) (by kernel_rfl) T_ok g_impl_MostVoted l_impl_MostVoted z_impl_MostVoted h_impl_MostVoted k
/-! function 28 -/
noncomputable def r_impl_MajorityOf : List PK := [{ t := Ty.int IntKind.i64 }, { t := Ty.bool }]
noncomputable def q_impl_MajorityOf : List PK := [{ t := Ty.slice (3 : Nat) (Ty.int IntKind.i64) }]
noncomputable def to_impl_MajorityOf (r : Int × Bool) : Tup r_impl_MajorityOf × OutD := ((r.1, r.2, ()), none)
noncomputable def of_impl_MajorityOf : Tup r_impl_MajorityOf × OutD → Option (Int × Bool)
  | (a, none) => some (a.1, a.2.1)
  | _ => none
theorem to_of_impl_MajorityOf : ∀ b r, of_impl_MajorityOf b = some r → to_impl_MajorityOf r = b := by
  rintro ⟨a, o⟩ r h
  cases o with
  | none => injection h with h; subst h; rfl
  | some _ => cases h
noncomputable def f_impl_MajorityOf : Nat → List Int → Option (Int × Bool)
  | 0, _ => none
  | k + 1, p0 =>
    Option.bind (f_impl_areVotes k p0) fun z0 => if (!z0) = true then some ((0 : Int), false) else Option.bind (f_impl_mostVoted k p0) fun z1 => if decide (wrap64 ((2 : Int) * Prod.snd z1) ≤ (↑(List.length p0) : Int)) = true then some ((0 : Int), false) else some (Prod.fst z1, true)
noncomputable def d_impl_MajorityOf : FnDef := .of q_impl_MajorityOf r_impl_MajorityOf (Int × Bool) (fun k x => f_impl_MajorityOf k x.1) to_impl_MajorityOf of_impl_MajorityOf to_of_impl_MajorityOf
noncomputable def c_impl_MajorityOf : Code := Try.f28.body.getD .skip
noncomputable def x_impl_MajorityOf : Ctx (Tup r_impl_MajorityOf × OutD) := { T := T, G := [(57, d_impl_areVotes.E), (62, d_impl_mostVoted.E)], mvs := [], no := 0, n := 20, res := resOf T q_impl_MajorityOf r_impl_MajorityOf Try.f28.results.toList, loops := [], regs := [], conds := [] }
theorem g_impl_MajorityOf (k : Nat) : EnvOK Try.prog k x_impl_MajorityOf.G := (EnvOK.cons (s_impl_areVotes k) (EnvOK.cons (s_impl_mostVoted k) (EnvOK.nil mixed)))
theorem h_impl_MajorityOf (k : Nat) (x : Tup d_impl_MajorityOf.ps) : d_impl_MajorityOf.f (k + 1) x = fnK d_impl_MajorityOf x_impl_MajorityOf c_impl_MajorityOf k x := by kernel_rfl
theorem z_impl_MajorityOf (x : Tup d_impl_MajorityOf.ps) : d_impl_MajorityOf.f 0 x = none := by kernel_rfl
theorem l_impl_MajorityOf (k : Nat) : LOK Try.prog x_impl_MajorityOf k c_impl_MajorityOf := LOK.by [] (by kernel_rfl) AllOK.nil
theorem s_impl_MajorityOf (k : Nat) : SoundAt Try.prog k 28 d_impl_MajorityOf.E := @fn_all Try.prog d_impl_MajorityOf x_impl_MajorityOf 28 Try.f28 c_impl_MajorityOf (by kernel_rfl) (by kernel_rfl) (by kernel_rfl) Try.func28 (by kernel_rfl) (by kernel_rfl) (by kernel_rfl) T_ok g_impl_MajorityOf l_impl_MajorityOf z_impl_MajorityOf h_impl_MajorityOf k
/-! function 30 -/
/-! function 33 -/
/-! function 34 -/
/-! function 35 -/
/-! function 39 -/
/-! function 42 -/
noncomputable def r_impl_VotedRows : List PK := [{ t := Ty.slice (3 : Nat) (Ty.int IntKind.i64) }, { t := Ty.bool }]
noncomputable def q_impl_VotedRows : List PK := [{ t := Ty.slice (25 : Nat) (Ty.slice (3 : Nat) (Ty.int IntKind.i64)) }]
noncomputable def to_impl_VotedRows (r : List Int × Bool) : Tup r_impl_VotedRows × OutD := ((r.1, r.2, ()), none)
noncomputable def of_impl_VotedRows : Tup r_impl_VotedRows × OutD → Option (List Int × Bool)
  | (a, none) => some (a.1, a.2.1)
  | _ => none
theorem to_of_impl_VotedRows : ∀ b r, of_impl_VotedRows b = some r → to_impl_VotedRows r = b := by
  rintro ⟨a, o⟩ r h
  cases o with
  | none => injection h with h; subst h; rfl
  | some _ => cases h
noncomputable def f_impl_VotedRows : Nat → List (List Int) → Option (List Int × Bool)
  | 0, _ => none
  | k + 1, p0 =>
    Option.bind (f_impl_areRows k p0) fun z0 => if (!z0) = true then some ([], false) else Option.bind (f_impl_votedRows k p0) fun z1 => some (z1, true)
noncomputable def d_impl_VotedRows : FnDef := .of q_impl_VotedRows r_impl_VotedRows (List Int × Bool) (fun k x => f_impl_VotedRows k x.1) to_impl_VotedRows of_impl_VotedRows to_of_impl_VotedRows
noncomputable def c_impl_VotedRows : Code := Try.f42.body.getD .skip
noncomputable def x_impl_VotedRows : Ctx (Tup r_impl_VotedRows × OutD) := { T := T, G := [(75, d_impl_areRows.E), (78, d_impl_votedRows.E)], mvs := [], no := 0, n := 9, res := resOf T q_impl_VotedRows r_impl_VotedRows Try.f42.results.toList, loops := [], regs := [], conds := [] }
theorem g_impl_VotedRows (k : Nat) : EnvOK Try.prog k x_impl_VotedRows.G := (EnvOK.cons (s_impl_areRows k) (EnvOK.cons (s_impl_votedRows k) (EnvOK.nil mixed)))
theorem h_impl_VotedRows (k : Nat) (x : Tup d_impl_VotedRows.ps) : d_impl_VotedRows.f (k + 1) x = fnK d_impl_VotedRows x_impl_VotedRows c_impl_VotedRows k x := by kernel_rfl
theorem z_impl_VotedRows (x : Tup d_impl_VotedRows.ps) : d_impl_VotedRows.f 0 x = none := by kernel_rfl
theorem l_impl_VotedRows (k : Nat) : LOK Try.prog x_impl_VotedRows k c_impl_VotedRows := LOK.by [] (by kernel_rfl) AllOK.nil
theorem s_impl_VotedRows (k : Nat) : SoundAt Try.prog k 42 d_impl_VotedRows.E := @fn_all Try.prog d_impl_VotedRows x_impl_VotedRows 42 Try.f42 c_impl_VotedRows (by kernel_rfl) (by kernel_rfl) (by kernel_rfl) Try.func42 (by kernel_rfl) (by kernel_rfl) (by kernel_rfl) T_ok g_impl_VotedRows l_impl_VotedRows z_impl_VotedRows h_impl_VotedRows k
/-! function 47 -/
noncomputable def r_impl_SuspectCopies : List PK := [{ t := Ty.slice (3 : Nat) (Ty.int IntKind.i64) }, { t := Ty.bool }]
noncomputable def q_impl_SuspectCopies : List PK := [{ t := Ty.slice (25 : Nat) (Ty.slice (3 : Nat) (Ty.int IntKind.i64)) }]
noncomputable def to_impl_SuspectCopies (r : List Int × Bool) : Tup r_impl_SuspectCopies × OutD := ((r.1, r.2, ()), none)
noncomputable def of_impl_SuspectCopies : Tup r_impl_SuspectCopies × OutD → Option (List Int × Bool)
  | (a, none) => some (a.1, a.2.1)
  | _ => none
theorem to_of_impl_SuspectCopies : ∀ b r, of_impl_SuspectCopies b = some r → to_impl_SuspectCopies r = b := by
  rintro ⟨a, o⟩ r h
  cases o with
  | none => injection h with h; subst h; rfl
  | some _ => cases h
noncomputable def f_impl_SuspectCopies_0 : Nat → List Int → List Int → List (List Int) → Int → Int → Option (List Int)
  | 0, _, _, _, _, _ => none
  | k + 1, o1, o2, v14, v15, v16 =>
    if decide (v16 < v15) = true then if (0 : Int) ≤ v16 then if v16 < (↑(List.length v14) : Int) then Option.bind (f_slices_Equal_int_int k (List.getD v14 (Int.toNat v16) []) o1) fun z2 => if (!z2) = true then if List.length o2 + List.length [v16] ≤ (140737488355328 / 8 : Nat) then f_impl_SuspectCopies_0 k o1 (o2 ++ [v16]) v14 v15 (wrap64 (v16 + (1 : Int))) else none else f_impl_SuspectCopies_0 k o1 o2 v14 v15 (wrap64 (v16 + (1 : Int))) else none else none else some o2
noncomputable def f_impl_SuspectCopies_0i : Spec := { objs := [OSh.ro, OSh.row true (3 : Nat) (Ty.int IntKind.i64), OSh.row true (3 : Nat) (Ty.int IntKind.i64)], tmps := [((4 : Nat), TSh.at (Sh.sl (1 : Nat))), ((5 : Nat), TSh.at (Sh.sl (2 : Nat))), ((14 : Nat), TSh.at (Sh.snap (0 : Nat) (Ty.slice (3 : Nat) (Ty.int IntKind.i64)))), ((15 : Nat), TSh.at (Sh.int IntKind.i64)), ((16 : Nat), TSh.at (Sh.int IntKind.i64))] }
noncomputable def f_impl_SuspectCopies_0o : Spec := { objs := [OSh.ro, OSh.row true (3 : Nat) (Ty.int IntKind.i64)], tmps := [((5 : Nat), TSh.at (Sh.sl (1 : Nat)))] }
noncomputable def f_impl_SuspectCopies_0D : LoopDef (Tup r_impl_SuspectCopies × OutD) := .plain f_impl_SuspectCopies_0i f_impl_SuspectCopies_0o (List Int) (fun k x => f_impl_SuspectCopies_0 k x.1.2.1 x.1.2.2.1 x.2.2.2.1 x.2.2.2.2.1 x.2.2.2.2.2.1) (fun z => (((), z, ()), ((), ()))) (fun y => (y.1.2.1)) (fun _ => rfl)
noncomputable def f_impl_SuspectCopies : Nat → List (List Int) → Option (List Int × Bool)
  | 0, _ => none
  | k + 1, p0 =>
    Option.bind (f_impl_areRows k p0) fun z0 => if (!z0) = true then some ([], false) else Option.bind (f_impl_votedRows k p0) fun z1 => Option.bind (f_impl_SuspectCopies_0 k z1 [] p0 (↑(List.length p0) : Int) (0 : Int)) fun z3 => some (z3, true)
noncomputable def d_impl_SuspectCopies : FnDef := .of q_impl_SuspectCopies r_impl_SuspectCopies (List Int × Bool) (fun k x => f_impl_SuspectCopies k x.1) to_impl_SuspectCopies of_impl_SuspectCopies to_of_impl_SuspectCopies
noncomputable def c_impl_SuspectCopies : Code := Try.f47.body.getD .skip
noncomputable def x_impl_SuspectCopies : Ctx (Tup r_impl_SuspectCopies × OutD) := { T := T, G := [(75, d_impl_areRows.E), (78, d_impl_votedRows.E), (80, d_slices_Equal_int_int.E)], mvs := [], no := 0, n := 31, res := resOf T q_impl_SuspectCopies r_impl_SuspectCopies Try.f47.results.toList, loops := [(0, f_impl_SuspectCopies_0D.E)], regs := [], conds := [] }
theorem g_impl_SuspectCopies (k : Nat) : EnvOK Try.prog k x_impl_SuspectCopies.G := (EnvOK.cons (s_impl_areRows k) (EnvOK.cons (s_impl_votedRows k) (EnvOK.cons (s_slices_Equal_int_int k) (EnvOK.nil mixed))))
noncomputable def f_impl_SuspectCopies_0B : Code := (findLoop 0 c_impl_SuspectCopies).getD .skip
theorem f_impl_SuspectCopies_0h (k : Nat) (x : f_impl_SuspectCopies_0i.D) : f_impl_SuspectCopies_0D.lp (k + 1) x = loopK x_impl_SuspectCopies f_impl_SuspectCopies_0D 0 f_impl_SuspectCopies_0B k x := by kernel_rfl
theorem f_impl_SuspectCopies_0l (k : Nat) : LOK Try.prog x_impl_SuspectCopies k f_impl_SuspectCopies_0B := LOK.by [] (by kernel_rfl) AllOK.nil
theorem f_impl_SuspectCopies_0z (x : f_impl_SuspectCopies_0i.D) : f_impl_SuspectCopies_0D.lp 0 x = none := by kernel_rfl
theorem f_impl_SuspectCopies_0ok (k : Nat) : EOK Try.prog x_impl_SuspectCopies k f_impl_SuspectCopies_0D.E (.block 0 (.loop f_impl_SuspectCopies_0B)) := loop_ok T_ok g_impl_SuspectCopies f_impl_SuspectCopies_0z f_impl_SuspectCopies_0h f_impl_SuspectCopies_0l k
theorem h_impl_SuspectCopies (k : Nat) (x : Tup d_impl_SuspectCopies.ps) : d_impl_SuspectCopies.f (k + 1) x = fnK d_impl_SuspectCopies x_impl_SuspectCopies c_impl_SuspectCopies k x := by kernel_rfl
theorem z_impl_SuspectCopies (x : Tup d_impl_SuspectCopies.ps) : d_impl_SuspectCopies.f 0 x = none := by kernel_rfl
theorem l_impl_SuspectCopies (k : Nat) : LOK Try.prog x_impl_SuspectCopies k c_impl_SuspectCopies := LOK.by [(f_impl_SuspectCopies_0D.E, .block 0 (.loop f_impl_SuspectCopies_0B))] (by kernel_rfl) (AllOK.cons (f_impl_SuspectCopies_0ok k) AllOK.nil)
theorem s_impl_SuspectCopies (k : Nat) : SoundAt Try.prog k 47 d_impl_SuspectCopies.E := @fn_all Try.prog d_impl_SuspectCopies x_impl_SuspectCopies 47 Try.f47 c_impl_SuspectCopies (by kernel_rfl) (by kernel_rfl) (by kernel_rfl) Try.func47 (by kernel_rfl) (by kernel_rfl) (by kernel_rfl) T_ok g_impl_SuspectCopies l_impl_SuspectCopies z_impl_SuspectCopies h_impl_SuspectCopies k
/-! function 50 -/
/-! function 52 -/
/-! function 54 -/
noncomputable def r_spec_voVotes : List PK := [{ t := Ty.bool }]
noncomputable def q_spec_voVotes : List PK := [{ t := Ty.slice (3 : Nat) (Ty.int IntKind.i64) }]
noncomputable def to_spec_voVotes (r : Bool) : Tup r_spec_voVotes × OutD := ((r, ()), none)
noncomputable def of_spec_voVotes : Tup r_spec_voVotes × OutD → Option (Bool)
  | (a, none) => some (a.1)
  | _ => none
theorem to_of_spec_voVotes : ∀ b r, of_spec_voVotes b = some r → to_spec_voVotes r = b := by
  rintro ⟨a, o⟩ r h
  cases o with
  | none => injection h with h; subst h; rfl
  | some _ => cases h
noncomputable def f_spec_voVotes : Nat → List Int → Option Bool
  | 0, _ => none
  | k + 1, p0 =>
    Option.bind (f_spec_l1In k (↑(List.length p0) : Int) (1 : Int) (9 : Int)) fun z0 => if z0 = true then Option.bind (f_spec_l1All k p0 (0 : Int) (9 : Int)) fun z1 => some z1 else some false
noncomputable def d_spec_voVotes : FnDef := .of q_spec_voVotes r_spec_voVotes (Bool) (fun k x => f_spec_voVotes k x.1) to_spec_voVotes of_spec_voVotes to_of_spec_voVotes
noncomputable def c_spec_voVotes : Code := Try.f54.body.getD .skip
noncomputable def x_spec_voVotes : Ctx (Tup r_spec_voVotes × OutD) := { T := T, G := [(55, d_spec_l1In.E), (63, d_spec_l1All.E)], mvs := [], no := 0, n := 10, res := resOf T q_spec_voVotes r_spec_voVotes Try.f54.results.toList, loops := [], regs := [], conds := [] }
theorem g_spec_voVotes (k : Nat) : EnvOK Try.prog k x_spec_voVotes.G := (EnvOK.cons (s_spec_l1In k) (EnvOK.cons (s_spec_l1All k) (EnvOK.nil mixed)))
theorem h_spec_voVotes (k : Nat) (x : Tup d_spec_voVotes.ps) : d_spec_voVotes.f (k + 1) x = fnK d_spec_voVotes x_spec_voVotes c_spec_voVotes k x := by kernel_rfl
theorem z_spec_voVotes (x : Tup d_spec_voVotes.ps) : d_spec_voVotes.f 0 x = none := by kernel_rfl
theorem l_spec_voVotes (k : Nat) : LOK Try.prog x_spec_voVotes k c_spec_voVotes := LOK.by [] (by kernel_rfl) AllOK.nil
theorem s_spec_voVotes (k : Nat) : SoundAt Try.prog k 54 d_spec_voVotes.E := @fn_all Try.prog d_spec_voVotes x_spec_voVotes 54 Try.f54 c_spec_voVotes (by kernel_rfl) (by kernel_rfl) (by kernel_rfl) Try.func54 (by kernel_rfl) (by kernel_rfl) (by kernel_rfl) T_ok g_spec_voVotes l_spec_voVotes z_spec_voVotes h_spec_voVotes k
/-! function 68 -/
/-! function 73 -/
noncomputable def r_spec_voRows : List PK := [{ t := Ty.bool }]
noncomputable def q_spec_voRows : List PK := [{ t := Ty.slice (25 : Nat) (Ty.slice (3 : Nat) (Ty.int IntKind.i64)) }]
noncomputable def to_spec_voRows (r : Bool) : Tup r_spec_voRows × OutD := ((r, ()), none)
noncomputable def of_spec_voRows : Tup r_spec_voRows × OutD → Option (Bool)
  | (a, none) => some (a.1)
  | _ => none
theorem to_of_spec_voRows : ∀ b r, of_spec_voRows b = some r → to_spec_voRows r = b := by
  rintro ⟨a, o⟩ r h
  cases o with
  | none => injection h with h; subst h; rfl
  | some _ => cases h
noncomputable def f_spec_voRows_0 : Nat → List (List Int) → List (List Int) → Int → Int → Option (LR (List (List Int)) Bool)
  | 0, _, _, _, _ => none
  | k + 1, v0, v5, v6, v7 =>
    if decide (v7 < v6) = true then if (0 : Int) ≤ v7 then if v7 < (↑(List.length v5) : Int) then if (0 : Int) < (↑(List.length v0) : Int) then if decide ((↑(List.length (List.getD v5 (Int.toNat v7) [])) : Int) ≠ (↑(List.length (List.getD v0 (Int.toNat (0 : Int)) [])) : Int)) = true then some (LR.ret false) else if decide ((↑(List.length (List.getD v5 (Int.toNat v7) [])) : Int) > (40 : Int)) = true then some (LR.ret false) else Option.bind (f_spec_l1All k (List.getD v5 (Int.toNat v7) []) (0 : Int) (9 : Int)) fun z0 => if (!z0) = true then some (LR.ret false) else f_spec_voRows_0 k v0 v5 v6 (wrap64 (v7 + (1 : Int))) else none else none else none else some (LR.go v0)
noncomputable def f_spec_voRows_0i : Spec := { objs := [OSh.ro], tmps := [((0 : Nat), TSh.at (Sh.snap (0 : Nat) (Ty.slice (3 : Nat) (Ty.int IntKind.i64)))), ((5 : Nat), TSh.at (Sh.snap (0 : Nat) (Ty.slice (3 : Nat) (Ty.int IntKind.i64)))), ((6 : Nat), TSh.at (Sh.int IntKind.i64)), ((7 : Nat), TSh.at (Sh.int IntKind.i64))] }
noncomputable def f_spec_voRows_0o : Spec := { objs := [OSh.ro], tmps := [((0 : Nat), TSh.at (Sh.snap (0 : Nat) (Ty.slice (3 : Nat) (Ty.int IntKind.i64))))] }
noncomputable def f_spec_voRows_0D : LoopDef (Tup r_spec_voRows × OutD) := .rets f_spec_voRows_0i f_spec_voRows_0o (List (List Int)) (Bool) (fun k x => f_spec_voRows_0 k x.2.1 x.2.2.1 x.2.2.2.1 x.2.2.2.2.1) (fun z => (((), ()), (z, ()))) (fun y => (y.2.1)) (fun _ => rfl) to_spec_voRows of_spec_voRows to_of_spec_voRows
noncomputable def f_spec_voRows : Nat → List (List Int) → Option Bool
  | 0, _ => none
  | k + 1, p0 =>
    Option.bind (f_spec_voRows_0 k p0 p0 (↑(List.length p0) : Int) (0 : Int)) fun z1 => LR.on z1 (fun y1 => Option.bind (f_spec_voCopies k (↑(List.length y1) : Int)) fun z2 => some z2) fun r1 => some r1
noncomputable def d_spec_voRows : FnDef := .of q_spec_voRows r_spec_voRows (Bool) (fun k x => f_spec_voRows k x.1) to_spec_voRows of_spec_voRows to_of_spec_voRows
noncomputable def c_spec_voRows : Code := Try.f73.body.getD .skip
noncomputable def x_spec_voRows : Ctx (Tup r_spec_voRows × OutD) := { T := T, G := [(63, d_spec_l1All.E), (53, d_spec_voCopies.E)], mvs := [], no := 0, n := 32, res := resOf T q_spec_voRows r_spec_voRows Try.f73.results.toList, loops := [(0, f_spec_voRows_0D.E)], regs := [], conds := [] }
theorem g_spec_voRows (k : Nat) : EnvOK Try.prog k x_spec_voRows.G := (EnvOK.cons (s_spec_l1All k) (EnvOK.cons (s_spec_voCopies k) (EnvOK.nil mixed)))
noncomputable def f_spec_voRows_0B : Code := (findLoop 0 c_spec_voRows).getD .skip
theorem f_spec_voRows_0h (k : Nat) (x : f_spec_voRows_0i.D) : f_spec_voRows_0D.lp (k + 1) x = loopK x_spec_voRows f_spec_voRows_0D 0 f_spec_voRows_0B k x := by kernel_rfl
theorem f_spec_voRows_0l (k : Nat) : LOK Try.prog x_spec_voRows k f_spec_voRows_0B := LOK.by [] (by kernel_rfl) AllOK.nil
theorem f_spec_voRows_0z (x : f_spec_voRows_0i.D) : f_spec_voRows_0D.lp 0 x = none := by kernel_rfl
theorem f_spec_voRows_0ok (k : Nat) : EOK Try.prog x_spec_voRows k f_spec_voRows_0D.E (.block 0 (.loop f_spec_voRows_0B)) := loop_ok T_ok g_spec_voRows f_spec_voRows_0z f_spec_voRows_0h f_spec_voRows_0l k
theorem h_spec_voRows (k : Nat) (x : Tup d_spec_voRows.ps) : d_spec_voRows.f (k + 1) x = fnK d_spec_voRows x_spec_voRows c_spec_voRows k x := by kernel_rfl
theorem z_spec_voRows (x : Tup d_spec_voRows.ps) : d_spec_voRows.f 0 x = none := by kernel_rfl
theorem l_spec_voRows (k : Nat) : LOK Try.prog x_spec_voRows k c_spec_voRows := LOK.by [(f_spec_voRows_0D.E, .block 0 (.loop f_spec_voRows_0B))] (by kernel_rfl) (AllOK.cons (f_spec_voRows_0ok k) AllOK.nil)
theorem s_spec_voRows (k : Nat) : SoundAt Try.prog k 73 d_spec_voRows.E := @fn_all Try.prog d_spec_voRows x_spec_voRows 73 Try.f73 c_spec_voRows (by kernel_rfl) (by kernel_rfl) (by kernel_rfl) Try.func73 (by kernel_rfl) (by kernel_rfl) (by kernel_rfl) T_ok g_spec_voRows l_spec_voRows z_spec_voRows h_spec_voRows k
/-! function 83 -/
/-! function 85 -/
/-! function 90 -/
/-! function 97 -/
end
end Go.Proofs.Ytcmndffpmjinlaa.Vs

set_option maxRecDepth 100000
set_option linter.unusedVariables false
set_option linter.unusedSimpArgs false
namespace Go.Proofs.Ytcmndffpmjinlaa.Vs
open Go.RowKit
noncomputable section
/-! function 3 -/
/-! function 17 -/
/-! function 23 -/
noncomputable def r_spec_MostVoted : List PK := [{ t := Ty.int IntKind.i64 }, { t := Ty.int IntKind.i64 }, { t := Ty.bool }]
noncomputable def q_spec_MostVoted : List PK := [{ t := Ty.slice (3 : Nat) (Ty.int IntKind.i64) }]
noncomputable def to_spec_MostVoted (r : Int × Int × Bool) : Tup r_spec_MostVoted × OutD := ((r.1, r.2.1, r.2.2, ()), none)
noncomputable def of_spec_MostVoted : Tup r_spec_MostVoted × OutD → Option (Int × Int × Bool)
  | (a, none) => some (a.1, a.2.1, a.2.2.1)
  | _ => none
theorem to_of_spec_MostVoted : ∀ b r, of_spec_MostVoted b = some r → to_spec_MostVoted r = b := by
  rintro ⟨a, o⟩ r h
  cases o with
  | none => injection h with h; subst h; rfl
  | some _ => cases h
noncomputable def f_spec_MostVoted : Nat → List Int → Option (Int × Int × Bool)
  | 0, _ => none
  | k + 1, p0 =>
    Option.bind (f_spec_voVotes k p0) fun z0 => if (!z0) = true then some ((0 : Int), (0 : Int), false) else Option.bind (f_spec_voMost k p0) fun z1 => some (Prod.fst z1, Prod.snd z1, true)
noncomputable def d_spec_MostVoted : FnDef := .of q_spec_MostVoted r_spec_MostVoted (Int × Int × Bool) (fun k x => f_spec_MostVoted k x.1) to_spec_MostVoted of_spec_MostVoted to_of_spec_MostVoted
noncomputable def c_spec_MostVoted : Code := Try.f23.body.getD .skip
noncomputable def x_spec_MostVoted : Ctx (Tup r_spec_MostVoted × OutD) := { T := T, G := [(54, d_spec_voVotes.E), (61, d_spec_voMost.E)], mvs := [], no := 0, n := 17, res := resOf T q_spec_MostVoted r_spec_MostVoted Try.f23.results.toList, loops := [], regs := [], conds := [] }
theorem g_spec_MostVoted (k : Nat) : EnvOK Try.prog k x_spec_MostVoted.G := (EnvOK.cons (s_spec_voVotes k) (EnvOK.cons (s_spec_voMost k) (EnvOK.nil mixed)))
theorem h_spec_MostVoted (k : Nat) (x : Tup d_spec_MostVoted.ps) : d_spec_MostVoted.f (k + 1) x = fnK d_spec_MostVoted x_spec_MostVoted c_spec_MostVoted k x := by kernel_rfl
theorem z_spec_MostVoted (x : Tup d_spec_MostVoted.ps) : d_spec_MostVoted.f 0 x = none := by kernel_rfl
theorem l_spec_MostVoted (k : Nat) : LOK Try.prog x_spec_MostVoted k c_spec_MostVoted := LOK.by [] (by kernel_rfl) AllOK.nil
theorem s_spec_MostVoted (k : Nat) : SoundAt Try.prog k 23 d_spec_MostVoted.E := @fn_all Try.prog d_spec_MostVoted x_spec_MostVoted 23 Try.f23 c_spec_MostVoted (by kernel_rfl) (by kernel_rfl) (by kernel_rfl) Try.func23 (by kernel_rfl) (by kernel_rfl) (by kernel_rfl) T_ok g_spec_MostVoted l_spec_MostVoted z_spec_MostVoted h_spec_MostVoted k
/-! function 27 -/
noncomputable def r_spec_MajorityOf : List PK := [{ t := Ty.int IntKind.i64 }, { t := Ty.bool }]
noncomputable def q_spec_MajorityOf : List PK := [{ t := Ty.slice (3 : Nat) (Ty.int IntKind.i64) }]
noncomputable def to_spec_MajorityOf (r : Int × Bool) : Tup r_spec_MajorityOf × OutD := ((r.1, r.2, ()), none)
noncomputable def of_spec_MajorityOf : Tup r_spec_MajorityOf × OutD → Option (Int × Bool)
  | (a, none) => some (a.1, a.2.1)
  | _ => none
theorem to_of_spec_MajorityOf : ∀ b r, of_spec_MajorityOf b = some r → to_spec_MajorityOf r = b := by
  rintro ⟨a, o⟩ r h
  cases o with
  | none => injection h with h; subst h; rfl
  | some _ => cases h
noncomputable def f_spec_MajorityOf : Nat → List Int → Option (Int × Bool)
  | 0, _ => none
  | k + 1, p0 =>
    Option.bind (f_spec_voVotes k p0) fun z0 => if (!z0) = true then some ((0 : Int), false) else Option.bind (f_spec_voMost k p0) fun z1 => if decide (wrap64 ((2 : Int) * Prod.snd z1) ≤ (↑(List.length p0) : Int)) = true then some ((0 : Int), false) else some (Prod.fst z1, true)
noncomputable def d_spec_MajorityOf : FnDef := .of q_spec_MajorityOf r_spec_MajorityOf (Int × Bool) (fun k x => f_spec_MajorityOf k x.1) to_spec_MajorityOf of_spec_MajorityOf to_of_spec_MajorityOf
noncomputable def c_spec_MajorityOf : Code := Try.f27.body.getD .skip
noncomputable def x_spec_MajorityOf : Ctx (Tup r_spec_MajorityOf × OutD) := { T := T, G := [(54, d_spec_voVotes.E), (61, d_spec_voMost.E)], mvs := [], no := 0, n := 20, res := resOf T q_spec_MajorityOf r_spec_MajorityOf Try.f27.results.toList, loops := [], regs := [], conds := [] }
theorem g_spec_MajorityOf (k : Nat) : EnvOK Try.prog k x_spec_MajorityOf.G := (EnvOK.cons (s_spec_voVotes k) (EnvOK.cons (s_spec_voMost k) (EnvOK.nil mixed)))
theorem h_spec_MajorityOf (k : Nat) (x : Tup d_spec_MajorityOf.ps) : d_spec_MajorityOf.f (k + 1) x = fnK d_spec_MajorityOf x_spec_MajorityOf c_spec_MajorityOf k x := by kernel_rfl
theorem z_spec_MajorityOf (x : Tup d_spec_MajorityOf.ps) : d_spec_MajorityOf.f 0 x = none := by kernel_rfl
theorem l_spec_MajorityOf (k : Nat) : LOK Try.prog x_spec_MajorityOf k c_spec_MajorityOf := LOK.by [] (by kernel_rfl) AllOK.nil
theorem s_spec_MajorityOf (k : Nat) : SoundAt Try.prog k 27 d_spec_MajorityOf.E := @fn_all Try.prog d_spec_MajorityOf x_spec_MajorityOf 27 Try.f27 c_spec_MajorityOf (by kernel_rfl) (by kernel_rfl) (by kernel_rfl) Try.func27 (by kernel_rfl) (by kernel_rfl) (by kernel_rfl) T_ok g_spec_MajorityOf l_spec_MajorityOf z_spec_MajorityOf h_spec_MajorityOf k
/-! function 29 -/
/-! function 32 -/
/-! function 37 -/
/-! function 41 -/
noncomputable def r_spec_VotedRows : List PK := [{ t := Ty.slice (3 : Nat) (Ty.int IntKind.i64) }, { t := Ty.bool }]
noncomputable def q_spec_VotedRows : List PK := [{ t := Ty.slice (25 : Nat) (Ty.slice (3 : Nat) (Ty.int IntKind.i64)) }]
noncomputable def to_spec_VotedRows (r : List Int × Bool) : Tup r_spec_VotedRows × OutD := ((r.1, r.2, ()), none)
noncomputable def of_spec_VotedRows : Tup r_spec_VotedRows × OutD → Option (List Int × Bool)
  | (a, none) => some (a.1, a.2.1)
  | _ => none
theorem to_of_spec_VotedRows : ∀ b r, of_spec_VotedRows b = some r → to_spec_VotedRows r = b := by
  rintro ⟨a, o⟩ r h
  cases o with
  | none => injection h with h; subst h; rfl
  | some _ => cases h
noncomputable def f_spec_VotedRows : Nat → List (List Int) → Option (List Int × Bool)
  | 0, _ => none
  | k + 1, p0 =>
    Option.bind (f_spec_voRows k p0) fun z0 => if (!z0) = true then some ([], false) else Option.bind (f_spec_voVoted k p0) fun z1 => some (z1, true)
noncomputable def d_spec_VotedRows : FnDef := .of q_spec_VotedRows r_spec_VotedRows (List Int × Bool) (fun k x => f_spec_VotedRows k x.1) to_spec_VotedRows of_spec_VotedRows to_of_spec_VotedRows
noncomputable def c_spec_VotedRows : Code := Try.f41.body.getD .skip
noncomputable def x_spec_VotedRows : Ctx (Tup r_spec_VotedRows × OutD) := { T := T, G := [(73, d_spec_voRows.E), (77, d_spec_voVoted.E)], mvs := [], no := 0, n := 9, res := resOf T q_spec_VotedRows r_spec_VotedRows Try.f41.results.toList, loops := [], regs := [], conds := [] }
theorem g_spec_VotedRows (k : Nat) : EnvOK Try.prog k x_spec_VotedRows.G := (EnvOK.cons (s_spec_voRows k) (EnvOK.cons (s_spec_voVoted k) (EnvOK.nil mixed)))
theorem h_spec_VotedRows (k : Nat) (x : Tup d_spec_VotedRows.ps) : d_spec_VotedRows.f (k + 1) x = fnK d_spec_VotedRows x_spec_VotedRows c_spec_VotedRows k x := by kernel_rfl
theorem z_spec_VotedRows (x : Tup d_spec_VotedRows.ps) : d_spec_VotedRows.f 0 x = none := by kernel_rfl
theorem l_spec_VotedRows (k : Nat) : LOK Try.prog x_spec_VotedRows k c_spec_VotedRows := LOK.by [] (by kernel_rfl) AllOK.nil
theorem s_spec_VotedRows (k : Nat) : SoundAt Try.prog k 41 d_spec_VotedRows.E := @fn_all Try.prog d_spec_VotedRows x_spec_VotedRows 41 Try.f41 c_spec_VotedRows (by kernel_rfl) (by kernel_rfl) (by kernel_rfl) Try.func41 (by kernel_rfl) (by kernel_rfl) (by kernel_rfl) T_ok g_spec_VotedRows l_spec_VotedRows z_spec_VotedRows h_spec_VotedRows k
/-! function 46 -/
noncomputable def r_spec_SuspectCopies : List PK := [{ t := Ty.slice (3 : Nat) (Ty.int IntKind.i64) }, { t := Ty.bool }]
noncomputable def q_spec_SuspectCopies : List PK := [{ t := Ty.slice (25 : Nat) (Ty.slice (3 : Nat) (Ty.int IntKind.i64)) }]
noncomputable def to_spec_SuspectCopies (r : List Int × Bool) : Tup r_spec_SuspectCopies × OutD := ((r.1, r.2, ()), none)
noncomputable def of_spec_SuspectCopies : Tup r_spec_SuspectCopies × OutD → Option (List Int × Bool)
  | (a, none) => some (a.1, a.2.1)
  | _ => none
theorem to_of_spec_SuspectCopies : ∀ b r, of_spec_SuspectCopies b = some r → to_spec_SuspectCopies r = b := by
  rintro ⟨a, o⟩ r h
  cases o with
  | none => injection h with h; subst h; rfl
  | some _ => cases h
noncomputable def f_spec_SuspectCopies_0 : Nat → List Int → List Int → List (List Int) → Int → Int → Option (List Int)
  | 0, _, _, _, _, _ => none
  | k + 1, o1, o2, v13, v14, v15 =>
    if decide (v15 < v14) = true then if (0 : Int) ≤ v15 then if v15 < (↑(List.length v13) : Int) then Option.bind (f_spec_l1Same k (List.getD v13 (Int.toNat v15) []) o1) fun z2 => if (!z2) = true then if List.length o2 + List.length [v15] ≤ (140737488355328 / 8 : Nat) then f_spec_SuspectCopies_0 k o1 (o2 ++ [v15]) v13 v14 (wrap64 (v15 + (1 : Int))) else none else f_spec_SuspectCopies_0 k o1 o2 v13 v14 (wrap64 (v15 + (1 : Int))) else none else none else some o2
noncomputable def f_spec_SuspectCopies_0i : Spec := { objs := [OSh.ro, OSh.row true (3 : Nat) (Ty.int IntKind.i64), OSh.row true (3 : Nat) (Ty.int IntKind.i64)], tmps := [((4 : Nat), TSh.at (Sh.sl (1 : Nat))), ((5 : Nat), TSh.at (Sh.sl (2 : Nat))), ((13 : Nat), TSh.at (Sh.snap (0 : Nat) (Ty.slice (3 : Nat) (Ty.int IntKind.i64)))), ((14 : Nat), TSh.at (Sh.int IntKind.i64)), ((15 : Nat), TSh.at (Sh.int IntKind.i64))] }
noncomputable def f_spec_SuspectCopies_0o : Spec := { objs := [OSh.ro, OSh.row true (3 : Nat) (Ty.int IntKind.i64)], tmps := [((5 : Nat), TSh.at (Sh.sl (1 : Nat)))] }
noncomputable def f_spec_SuspectCopies_0D : LoopDef (Tup r_spec_SuspectCopies × OutD) := .plain f_spec_SuspectCopies_0i f_spec_SuspectCopies_0o (List Int) (fun k x => f_spec_SuspectCopies_0 k x.1.2.1 x.1.2.2.1 x.2.2.2.1 x.2.2.2.2.1 x.2.2.2.2.2.1) (fun z => (((), z, ()), ((), ()))) (fun y => (y.1.2.1)) (fun _ => rfl)
noncomputable def f_spec_SuspectCopies : Nat → List (List Int) → Option (List Int × Bool)
  | 0, _ => none
  | k + 1, p0 =>
    Option.bind (f_spec_voRows k p0) fun z0 => if (!z0) = true then some ([], false) else Option.bind (f_spec_voVoted k p0) fun z1 => Option.bind (f_spec_SuspectCopies_0 k z1 [] p0 (↑(List.length p0) : Int) (0 : Int)) fun z3 => some (z3, true)
noncomputable def d_spec_SuspectCopies : FnDef := .of q_spec_SuspectCopies r_spec_SuspectCopies (List Int × Bool) (fun k x => f_spec_SuspectCopies k x.1) to_spec_SuspectCopies of_spec_SuspectCopies to_of_spec_SuspectCopies
noncomputable def c_spec_SuspectCopies : Code := Try.f46.body.getD .skip
noncomputable def x_spec_SuspectCopies : Ctx (Tup r_spec_SuspectCopies × OutD) := { T := T, G := [(73, d_spec_voRows.E), (77, d_spec_voVoted.E), (79, d_spec_l1Same.E)], mvs := [], no := 0, n := 30, res := resOf T q_spec_SuspectCopies r_spec_SuspectCopies Try.f46.results.toList, loops := [(0, f_spec_SuspectCopies_0D.E)], regs := [], conds := [] }
theorem g_spec_SuspectCopies (k : Nat) : EnvOK Try.prog k x_spec_SuspectCopies.G := (EnvOK.cons (s_spec_voRows k) (EnvOK.cons (s_spec_voVoted k) (EnvOK.cons (s_spec_l1Same k) (EnvOK.nil mixed))))
noncomputable def f_spec_SuspectCopies_0B : Code := (findLoop 0 c_spec_SuspectCopies).getD .skip
theorem f_spec_SuspectCopies_0h (k : Nat) (x : f_spec_SuspectCopies_0i.D) : f_spec_SuspectCopies_0D.lp (k + 1) x = loopK x_spec_SuspectCopies f_spec_SuspectCopies_0D 0 f_spec_SuspectCopies_0B k x := by kernel_rfl
theorem f_spec_SuspectCopies_0l (k : Nat) : LOK Try.prog x_spec_SuspectCopies k f_spec_SuspectCopies_0B := LOK.by [] (by kernel_rfl) AllOK.nil
theorem f_spec_SuspectCopies_0z (x : f_spec_SuspectCopies_0i.D) : f_spec_SuspectCopies_0D.lp 0 x = none := by kernel_rfl
theorem f_spec_SuspectCopies_0ok (k : Nat) : EOK Try.prog x_spec_SuspectCopies k f_spec_SuspectCopies_0D.E (.block 0 (.loop f_spec_SuspectCopies_0B)) := loop_ok T_ok g_spec_SuspectCopies f_spec_SuspectCopies_0z f_spec_SuspectCopies_0h f_spec_SuspectCopies_0l k
theorem h_spec_SuspectCopies (k : Nat) (x : Tup d_spec_SuspectCopies.ps) : d_spec_SuspectCopies.f (k + 1) x = fnK d_spec_SuspectCopies x_spec_SuspectCopies c_spec_SuspectCopies k x := by kernel_rfl
theorem z_spec_SuspectCopies (x : Tup d_spec_SuspectCopies.ps) : d_spec_SuspectCopies.f 0 x = none := by kernel_rfl
theorem l_spec_SuspectCopies (k : Nat) : LOK Try.prog x_spec_SuspectCopies k c_spec_SuspectCopies := LOK.by [(f_spec_SuspectCopies_0D.E, .block 0 (.loop f_spec_SuspectCopies_0B))] (by kernel_rfl) (AllOK.cons (f_spec_SuspectCopies_0ok k) AllOK.nil)
theorem s_spec_SuspectCopies (k : Nat) : SoundAt Try.prog k 46 d_spec_SuspectCopies.E := @fn_all Try.prog d_spec_SuspectCopies x_spec_SuspectCopies 46 Try.f46 c_spec_SuspectCopies (by kernel_rfl) (by kernel_rfl) (by kernel_rfl) Try.func46 (by kernel_rfl) (by kernel_rfl) (by kernel_rfl) T_ok g_spec_SuspectCopies l_spec_SuspectCopies z_spec_SuspectCopies h_spec_SuspectCopies k
/-! function 59 -/
/-! function 82 -/
/-! function 100 -/
end
end Go.Proofs.Ytcmndffpmjinlaa.Vs

set_option maxRecDepth 100000
set_option maxHeartbeats 2000000
set_option linter.unusedVariables false
set_option linter.unusedSimpArgs false
namespace Go.Proofs.Ytcmndffpmjinlaa.Vs
open Go.RowKit
noncomputable section
/-! function 4 -/
/-! function 6 -/
noncomputable def r_laws_FnExactMostVoted : List PK := [{ t := Ty.bool }]
noncomputable def q_laws_FnExactMostVoted : List PK := [{ t := Ty.slice (3 : Nat) (Ty.int IntKind.i64) }]
noncomputable def to_laws_FnExactMostVoted (r : Bool) : Tup r_laws_FnExactMostVoted × OutD := ((r, ()), none)
noncomputable def of_laws_FnExactMostVoted : Tup r_laws_FnExactMostVoted × OutD → Option (Bool)
  | (a, none) => some (a.1)
  | _ => none
theorem to_of_laws_FnExactMostVoted : ∀ b r, of_laws_FnExactMostVoted b = some r → to_laws_FnExactMostVoted r = b := by
  rintro ⟨a, o⟩ r h
  cases o with
  | none => injection h with h; subst h; rfl
  | some _ => cases h
noncomputable def f_laws_FnExactMostVoted : Nat → List Int → Option Bool
  | 0, _ => none
  | k + 1, p0 =>
    if decide ((↑(List.length p0) : Int) > (1048576 : Int)) = true then some true else Option.bind (f_laws_toIntS k p0) fun z0 => Option.bind (f_spec_MostVoted k z0) fun z1 => Option.bind (f_laws_toIntS k p0) fun z2 => Option.bind (f_impl_MostVoted k z2) fun z3 => if decide (Prod.fst z3 ≠ Prod.fst z1) = true then some false else if decide (Prod.fst (Prod.snd z3) ≠ Prod.fst (Prod.snd z1)) = true then some false else if (!Prod.snd (Prod.snd z3) == Prod.snd (Prod.snd z1)) = true then some false else Option.bind (f_laws_toIntS k p0) fun z4 => Option.bind (f_laws_eqIntS k z2 z4) fun z5 => if (!z5) = true then some false else some true
noncomputable def d_laws_FnExactMostVoted : FnDef := .of q_laws_FnExactMostVoted r_laws_FnExactMostVoted (Bool) (fun k x => f_laws_FnExactMostVoted k x.1) to_laws_FnExactMostVoted of_laws_FnExactMostVoted to_of_laws_FnExactMostVoted
noncomputable def c_laws_FnExactMostVoted : Code := Try.f6.body.getD .skip
noncomputable def x_laws_FnExactMostVoted : Ctx (Tup r_laws_FnExactMostVoted × OutD) := { T := T, G := [(18, d_laws_toIntS.E), (23, d_spec_MostVoted.E), (24, d_impl_MostVoted.E), (20, d_laws_eqIntS.E)], mvs := [], no := 0, n := 46, res := resOf T q_laws_FnExactMostVoted r_laws_FnExactMostVoted Try.f6.results.toList, loops := [], regs := [], conds := [] }
theorem g_laws_FnExactMostVoted (k : Nat) : EnvOK Try.prog k x_laws_FnExactMostVoted.G := (EnvOK.cons (s_laws_toIntS k) (EnvOK.cons (s_spec_MostVoted k) (EnvOK.cons (s_impl_MostVoted k) (EnvOK.cons (s_laws_eqIntS k) (EnvOK.nil mixed)))))
theorem h_laws_FnExactMostVoted (k : Nat) (x : Tup d_laws_FnExactMostVoted.ps) : d_laws_FnExactMostVoted.f (k + 1) x = fnK d_laws_FnExactMostVoted x_laws_FnExactMostVoted c_laws_FnExactMostVoted k x := by kernel_rfl
theorem z_laws_FnExactMostVoted (x : Tup d_laws_FnExactMostVoted.ps) : d_laws_FnExactMostVoted.f 0 x = none := by kernel_rfl
theorem l_laws_FnExactMostVoted (k : Nat) : LOK Try.prog x_laws_FnExactMostVoted k c_laws_FnExactMostVoted := LOK.by [] (by kernel_rfl) AllOK.nil
theorem s_laws_FnExactMostVoted (k : Nat) : SoundAt Try.prog k 6 d_laws_FnExactMostVoted.E := @fn_all Try.prog d_laws_FnExactMostVoted x_laws_FnExactMostVoted 6 Try.f6 c_laws_FnExactMostVoted (by kernel_rfl) (by kernel_rfl) (by kernel_rfl) Try.func6 (by kernel_rfl) (by kernel_rfl) (by kernel_rfl) T_ok g_laws_FnExactMostVoted l_laws_FnExactMostVoted z_laws_FnExactMostVoted h_laws_FnExactMostVoted k
/-! function 8 -/
noncomputable def r_laws_FnExactMajorityOf : List PK := [{ t := Ty.bool }]
noncomputable def q_laws_FnExactMajorityOf : List PK := [{ t := Ty.slice (3 : Nat) (Ty.int IntKind.i64) }]
noncomputable def to_laws_FnExactMajorityOf (r : Bool) : Tup r_laws_FnExactMajorityOf × OutD := ((r, ()), none)
noncomputable def of_laws_FnExactMajorityOf : Tup r_laws_FnExactMajorityOf × OutD → Option (Bool)
  | (a, none) => some (a.1)
  | _ => none
theorem to_of_laws_FnExactMajorityOf : ∀ b r, of_laws_FnExactMajorityOf b = some r → to_laws_FnExactMajorityOf r = b := by
  rintro ⟨a, o⟩ r h
  cases o with
  | none => injection h with h; subst h; rfl
  | some _ => cases h
noncomputable def f_laws_FnExactMajorityOf : Nat → List Int → Option Bool
  | 0, _ => none
  | k + 1, p0 =>
    if decide ((↑(List.length p0) : Int) > (1048576 : Int)) = true then some true else Option.bind (f_laws_toIntS k p0) fun z0 => Option.bind (f_spec_MajorityOf k z0) fun z1 => Option.bind (f_laws_toIntS k p0) fun z2 => Option.bind (f_impl_MajorityOf k z2) fun z3 => if decide (Prod.fst z3 ≠ Prod.fst z1) = true then some false else if (!Prod.snd z3 == Prod.snd z1) = true then some false else Option.bind (f_laws_toIntS k p0) fun z4 => Option.bind (f_laws_eqIntS k z2 z4) fun z5 => if (!z5) = true then some false else some true
noncomputable def d_laws_FnExactMajorityOf : FnDef := .of q_laws_FnExactMajorityOf r_laws_FnExactMajorityOf (Bool) (fun k x => f_laws_FnExactMajorityOf k x.1) to_laws_FnExactMajorityOf of_laws_FnExactMajorityOf to_of_laws_FnExactMajorityOf
noncomputable def c_laws_FnExactMajorityOf : Code := Try.f8.body.getD .skip
noncomputable def x_laws_FnExactMajorityOf : Ctx (Tup r_laws_FnExactMajorityOf × OutD) := { T := T, G := [(18, d_laws_toIntS.E), (27, d_spec_MajorityOf.E), (28, d_impl_MajorityOf.E), (20, d_laws_eqIntS.E)], mvs := [], no := 0, n := 37, res := resOf T q_laws_FnExactMajorityOf r_laws_FnExactMajorityOf Try.f8.results.toList, loops := [], regs := [], conds := [] }
theorem g_laws_FnExactMajorityOf (k : Nat) : EnvOK Try.prog k x_laws_FnExactMajorityOf.G := (EnvOK.cons (s_laws_toIntS k) (EnvOK.cons (s_spec_MajorityOf k) (EnvOK.cons (s_impl_MajorityOf k) (EnvOK.cons (s_laws_eqIntS k) (EnvOK.nil mixed)))))
theorem h_laws_FnExactMajorityOf (k : Nat) (x : Tup d_laws_FnExactMajorityOf.ps) : d_laws_FnExactMajorityOf.f (k + 1) x = fnK d_laws_FnExactMajorityOf x_laws_FnExactMajorityOf c_laws_FnExactMajorityOf k x := by kernel_rfl
theorem z_laws_FnExactMajorityOf (x : Tup d_laws_FnExactMajorityOf.ps) : d_laws_FnExactMajorityOf.f 0 x = none := by kernel_rfl
theorem l_laws_FnExactMajorityOf (k : Nat) : LOK Try.prog x_laws_FnExactMajorityOf k c_laws_FnExactMajorityOf := LOK.by [] (by kernel_rfl) AllOK.nil
theorem s_laws_FnExactMajorityOf (k : Nat) : SoundAt Try.prog k 8 d_laws_FnExactMajorityOf.E := @fn_all Try.prog d_laws_FnExactMajorityOf x_laws_FnExactMajorityOf 8 Try.f8 c_laws_FnExactMajorityOf (by kernel_rfl) (by kernel_rfl) (by kernel_rfl) Try.func8 (by kernel_rfl) (by kernel_rfl) (by kernel_rfl) T_ok g_laws_FnExactMajorityOf l_laws_FnExactMajorityOf z_laws_FnExactMajorityOf h_laws_FnExactMajorityOf k
/-! function 10 -/
/-! function 11 -/
/-! function 12 -/
noncomputable def r_laws_FnExactVotedRows : List PK := [{ t := Ty.bool }]
noncomputable def q_laws_FnExactVotedRows : List PK := [{ t := Ty.slice (25 : Nat) (Ty.slice (3 : Nat) (Ty.int IntKind.i64)) }]
noncomputable def to_laws_FnExactVotedRows (r : Bool) : Tup r_laws_FnExactVotedRows × OutD := ((r, ()), none)
noncomputable def of_laws_FnExactVotedRows : Tup r_laws_FnExactVotedRows × OutD → Option (Bool)
  | (a, none) => some (a.1)
  | _ => none
theorem to_of_laws_FnExactVotedRows : ∀ b r, of_laws_FnExactVotedRows b = some r → to_laws_FnExactVotedRows r = b := by
  rintro ⟨a, o⟩ r h
  cases o with
  | none => injection h with h; subst h; rfl
  | some _ => cases h
noncomputable def f_laws_FnExactVotedRows : Nat → List (List Int) → Option Bool
  | 0, _ => none
  | k + 1, p0 =>
    Option.bind (f_laws_szIntSS k p0 (1048576 : Int)) fun z0 => if decide (z0 < (0 : Int)) = true then some true else Option.bind (f_laws_toIntSS k p0) fun z1 => Option.bind (f_spec_VotedRows k z1) fun z2 => Option.bind (f_laws_toIntSS k p0) fun z3 => Option.bind (f_impl_VotedRows k z3) fun z4 => Option.bind (f_laws_eqIntS k (Prod.fst z4) (Prod.fst z2)) fun z5 => if (!z5) = true then some false else if (!Prod.snd z4 == Prod.snd z2) = true then some false else Option.bind (f_laws_toIntSS k p0) fun z6 => Option.bind (f_laws_eqIntSS k z3 z6) fun z7 => if (!z7) = true then some false else Option.bind (f_laws_markIntSS k z3 (1 : Int)) fun z8 => if decide (Prod.fst z8 < (0 : Int)) = true then some false else Option.bind (f_laws_eqIntS k (Prod.fst z4) (Prod.fst z2)) fun z9 => if (!z9) = true then some false else if (!Prod.snd z4 == Prod.snd z2) = true then some false else Option.bind (f_laws_markIntS k (Prod.fst z4) (1 : Int)) fun z10 => Option.bind (f_laws_heldIntS k (Prod.snd z10) (1 : Int)) fun z11 => if decide (z11 < (0 : Int)) = true then some false else if decide (z11 ≠ Prod.fst z10) = true then some false else Option.bind (f_laws_toIntSS k p0) fun z12 => Option.bind (f_impl_VotedRows k z12) fun z13 => Option.bind (f_laws_eqIntS k (Prod.fst z13) (Prod.fst z2)) fun z14 => if (!z14) = true then some false else if (!Prod.snd z13 == Prod.snd z2) = true then some false else Option.bind (f_laws_heldIntS k (Prod.snd z10) (1 : Int)) fun z15 => if decide (z15 < (0 : Int)) = true then some false else if decide (z15 ≠ Prod.fst z10) = true then some false else some true
noncomputable def d_laws_FnExactVotedRows : FnDef := .of q_laws_FnExactVotedRows r_laws_FnExactVotedRows (Bool) (fun k x => f_laws_FnExactVotedRows k x.1) to_laws_FnExactVotedRows of_laws_FnExactVotedRows to_of_laws_FnExactVotedRows
noncomputable def c_laws_FnExactVotedRows : Code := Try.f12.body.getD .skip
noncomputable def x_laws_FnExactVotedRows : Ctx (Tup r_laws_FnExactVotedRows × OutD) := { T := T, G := [(36, d_laws_szIntSS.E), (38, d_laws_toIntSS.E), (41, d_spec_VotedRows.E), (42, d_impl_VotedRows.E), (20, d_laws_eqIntS.E), (40, d_laws_eqIntSS.E), (43, d_laws_markIntSS.E), (44, d_laws_markIntS.E), (45, d_laws_heldIntS.E)], mvs := [], no := 0, n := 96, res := resOf T q_laws_FnExactVotedRows r_laws_FnExactVotedRows Try.f12.results.toList, loops := [], regs := [], conds := [] }
theorem g_laws_FnExactVotedRows (k : Nat) : EnvOK Try.prog k x_laws_FnExactVotedRows.G := (EnvOK.cons (s_laws_szIntSS k) (EnvOK.cons (s_laws_toIntSS k) (EnvOK.cons (s_spec_VotedRows k) (EnvOK.cons (s_impl_VotedRows k) (EnvOK.cons (s_laws_eqIntS k) (EnvOK.cons (s_laws_eqIntSS k) (EnvOK.cons (s_laws_markIntSS k) (EnvOK.cons (s_laws_markIntS k) (EnvOK.cons (s_laws_heldIntS k) (EnvOK.nil mixed))))))))))
theorem h_laws_FnExactVotedRows (k : Nat) (x : Tup d_laws_FnExactVotedRows.ps) : d_laws_FnExactVotedRows.f (k + 1) x = fnK d_laws_FnExactVotedRows x_laws_FnExactVotedRows c_laws_FnExactVotedRows k x := by kernel_rfl
theorem z_laws_FnExactVotedRows (x : Tup d_laws_FnExactVotedRows.ps) : d_laws_FnExactVotedRows.f 0 x = none := by kernel_rfl
theorem l_laws_FnExactVotedRows (k : Nat) : LOK Try.prog x_laws_FnExactVotedRows k c_laws_FnExactVotedRows := LOK.by [] (by kernel_rfl) AllOK.nil
theorem s_laws_FnExactVotedRows (k : Nat) : SoundAt Try.prog k 12 d_laws_FnExactVotedRows.E := @fn_all Try.prog d_laws_FnExactVotedRows x_laws_FnExactVotedRows 12 Try.f12 c_laws_FnExactVotedRows (by kernel_rfl) (by kernel_rfl) (by kernel_rfl) Try.func12 (by kernel_rfl) (by kernel_rfl) (by kernel_rfl) T_ok g_laws_FnExactVotedRows l_laws_FnExactVotedRows z_laws_FnExactVotedRows h_laws_FnExactVotedRows k
/-! function 13 -/
noncomputable def r_laws_FnExactSuspectCopies : List PK := [{ t := Ty.bool }]
noncomputable def q_laws_FnExactSuspectCopies : List PK := [{ t := Ty.slice (25 : Nat) (Ty.slice (3 : Nat) (Ty.int IntKind.i64)) }]
noncomputable def to_laws_FnExactSuspectCopies (r : Bool) : Tup r_laws_FnExactSuspectCopies × OutD := ((r, ()), none)
noncomputable def of_laws_FnExactSuspectCopies : Tup r_laws_FnExactSuspectCopies × OutD → Option (Bool)
  | (a, none) => some (a.1)
  | _ => none
theorem to_of_laws_FnExactSuspectCopies : ∀ b r, of_laws_FnExactSuspectCopies b = some r → to_laws_FnExactSuspectCopies r = b := by
  rintro ⟨a, o⟩ r h
  cases o with
  | none => injection h with h; subst h; rfl
  | some _ => cases h
noncomputable def f_laws_FnExactSuspectCopies : Nat → List (List Int) → Option Bool
  | 0, _ => none
  | k + 1, p0 =>
    Option.bind (f_laws_szIntSS k p0 (1048576 : Int)) fun z0 => if decide (z0 < (0 : Int)) = true then some true else Option.bind (f_laws_toIntSS k p0) fun z1 => Option.bind (f_spec_SuspectCopies k z1) fun z2 => Option.bind (f_laws_toIntSS k p0) fun z3 => Option.bind (f_impl_SuspectCopies k z3) fun z4 => Option.bind (f_laws_eqIntS k (Prod.fst z4) (Prod.fst z2)) fun z5 => if (!z5) = true then some false else if (!Prod.snd z4 == Prod.snd z2) = true then some false else Option.bind (f_laws_toIntSS k p0) fun z6 => Option.bind (f_laws_eqIntSS k z3 z6) fun z7 => if (!z7) = true then some false else Option.bind (f_laws_markIntSS k z3 (1 : Int)) fun z8 => if decide (Prod.fst z8 < (0 : Int)) = true then some false else Option.bind (f_laws_eqIntS k (Prod.fst z4) (Prod.fst z2)) fun z9 => if (!z9) = true then some false else if (!Prod.snd z4 == Prod.snd z2) = true then some false else Option.bind (f_laws_markIntS k (Prod.fst z4) (1 : Int)) fun z10 => Option.bind (f_laws_heldIntS k (Prod.snd z10) (1 : Int)) fun z11 => if decide (z11 < (0 : Int)) = true then some false else if decide (z11 ≠ Prod.fst z10) = true then some false else Option.bind (f_laws_toIntSS k p0) fun z12 => Option.bind (f_impl_SuspectCopies k z12) fun z13 => Option.bind (f_laws_eqIntS k (Prod.fst z13) (Prod.fst z2)) fun z14 => if (!z14) = true then some false else if (!Prod.snd z13 == Prod.snd z2) = true then some false else Option.bind (f_laws_heldIntS k (Prod.snd z10) (1 : Int)) fun z15 => if decide (z15 < (0 : Int)) = true then some false else if decide (z15 ≠ Prod.fst z10) = true then some false else some true
noncomputable def d_laws_FnExactSuspectCopies : FnDef := .of q_laws_FnExactSuspectCopies r_laws_FnExactSuspectCopies (Bool) (fun k x => f_laws_FnExactSuspectCopies k x.1) to_laws_FnExactSuspectCopies of_laws_FnExactSuspectCopies to_of_laws_FnExactSuspectCopies
noncomputable def c_laws_FnExactSuspectCopies : Code := Try.f13.body.getD .skip
noncomputable def x_laws_FnExactSuspectCopies : Ctx (Tup r_laws_FnExactSuspectCopies × OutD) := { T := T, G := [(36, d_laws_szIntSS.E), (38, d_laws_toIntSS.E), (46, d_spec_SuspectCopies.E), (47, d_impl_SuspectCopies.E), (20, d_laws_eqIntS.E), (40, d_laws_eqIntSS.E), (43, d_laws_markIntSS.E), (44, d_laws_markIntS.E), (45, d_laws_heldIntS.E)], mvs := [], no := 0, n := 96, res := resOf T q_laws_FnExactSuspectCopies r_laws_FnExactSuspectCopies Try.f13.results.toList, loops := [], regs := [], conds := [] }
theorem g_laws_FnExactSuspectCopies (k : Nat) : EnvOK Try.prog k x_laws_FnExactSuspectCopies.G := (EnvOK.cons (s_laws_szIntSS k) (EnvOK.cons (s_laws_toIntSS k) (EnvOK.cons (s_spec_SuspectCopies k) (EnvOK.cons (s_impl_SuspectCopies k) (EnvOK.cons (s_laws_eqIntS k) (EnvOK.cons (s_laws_eqIntSS k) (EnvOK.cons (s_laws_markIntSS k) (EnvOK.cons (s_laws_markIntS k) (EnvOK.cons (s_laws_heldIntS k) (EnvOK.nil mixed))))))))))
theorem h_laws_FnExactSuspectCopies (k : Nat) (x : Tup d_laws_FnExactSuspectCopies.ps) : d_laws_FnExactSuspectCopies.f (k + 1) x = fnK d_laws_FnExactSuspectCopies x_laws_FnExactSuspectCopies c_laws_FnExactSuspectCopies k x := by kernel_rfl
theorem z_laws_FnExactSuspectCopies (x : Tup d_laws_FnExactSuspectCopies.ps) : d_laws_FnExactSuspectCopies.f 0 x = none := by kernel_rfl
theorem l_laws_FnExactSuspectCopies (k : Nat) : LOK Try.prog x_laws_FnExactSuspectCopies k c_laws_FnExactSuspectCopies := LOK.by [] (by kernel_rfl) AllOK.nil
theorem s_laws_FnExactSuspectCopies (k : Nat) : SoundAt Try.prog k 13 d_laws_FnExactSuspectCopies.E := @fn_all Try.prog d_laws_FnExactSuspectCopies x_laws_FnExactSuspectCopies 13 Try.f13 c_laws_FnExactSuspectCopies (by kernel_rfl) (by kernel_rfl) (by kernel_rfl) Try.func13 (by kernel_rfl) (by kernel_rfl) (by kernel_rfl) T_ok g_laws_FnExactSuspectCopies l_laws_FnExactSuspectCopies z_laws_FnExactSuspectCopies h_laws_FnExactSuspectCopies k
/-! function 21 -/
/-! function 25 -/
/-! function 49 -/
/-! function 86 -/
end
end Go.Proofs.Ytcmndffpmjinlaa.Vs

set_option maxRecDepth 100000
set_option maxHeartbeats 2000000
set_option linter.unusedVariables false
set_option linter.unusedSimpArgs false
namespace Go.Proofs.Ytcmndffpmjinlaa.Vs
open Go.RowKit
noncomputable section
/-! function 5 -/
/-! function 7 -/
/-! function 51 -/
end
end Go.Proofs.Ytcmndffpmjinlaa.Vs

set_option maxRecDepth 100000
set_option maxHeartbeats 2000000
set_option linter.unusedVariables false
set_option linter.unusedSimpArgs false
namespace Go.Proofs.Ytcmndffpmjinlaa.Vs
open Go.RowKit
noncomputable section
/-! function 14 -/
end
end Go.Proofs.Ytcmndffpmjinlaa.Vs

set_option linter.unusedVariables false
set_option linter.unusedSimpArgs false
namespace Go.Proofs.Ytcmndffpmjinlaa.Vs
open Go.RowKit
theorem e_spec_l1In (a b c : Int) : Ev (fun k => f_spec_l1In k a b c) (decide (b ≤ a ∧ a ≤ c)) := by
  refine Ev.succ ?_
  simp only [f_spec_l1In]
  refine Ev.of ?_
  by_cases h1 : b ≤ a <;> by_cases h2 : a ≤ c <;> simp [h1, h2]
theorem e_spec_l1All_0 (lo hi : Int) : ∀ (r pre : List Int), (pre ++ r).length ≤ 9223372036854775806 → Ev (fun k => f_spec_l1All_0 k lo hi (pre ++ r) ((pre ++ r).length : Int) (pre.length : Int)) (if r.all (fun n => decide (lo ≤ n ∧ n ≤ hi)) then LR.go () else LR.ret false)
  | [], pre, hl => by
    refine Ev.succ ?_
    simp only [f_spec_l1All_0, nlt_end, decide_false, Bool.false_eq_true, if_false, List.all_nil, if_true]
    exact Ev.some _
  | x :: r, pre, hl => by
    have ih := e_spec_l1All_0 lo hi r (pre ++ [x]) (by simpa using hl)
    refine Ev.succ ?_
    simp only [f_spec_l1All_0, lt_mid, ge_mid, decide_true, if_true, Int.toNat_natCast, getD_mid]
    rw [next_mid pre x r (by omega)]
    rw [← shift_mid] at ih
    refine Ev.bind (e_spec_l1In x lo hi) ?_
    by_cases hx : lo ≤ x ∧ x ≤ hi
    · simp only [hx, and_self, List.all_cons, decide_true, Bool.true_and, Bool.not_true, Bool.false_eq_true, if_false]; exact ih
    · simp only [hx, List.all_cons, decide_false, Bool.false_and, Bool.not_false, if_true, Bool.false_eq_true, if_false]; exact Ev.some _
theorem e_spec_l1All (l : List Int) (lo hi : Int) (hl : l.length ≤ 9223372036854775806) : Ev (fun k => f_spec_l1All k l lo hi) (l.all fun n => decide (lo ≤ n ∧ n ≤ hi)) := by
  refine Ev.succ ?_
  simp only [f_spec_l1All]
  refine Ev.bind (e_spec_l1All_0 lo hi l [] (by simpa using hl)) ?_
  cases hx : l.all fun n => decide (lo ≤ n ∧ n ≤ hi) with
  | true => simp only [if_true]; exact Ev.go (Ev.some _)
  | false => simp only [Bool.false_eq_true, if_false]; exact Ev.ret (Ev.some _)
end Go.Proofs.Ytcmndffpmjinlaa.Vs

set_option linter.unusedVariables false
set_option linter.unusedSimpArgs false
namespace Go.Proofs.Ytcmndffpmjinlaa.Vs
open Go.RowKit
theorem e_laws_szIntS (l : List Int) (n : Int) (h0 : 0 ≤ n) (h1 : n ≤ 1048576) (hl : l.length ≤ 9223372036854775807) : Ev (fun k => f_laws_szIntS k l n) (if n - l.length < 0 then -1 else n - l.length) := by
  refine Ev.succ ?_
  simp only [f_laws_szIntS]
  refine Ev.of ?_
  rw [w64 (by omega) (by omega)]
  by_cases h : n - (l.length : Int) < 0 <;> simp [h]
theorem e_laws_toIntS_0 : ∀ (r pre rest : List Int), rest.length = r.length → (pre ++ r).length ≤ 1048576 → Ev (fun k => f_laws_toIntS_0 k (pre ++ rest) (pre ++ r) (pre.length : Int)) (pre ++ r)
  | [], pre, rest, h, hl => by
    obtain rfl : rest = [] := List.eq_nil_of_length_eq_zero h
    refine Ev.succ ?_
    simp only [f_laws_toIntS_0, nlt_end, decide_false, Bool.false_eq_true, if_false]
    exact Ev.some _
  | x :: r, pre, [], h, hl => by simp at h
  | x :: r, pre, y :: rest, h, hl => by
    have ih := e_laws_toIntS_0 r (pre ++ [x]) rest (by simpa using h) (by simpa using hl)
    refine Ev.succ ?_
    simp only [f_laws_toIntS_0, lt_mid, ge_mid, decide_true, if_true, Int.toNat_natCast, getD_mid, set_mid]
    rw [next_mid pre x r (by omega)]
    rw [← shift_mid, ← shift_mid] at ih
    exact ih
theorem e_laws_toIntS (l : List Int) (hl : l.length ≤ 1048576) : Ev (fun k => f_laws_toIntS k l) l := by
  refine Ev.succ ?_
  have hm : l.length * 8 ≤ 281474976710656 := by omega
  simp only [f_laws_toIntS, Int.toNat_natCast, hm, if_true]
  exact Ev.bind (e_laws_toIntS_0 l [] (List.replicate l.length 0) (by simp) (by simpa using hl)) (Ev.some _)
theorem e_laws_eqIntS_0 : ∀ (r s pre : List Int) (pre' : List Int), s.length = r.length → pre'.length = pre.length → (pre ++ r).length ≤ 9223372036854775806 → Ev (fun k => f_laws_eqIntS_0 k (pre ++ r) (pre' ++ s) (pre.length : Int)) (if r = s then LR.go () else LR.ret false)
  | [], s, pre, pre', h, hp, hl => by
    obtain rfl : s = [] := List.eq_nil_of_length_eq_zero h
    refine Ev.succ ?_
    simp only [f_laws_eqIntS_0, nlt_end, decide_false, Bool.false_eq_true, if_false, if_true]
    exact Ev.some _
  | x :: r, [], pre, pre', h, hp, hl => by simp at h
  | x :: r, y :: s, pre, pre', h, hp, hl => by
    have ih := e_laws_eqIntS_0 r s (pre ++ [x]) (pre' ++ [y]) (by simpa using h) (by simpa using hp) (by simpa using hl)
    have l2 : (pre.length : Int) < ((pre' ++ y :: s).length : Int) := by rw [← hp]; exact lt_mid _ _ _
    have g2 : List.getD (pre' ++ y :: s) pre.length 0 = y := by rw [← hp]; exact getD_mid _ _ _ _
    refine Ev.succ ?_
    simp only [f_laws_eqIntS_0, lt_mid, ge_mid, l2, decide_true, if_true, Int.toNat_natCast, getD_mid, g2]
    rw [next_mid pre x r (by omega)]
    rw [← shift_mid, ← shift_mid] at ih
    by_cases hxy : x = y
    · subst hxy
      simp only [ne_eq, not_true_eq_false, decide_false, Bool.false_eq_true, if_false]
      refine ih.congr ?_
      by_cases hrs : r = s <;> simp [hrs]
    · simp only [ne_eq, hxy, not_false_eq_true, decide_true, if_true]
      refine Ev.of ?_
      rw [if_neg (by intro hc; injection hc with h1 h2; exact hxy h1)]
theorem e_laws_eqIntS (l m : List Int) (hl : l.length ≤ 9223372036854775806) : Ev (fun k => f_laws_eqIntS k l m) (decide (l = m)) := by
  refine Ev.succ ?_
  simp only [f_laws_eqIntS]
  by_cases h : l.length = m.length
  · simp only [h, ne_eq, not_true_eq_false, decide_false, Bool.false_eq_true, if_false]
    refine Ev.bind (e_laws_eqIntS_0 l m [] [] h.symm rfl (by simpa using hl)) ?_
    by_cases hlm : l = m
    · rw [if_pos hlm]; simp only [hlm, decide_true]; exact Ev.go (Ev.some _)
    · rw [if_neg hlm]; simp only [hlm, decide_false]; exact Ev.ret (Ev.some _)
  · have h2 : ¬ (l.length : Int) = (m.length : Int) := by omega
    have h3 : ¬ l = m := fun hc => h (by rw [hc])
    simp only [ne_eq, h2, not_false_eq_true, decide_true, if_true, h3, decide_false]
    exact Ev.some _
end Go.Proofs.Ytcmndffpmjinlaa.Vs
