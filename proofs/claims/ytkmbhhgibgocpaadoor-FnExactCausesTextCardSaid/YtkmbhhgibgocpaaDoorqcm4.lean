/- The proof, part 5. -/
import Derived.Test.YtkmbhhgibgocpaaDoorqcm3
set_option maxRecDepth 100000
set_option maxHeartbeats 2000000
set_option linter.unusedVariables false
set_option linter.unusedSimpArgs false
namespace Go.Proofs.YtkmbhhgibgocpaaDoor.Vs
open Go.RowKit
noncomputable section
/-! function 7 -/
/-! function 11 -/
/-! function 13 -/
noncomputable def r_laws_szFallS : List PK := [PK.mk (Ty.int IntKind.i64) false none false none]
noncomputable def q_laws_szFallS : List PK := [PK.mk (Ty.slice (69 : Nat) (Ty.pair (Ty.int IntKind.i64) (Ty.pair (Ty.int IntKind.i64) (Ty.int IntKind.i64)))) false none false none, PK.mk (Ty.int IntKind.i64) false none false none]
noncomputable def to_laws_szFallS (r : Int) : Tup r_laws_szFallS × OutD := ((r, ()), none)
noncomputable def of_laws_szFallS : Tup r_laws_szFallS × OutD → Option (Int)
  | (a, none) => some (a.1)
  | _ => none
theorem to_of_laws_szFallS : ∀ b r, of_laws_szFallS b = some r → to_laws_szFallS r = b := by
  rintro ⟨a, o⟩ r h
  cases o with
  | none => injection h with h; subst h; rfl
  | some _ => cases h
noncomputable def f_laws_szFallS : Nat → List (Int × Int × Int) → Int → Option Int
  | 0, _, _ => none
  | k + 1, p0, p1 =>
    if decide (wrap64 (p1 - (↑(List.length p0) : Int)) < (0 : Int)) = true then some (-1 : Int) else some (wrap64 (p1 - (↑(List.length p0) : Int)))
noncomputable def d_laws_szFallS : FnDef := .of q_laws_szFallS r_laws_szFallS (Int) (fun k x => f_laws_szFallS k x.1 x.2.1) to_laws_szFallS of_laws_szFallS to_of_laws_szFallS
noncomputable def c_laws_szFallS : Code := Tryd.f13.body.getD .skip
noncomputable def x_laws_szFallS : Ctx (Tup r_laws_szFallS × OutD) := { T := T, G := [], mvs := [], no := 0, n := 12, res := resOf T q_laws_szFallS r_laws_szFallS Tryd.f13.results.toList, loops := [], regs := [], conds := [] }
theorem g_laws_szFallS (k : Nat) : EnvOK Tryd.prog k x_laws_szFallS.G := (EnvOK.nil mixed)
theorem h_laws_szFallS (k : Nat) (x : Tup d_laws_szFallS.ps) : d_laws_szFallS.f (k + 1) x = fnK d_laws_szFallS x_laws_szFallS c_laws_szFallS k x := by kernel_rfl
theorem z_laws_szFallS (x : Tup d_laws_szFallS.ps) : d_laws_szFallS.f 0 x = none := by kernel_rfl
theorem l_laws_szFallS (k : Nat) : LOK Tryd.prog x_laws_szFallS k c_laws_szFallS := LOK.by [] (by kernel_rfl) AllOK.nil
theorem s_laws_szFallS (k : Nat) : SoundAt Tryd.prog k 13 d_laws_szFallS.E := @fn_all Tryd.prog d_laws_szFallS x_laws_szFallS 13 Tryd.f13 c_laws_szFallS (by kernel_rfl) (by kernel_rfl) (by kernel_rfl) Tryd.func13 (by kernel_rfl) (by kernel_rfl) (by kernel_rfl) T_ok g_laws_szFallS l_laws_szFallS z_laws_szFallS h_laws_szFallS k
/-! function 16 -/
noncomputable def r_laws_toIntS : List PK := [PK.mk (Ty.slice (3 : Nat) (Ty.int IntKind.i64)) false none false none]
noncomputable def q_laws_toIntS : List PK := [PK.mk (Ty.slice (3 : Nat) (Ty.int IntKind.i64)) false none false none]
noncomputable def to_laws_toIntS (r : List Int) : Tup r_laws_toIntS × OutD := ((r, ()), none)
noncomputable def of_laws_toIntS : Tup r_laws_toIntS × OutD → Option (List Int)
  | (a, none) => some (a.1)
  | _ => none
theorem to_of_laws_toIntS : ∀ b r, of_laws_toIntS b = some r → to_laws_toIntS r = b := by
  rintro ⟨a, o⟩ r h
  cases o with
  | none => injection h with h; subst h; rfl
  | some _ => cases h
noncomputable def f_laws_toIntS_0 : Nat → List Int → List Int → Int → Option (List Int)
  | 0, _, _, _ => none
  | k + 1, o1, v0, v4 =>
    if decide (v4 < (↑(List.length v0) : Int)) = true then if (0 : Int) ≤ v4 then if v4 < (↑(List.length v0) : Int) then if (0 : Int) ≤ v4 then if v4 < (↑(List.length o1) : Int) then f_laws_toIntS_0 k (List.set o1 (Int.toNat v4) (List.getD v0 (Int.toNat v4) (0 : Int))) v0 (wrap64 (v4 + (1 : Int))) else none else none else none else none else some o1
noncomputable def f_laws_toIntS_0i : Spec := Spec.mk [OSh.ro, OSh.row true (3 : Nat) (Ty.int IntKind.i64)] [((0 : Nat), TSh.at (Sh.snap (0 : Nat) (Ty.int IntKind.i64))), ((3 : Nat), TSh.at (Sh.sl (1 : Nat))), ((4 : Nat), TSh.at (Sh.int IntKind.i64))]
noncomputable def f_laws_toIntS_0o : Spec := Spec.mk [OSh.ro, OSh.row true (3 : Nat) (Ty.int IntKind.i64)] [((3 : Nat), TSh.at (Sh.sl (1 : Nat)))]
noncomputable def f_laws_toIntS_0D : LoopDef (Tup r_laws_toIntS × OutD) := .plain f_laws_toIntS_0i f_laws_toIntS_0o (List Int) (fun k x => f_laws_toIntS_0 k x.1.2.1 x.2.1 x.2.2.2.1) (fun z => (((), z, ()), ((), ()))) (fun y => (y.1.2.1)) (fun _ => rfl)
noncomputable def f_laws_toIntS : Nat → List Int → Option (List Int)
  | 0, _ => none
  | k + 1, p0 =>
    if Int.toNat (↑(List.length p0) : Int) * (8 : Nat) ≤ (281474976710656 : Nat) then Option.bind (f_laws_toIntS_0 k (List.replicate (Int.toNat (↑(List.length p0) : Int)) (0 : Int)) p0 (0 : Int)) fun z0 => some z0 else none
noncomputable def d_laws_toIntS : FnDef := .of q_laws_toIntS r_laws_toIntS (List Int) (fun k x => f_laws_toIntS k x.1) to_laws_toIntS of_laws_toIntS to_of_laws_toIntS
noncomputable def c_laws_toIntS : Code := Tryd.f16.body.getD .skip
noncomputable def x_laws_toIntS : Ctx (Tup r_laws_toIntS × OutD) := { T := T, G := [], mvs := [], no := 0, n := 22, res := resOf T q_laws_toIntS r_laws_toIntS Tryd.f16.results.toList, loops := [(0, f_laws_toIntS_0D.E)], regs := [], conds := [] }
theorem g_laws_toIntS (k : Nat) : EnvOK Tryd.prog k x_laws_toIntS.G := (EnvOK.nil mixed)
noncomputable def f_laws_toIntS_0B : Code := (findLoop 0 c_laws_toIntS).getD .skip
theorem f_laws_toIntS_0h (k : Nat) (x : f_laws_toIntS_0i.D) : f_laws_toIntS_0D.lp (k + 1) x = loopK x_laws_toIntS f_laws_toIntS_0D 0 f_laws_toIntS_0B k x := by kernel_rfl
theorem f_laws_toIntS_0l (k : Nat) : LOK Tryd.prog x_laws_toIntS k f_laws_toIntS_0B := LOK.by [] (by kernel_rfl) AllOK.nil
theorem f_laws_toIntS_0z (x : f_laws_toIntS_0i.D) : f_laws_toIntS_0D.lp 0 x = none := by kernel_rfl
theorem f_laws_toIntS_0ok (k : Nat) : EOK Tryd.prog x_laws_toIntS k f_laws_toIntS_0D.E (.block 0 (.loop f_laws_toIntS_0B)) := loop_ok T_ok g_laws_toIntS f_laws_toIntS_0z f_laws_toIntS_0h f_laws_toIntS_0l k
theorem h_laws_toIntS (k : Nat) (x : Tup d_laws_toIntS.ps) : d_laws_toIntS.f (k + 1) x = fnK d_laws_toIntS x_laws_toIntS c_laws_toIntS k x := by kernel_rfl
theorem z_laws_toIntS (x : Tup d_laws_toIntS.ps) : d_laws_toIntS.f 0 x = none := by kernel_rfl
theorem l_laws_toIntS (k : Nat) : LOK Tryd.prog x_laws_toIntS k c_laws_toIntS := LOK.by [(f_laws_toIntS_0D.E, .block 0 (.loop f_laws_toIntS_0B))] (by kernel_rfl) (AllOK.cons (f_laws_toIntS_0ok k) AllOK.nil)
theorem s_laws_toIntS (k : Nat) : SoundAt Tryd.prog k 16 d_laws_toIntS.E := @fn_all Tryd.prog d_laws_toIntS x_laws_toIntS 16 Tryd.f16 c_laws_toIntS (by kernel_rfl) (by kernel_rfl) (by kernel_rfl) Tryd.func16 (by kernel_rfl) (by kernel_rfl) (by kernel_rfl) T_ok g_laws_toIntS l_laws_toIntS z_laws_toIntS h_laws_toIntS k
/-! function 20 -/
noncomputable def r_laws_eqIntS : List PK := [PK.mk Ty.bool false none false none]
noncomputable def q_laws_eqIntS : List PK := [PK.mk (Ty.slice (3 : Nat) (Ty.int IntKind.i64)) false none false none, PK.mk (Ty.slice (3 : Nat) (Ty.int IntKind.i64)) false none false none]
noncomputable def to_laws_eqIntS (r : Bool) : Tup r_laws_eqIntS × OutD := ((r, ()), none)
noncomputable def of_laws_eqIntS : Tup r_laws_eqIntS × OutD → Option (Bool)
  | (a, none) => some (a.1)
  | _ => none
theorem to_of_laws_eqIntS : ∀ b r, of_laws_eqIntS b = some r → to_laws_eqIntS r = b := by
  rintro ⟨a, o⟩ r h
  cases o with
  | none => injection h with h; subst h; rfl
  | some _ => cases h
noncomputable def f_laws_eqIntS_0 : Nat → List Int → List Int → Int → Option (LR Unit Bool)
  | 0, _, _, _ => none
  | k + 1, v0, v1, v5 =>
    if decide (v5 < (↑(List.length v0) : Int)) = true then if (0 : Int) ≤ v5 then if v5 < (↑(List.length v0) : Int) then if (0 : Int) ≤ v5 then if v5 < (↑(List.length v1) : Int) then if decide (List.getD v0 (Int.toNat v5) (0 : Int) ≠ List.getD v1 (Int.toNat v5) (0 : Int)) = true then some (LR.ret false) else f_laws_eqIntS_0 k v0 v1 (wrap64 (v5 + (1 : Int))) else none else none else none else none else some (LR.go ())
noncomputable def f_laws_eqIntS_0i : Spec := Spec.mk [OSh.ro] [((0 : Nat), TSh.at (Sh.snap (0 : Nat) (Ty.int IntKind.i64))), ((1 : Nat), TSh.at (Sh.snap (0 : Nat) (Ty.int IntKind.i64))), ((5 : Nat), TSh.at (Sh.int IntKind.i64))]
noncomputable def f_laws_eqIntS_0o : Spec := Spec.mk [OSh.ro] []
noncomputable def f_laws_eqIntS_0D : LoopDef (Tup r_laws_eqIntS × OutD) := .rets f_laws_eqIntS_0i f_laws_eqIntS_0o (Unit) (Bool) (fun k x => f_laws_eqIntS_0 k x.2.1 x.2.2.1 x.2.2.2.1) (fun z => (((), ()), (()))) (fun y => ()) (fun _ => rfl) to_laws_eqIntS of_laws_eqIntS to_of_laws_eqIntS
noncomputable def f_laws_eqIntS : Nat → List Int → List Int → Option Bool
  | 0, _, _ => none
  | k + 1, p0, p1 =>
    if decide ((↑(List.length p0) : Int) ≠ (↑(List.length p1) : Int)) = true then some false else Option.bind (f_laws_eqIntS_0 k p0 p1 (0 : Int)) fun z0 => LR.on z0 (fun y0 => some true) fun r0 => some r0
noncomputable def d_laws_eqIntS : FnDef := .of q_laws_eqIntS r_laws_eqIntS (Bool) (fun k x => f_laws_eqIntS k x.1 x.2.1) to_laws_eqIntS of_laws_eqIntS to_of_laws_eqIntS
noncomputable def c_laws_eqIntS : Code := Tryd.f20.body.getD .skip
noncomputable def x_laws_eqIntS : Ctx (Tup r_laws_eqIntS × OutD) := { T := T, G := [], mvs := [], no := 0, n := 26, res := resOf T q_laws_eqIntS r_laws_eqIntS Tryd.f20.results.toList, loops := [(0, f_laws_eqIntS_0D.E)], regs := [], conds := [] }
theorem g_laws_eqIntS (k : Nat) : EnvOK Tryd.prog k x_laws_eqIntS.G := (EnvOK.nil mixed)
noncomputable def f_laws_eqIntS_0B : Code := (findLoop 0 c_laws_eqIntS).getD .skip
theorem f_laws_eqIntS_0h (k : Nat) (x : f_laws_eqIntS_0i.D) : f_laws_eqIntS_0D.lp (k + 1) x = loopK x_laws_eqIntS f_laws_eqIntS_0D 0 f_laws_eqIntS_0B k x := by kernel_rfl
theorem f_laws_eqIntS_0l (k : Nat) : LOK Tryd.prog x_laws_eqIntS k f_laws_eqIntS_0B := LOK.by [] (by kernel_rfl) AllOK.nil
theorem f_laws_eqIntS_0z (x : f_laws_eqIntS_0i.D) : f_laws_eqIntS_0D.lp 0 x = none := by kernel_rfl
theorem f_laws_eqIntS_0ok (k : Nat) : EOK Tryd.prog x_laws_eqIntS k f_laws_eqIntS_0D.E (.block 0 (.loop f_laws_eqIntS_0B)) := loop_ok T_ok g_laws_eqIntS f_laws_eqIntS_0z f_laws_eqIntS_0h f_laws_eqIntS_0l k
theorem h_laws_eqIntS (k : Nat) (x : Tup d_laws_eqIntS.ps) : d_laws_eqIntS.f (k + 1) x = fnK d_laws_eqIntS x_laws_eqIntS c_laws_eqIntS k x := by kernel_rfl
theorem z_laws_eqIntS (x : Tup d_laws_eqIntS.ps) : d_laws_eqIntS.f 0 x = none := by kernel_rfl
theorem l_laws_eqIntS (k : Nat) : LOK Tryd.prog x_laws_eqIntS k c_laws_eqIntS := LOK.by [(f_laws_eqIntS_0D.E, .block 0 (.loop f_laws_eqIntS_0B))] (by kernel_rfl) (AllOK.cons (f_laws_eqIntS_0ok k) AllOK.nil)
theorem s_laws_eqIntS (k : Nat) : SoundAt Tryd.prog k 20 d_laws_eqIntS.E := @fn_all Tryd.prog d_laws_eqIntS x_laws_eqIntS 20 Tryd.f20 c_laws_eqIntS (by kernel_rfl) (by kernel_rfl) (by kernel_rfl) Tryd.func20 (by kernel_rfl) (by kernel_rfl) (by kernel_rfl) T_ok g_laws_eqIntS l_laws_eqIntS z_laws_eqIntS h_laws_eqIntS k
/-! function 25 -/
/-! function 27 -/
noncomputable def r_spec_faNames : List PK := [PK.mk (Ty.slice (9 : Nat) Ty.str) false none false none]
noncomputable def q_spec_faNames : List PK := []
noncomputable def to_spec_faNames (r : List ByteArray) : Tup r_spec_faNames × OutD := ((r, ()), none)
noncomputable def of_spec_faNames : Tup r_spec_faNames × OutD → Option (List ByteArray)
  | (a, none) => some (a.1)
  | _ => none
theorem to_of_spec_faNames : ∀ b r, of_spec_faNames b = some r → to_spec_faNames r = b := by
  rintro ⟨a, o⟩ r h
  cases o with
  | none => injection h with h; subst h; rfl
  | some _ => cases h
noncomputable def f_spec_faNames : Nat → Option (List ByteArray)
  | 0 => none
  | k + 1 =>
    some [ByteArray.mk #[], ByteArray.mk #[(115 : UInt8), (116 : UInt8), (117 : UInt8), (99 : UInt8), (107 : UInt8)], ByteArray.mk #[(104 : UInt8), (111 : UInt8), (108 : UInt8), (101 : UInt8)], ByteArray.mk #[(116 : UInt8), (117 : UInt8), (114 : UInt8), (110 : UInt8), (101 : UInt8), (100 : UInt8)]]
noncomputable def d_spec_faNames : FnDef := .of q_spec_faNames r_spec_faNames (List ByteArray) (fun k x => f_spec_faNames k) to_spec_faNames of_spec_faNames to_of_spec_faNames
noncomputable def c_spec_faNames : Code := Tryd.f27.body.getD .skip
noncomputable def x_spec_faNames : Ctx (Tup r_spec_faNames × OutD) := { T := T, G := [], mvs := [], no := 0, n := 2, res := resOf T q_spec_faNames r_spec_faNames Tryd.f27.results.toList, loops := [], regs := [], conds := [] }
theorem g_spec_faNames (k : Nat) : EnvOK Tryd.prog k x_spec_faNames.G := (EnvOK.nil mixed)
theorem h_spec_faNames (k : Nat) (x : Tup d_spec_faNames.ps) : d_spec_faNames.f (k + 1) x = fnK d_spec_faNames x_spec_faNames c_spec_faNames k x := by kernel_rfl
theorem z_spec_faNames (x : Tup d_spec_faNames.ps) : d_spec_faNames.f 0 x = none := by kernel_rfl
theorem l_spec_faNames (k : Nat) : LOK Tryd.prog x_spec_faNames k c_spec_faNames := LOK.by [] (by kernel_rfl) AllOK.nil
theorem s_spec_faNames (k : Nat) : SoundAt Tryd.prog k 27 d_spec_faNames.E := @fn_all Tryd.prog d_spec_faNames x_spec_faNames 27 Tryd.f27 c_spec_faNames (by kernel_rfl) (by kernel_rfl) (by kernel_rfl) Tryd.func27 (by kernel_rfl) (by kernel_rfl) (by kernel_rfl) T_ok g_spec_faNames l_spec_faNames z_spec_faNames h_spec_faNames k
/-! function 29 -/
noncomputable def r_laws_szCellS : List PK := [PK.mk (Ty.int IntKind.i64) false none false none]
noncomputable def q_laws_szCellS : List PK := [PK.mk (Ty.slice (80 : Nat) (Ty.pair (Ty.int IntKind.i64) (Ty.int IntKind.i64))) false none false none, PK.mk (Ty.int IntKind.i64) false none false none]
noncomputable def to_laws_szCellS (r : Int) : Tup r_laws_szCellS × OutD := ((r, ()), none)
noncomputable def of_laws_szCellS : Tup r_laws_szCellS × OutD → Option (Int)
  | (a, none) => some (a.1)
  | _ => none
theorem to_of_laws_szCellS : ∀ b r, of_laws_szCellS b = some r → to_laws_szCellS r = b := by
  rintro ⟨a, o⟩ r h
  cases o with
  | none => injection h with h; subst h; rfl
  | some _ => cases h
noncomputable def f_laws_szCellS : Nat → List (Int × Int) → Int → Option Int
  | 0, _, _ => none
  | k + 1, p0, p1 =>
    if decide (wrap64 (p1 - (↑(List.length p0) : Int)) < (0 : Int)) = true then some (-1 : Int) else some (wrap64 (p1 - (↑(List.length p0) : Int)))
noncomputable def d_laws_szCellS : FnDef := .of q_laws_szCellS r_laws_szCellS (Int) (fun k x => f_laws_szCellS k x.1 x.2.1) to_laws_szCellS of_laws_szCellS to_of_laws_szCellS
noncomputable def c_laws_szCellS : Code := Tryd.f29.body.getD .skip
noncomputable def x_laws_szCellS : Ctx (Tup r_laws_szCellS × OutD) := { T := T, G := [], mvs := [], no := 0, n := 12, res := resOf T q_laws_szCellS r_laws_szCellS Tryd.f29.results.toList, loops := [], regs := [], conds := [] }
theorem g_laws_szCellS (k : Nat) : EnvOK Tryd.prog k x_laws_szCellS.G := (EnvOK.nil mixed)
theorem h_laws_szCellS (k : Nat) (x : Tup d_laws_szCellS.ps) : d_laws_szCellS.f (k + 1) x = fnK d_laws_szCellS x_laws_szCellS c_laws_szCellS k x := by kernel_rfl
theorem z_laws_szCellS (x : Tup d_laws_szCellS.ps) : d_laws_szCellS.f 0 x = none := by kernel_rfl
theorem l_laws_szCellS (k : Nat) : LOK Tryd.prog x_laws_szCellS k c_laws_szCellS := LOK.by [] (by kernel_rfl) AllOK.nil
theorem s_laws_szCellS (k : Nat) : SoundAt Tryd.prog k 29 d_laws_szCellS.E := @fn_all Tryd.prog d_laws_szCellS x_laws_szCellS 29 Tryd.f29 c_laws_szCellS (by kernel_rfl) (by kernel_rfl) (by kernel_rfl) Tryd.func29 (by kernel_rfl) (by kernel_rfl) (by kernel_rfl) T_ok g_laws_szCellS l_laws_szCellS z_laws_szCellS h_laws_szCellS k
/-! function 33 -/
noncomputable def r_laws_toFall : List PK := [PK.mk (Ty.pair (Ty.int IntKind.i64) (Ty.pair (Ty.int IntKind.i64) (Ty.int IntKind.i64))) true none false none]
noncomputable def q_laws_toFall : List PK := [PK.mk (Ty.pair (Ty.int IntKind.i64) (Ty.pair (Ty.int IntKind.i64) (Ty.int IntKind.i64))) true none false none]
noncomputable def to_laws_toFall (r : Int × Int × Int) : Tup r_laws_toFall × OutD := ((r, ()), none)
noncomputable def of_laws_toFall : Tup r_laws_toFall × OutD → Option (Int × Int × Int)
  | (a, none) => some (a.1)
  | _ => none
theorem to_of_laws_toFall : ∀ b r, of_laws_toFall b = some r → to_laws_toFall r = b := by
  rintro ⟨a, o⟩ r h
  cases o with
  | none => injection h with h; subst h; rfl
  | some _ => cases h
noncomputable def f_laws_toFall : Nat → Int × Int × Int → Option (Int × Int × Int)
  | 0, _ => none
  | k + 1, p0 =>
    some (Prod.fst p0, Prod.fst (Prod.snd p0), Prod.snd (Prod.snd p0))
noncomputable def d_laws_toFall : FnDef := .of q_laws_toFall r_laws_toFall (Int × Int × Int) (fun k x => f_laws_toFall k x.1) to_laws_toFall of_laws_toFall to_of_laws_toFall
noncomputable def c_laws_toFall : Code := Tryd.f33.body.getD .skip
noncomputable def x_laws_toFall : Ctx (Tup r_laws_toFall × OutD) := { T := T, G := [], mvs := [], no := 0, n := 14, res := resOf T q_laws_toFall r_laws_toFall Tryd.f33.results.toList, loops := [], regs := [], conds := [] }
theorem g_laws_toFall (k : Nat) : EnvOK Tryd.prog k x_laws_toFall.G := (EnvOK.nil mixed)
theorem h_laws_toFall (k : Nat) (x : Tup d_laws_toFall.ps) : d_laws_toFall.f (k + 1) x = fnK d_laws_toFall x_laws_toFall c_laws_toFall k x := by kernel_rfl
theorem z_laws_toFall (x : Tup d_laws_toFall.ps) : d_laws_toFall.f 0 x = none := by kernel_rfl
theorem l_laws_toFall (k : Nat) : LOK Tryd.prog x_laws_toFall k c_laws_toFall := LOK.by [] (by kernel_rfl) AllOK.nil
theorem s_laws_toFall (k : Nat) : SoundAt Tryd.prog k 33 d_laws_toFall.E := @fn_all Tryd.prog d_laws_toFall x_laws_toFall 33 Tryd.f33 c_laws_toFall (by kernel_rfl) (by kernel_rfl) (by kernel_rfl) Tryd.func33 (by kernel_rfl) (by kernel_rfl) (by kernel_rfl) T_ok g_laws_toFall l_laws_toFall z_laws_toFall h_laws_toFall k
/-! function 37 -/
noncomputable def r_laws_eqFall : List PK := [PK.mk Ty.bool false none false none]
noncomputable def q_laws_eqFall : List PK := [PK.mk (Ty.pair (Ty.int IntKind.i64) (Ty.pair (Ty.int IntKind.i64) (Ty.int IntKind.i64))) true none false none, PK.mk (Ty.pair (Ty.int IntKind.i64) (Ty.pair (Ty.int IntKind.i64) (Ty.int IntKind.i64))) true none false none]
noncomputable def to_laws_eqFall (r : Bool) : Tup r_laws_eqFall × OutD := ((r, ()), none)
noncomputable def of_laws_eqFall : Tup r_laws_eqFall × OutD → Option (Bool)
  | (a, none) => some (a.1)
  | _ => none
theorem to_of_laws_eqFall : ∀ b r, of_laws_eqFall b = some r → to_laws_eqFall r = b := by
  rintro ⟨a, o⟩ r h
  cases o with
  | none => injection h with h; subst h; rfl
  | some _ => cases h
noncomputable def f_laws_eqFall : Nat → Int × Int × Int → Int × Int × Int → Option Bool
  | 0, _, _ => none
  | k + 1, p0, p1 =>
    if decide (Prod.fst p0 ≠ Prod.fst p1) = true then some false else if decide (Prod.fst (Prod.snd p0) ≠ Prod.fst (Prod.snd p1)) = true then some false else if decide (Prod.snd (Prod.snd p0) ≠ Prod.snd (Prod.snd p1)) = true then some false else some true
noncomputable def d_laws_eqFall : FnDef := .of q_laws_eqFall r_laws_eqFall (Bool) (fun k x => f_laws_eqFall k x.1 x.2.1) to_laws_eqFall of_laws_eqFall to_of_laws_eqFall
noncomputable def c_laws_eqFall : Code := Tryd.f37.body.getD .skip
noncomputable def x_laws_eqFall : Ctx (Tup r_laws_eqFall × OutD) := { T := T, G := [], mvs := [], no := 0, n := 20, res := resOf T q_laws_eqFall r_laws_eqFall Tryd.f37.results.toList, loops := [], regs := [], conds := [] }
theorem g_laws_eqFall (k : Nat) : EnvOK Tryd.prog k x_laws_eqFall.G := (EnvOK.nil mixed)
theorem h_laws_eqFall (k : Nat) (x : Tup d_laws_eqFall.ps) : d_laws_eqFall.f (k + 1) x = fnK d_laws_eqFall x_laws_eqFall c_laws_eqFall k x := by kernel_rfl
theorem z_laws_eqFall (x : Tup d_laws_eqFall.ps) : d_laws_eqFall.f 0 x = none := by kernel_rfl
theorem l_laws_eqFall (k : Nat) : LOK Tryd.prog x_laws_eqFall k c_laws_eqFall := LOK.by [] (by kernel_rfl) AllOK.nil
theorem s_laws_eqFall (k : Nat) : SoundAt Tryd.prog k 37 d_laws_eqFall.E := @fn_all Tryd.prog d_laws_eqFall x_laws_eqFall 37 Tryd.f37 c_laws_eqFall (by kernel_rfl) (by kernel_rfl) (by kernel_rfl) Tryd.func37 (by kernel_rfl) (by kernel_rfl) (by kernel_rfl) T_ok g_laws_eqFall l_laws_eqFall z_laws_eqFall h_laws_eqFall k
/-! function 38 -/
noncomputable def r_spec_l1In : List PK := [PK.mk Ty.bool false none false none]
noncomputable def q_spec_l1In : List PK := [PK.mk (Ty.int IntKind.i64) false none false none, PK.mk (Ty.int IntKind.i64) false none false none, PK.mk (Ty.int IntKind.i64) false none false none]
noncomputable def to_spec_l1In (r : Bool) : Tup r_spec_l1In × OutD := ((r, ()), none)
noncomputable def of_spec_l1In : Tup r_spec_l1In × OutD → Option (Bool)
  | (a, none) => some (a.1)
  | _ => none
theorem to_of_spec_l1In : ∀ b r, of_spec_l1In b = some r → to_spec_l1In r = b := by
  rintro ⟨a, o⟩ r h
  cases o with
  | none => injection h with h; subst h; rfl
  | some _ => cases h
noncomputable def f_spec_l1In : Nat → Int → Int → Int → Option Bool
  | 0, _, _, _ => none
  | k + 1, p0, p1, p2 =>
    if decide (p0 ≥ p1) = true then some (decide (p0 ≤ p2)) else some false
noncomputable def d_spec_l1In : FnDef := .of q_spec_l1In r_spec_l1In (Bool) (fun k x => f_spec_l1In k x.1 x.2.1 x.2.2.1) to_spec_l1In of_spec_l1In to_of_spec_l1In
noncomputable def c_spec_l1In : Code := Tryd.f38.body.getD .skip
noncomputable def x_spec_l1In : Ctx (Tup r_spec_l1In × OutD) := { T := T, G := [], mvs := [], no := 0, n := 15, res := resOf T q_spec_l1In r_spec_l1In Tryd.f38.results.toList, loops := [], regs := [], conds := [] }
theorem g_spec_l1In (k : Nat) : EnvOK Tryd.prog k x_spec_l1In.G := (EnvOK.nil mixed)
theorem h_spec_l1In (k : Nat) (x : Tup d_spec_l1In.ps) : d_spec_l1In.f (k + 1) x = fnK d_spec_l1In x_spec_l1In c_spec_l1In k x := by kernel_rfl
theorem z_spec_l1In (x : Tup d_spec_l1In.ps) : d_spec_l1In.f 0 x = none := by kernel_rfl
theorem l_spec_l1In (k : Nat) : LOK Tryd.prog x_spec_l1In k c_spec_l1In := LOK.by [] (by kernel_rfl) AllOK.nil
theorem s_spec_l1In (k : Nat) : SoundAt Tryd.prog k 38 d_spec_l1In.E := @fn_all Tryd.prog d_spec_l1In x_spec_l1In 38 Tryd.f38 c_spec_l1In (by kernel_rfl) (by kernel_rfl) (by kernel_rfl) Tryd.func38 (by kernel_rfl) (by kernel_rfl) (by kernel_rfl) T_ok g_spec_l1In l_spec_l1In z_spec_l1In h_spec_l1In k
/-! function 39 -/
noncomputable def r_spec_l1Num : List PK := [PK.mk Ty.str false none false none]
noncomputable def q_spec_l1Num : List PK := [PK.mk (Ty.int IntKind.i64) false none false none]
noncomputable def to_spec_l1Num (r : ByteArray) : Tup r_spec_l1Num × OutD := ((r, ()), none)
noncomputable def of_spec_l1Num : Tup r_spec_l1Num × OutD → Option (ByteArray)
  | (a, none) => some (a.1)
  | _ => none
theorem to_of_spec_l1Num : ∀ b r, of_spec_l1Num b = some r → to_spec_l1Num r = b := by
  rintro ⟨a, o⟩ r h
  cases o with
  | none => injection h with h; subst h; rfl
  | some _ => cases h
noncomputable def f_spec_l1Num : Nat → Int → Option ByteArray
  | 0, _ => none
  | k + 1, p0 =>
    if decide (p0 < (10 : Int)) = true then some (bytesOf [IntKind.wrap IntKind.u8 (wrap64 ((48 : Int) + p0))]) else none
noncomputable def d_spec_l1Num : FnDef := .of q_spec_l1Num r_spec_l1Num (ByteArray) (fun k x => f_spec_l1Num k x.1) to_spec_l1Num of_spec_l1Num to_of_spec_l1Num
noncomputable def c_spec_l1Num : Code := Tryd.f39.body.getD .skip
noncomputable def x_spec_l1Num : Ctx (Tup r_spec_l1Num × OutD) := { T := T, G := [], mvs := [], no := 0, n := 20, res := resOf T q_spec_l1Num r_spec_l1Num Tryd.f39.results.toList, loops := [], regs := [], conds := [] }
theorem g_spec_l1Num (k : Nat) : EnvOK Tryd.prog k x_spec_l1Num.G := (EnvOK.nil mixed)
theorem h_spec_l1Num (k : Nat) (x : Tup d_spec_l1Num.ps) : d_spec_l1Num.f (k + 1) x = fnK d_spec_l1Num x_spec_l1Num c_spec_l1Num k x := by kernel_rfl
theorem z_spec_l1Num (x : Tup d_spec_l1Num.ps) : d_spec_l1Num.f 0 x = none := by kernel_rfl
theorem l_spec_l1Num (k : Nat) : LOK Tryd.prog x_spec_l1Num k c_spec_l1Num := LOK.by [] (by kernel_rfl) AllOK.nil
theorem s_spec_l1Num (k : Nat) : SoundAt Tryd.prog k 39 d_spec_l1Num.E := @fn_all Tryd.prog d_spec_l1Num x_spec_l1Num 39 Tryd.f39 c_spec_l1Num (by kernel_rfl) (by kernel_rfl) (by kernel_rfl) Tryd.func39 (by kernel_rfl) (by kernel_rfl) (by kernel_rfl) T_ok g_spec_l1Num l_spec_l1Num z_spec_l1Num h_spec_l1Num k
/-! function 46 -/
noncomputable def r_laws_toCell : List PK := [PK.mk (Ty.pair (Ty.int IntKind.i64) (Ty.int IntKind.i64)) true none false none]
noncomputable def q_laws_toCell : List PK := [PK.mk (Ty.pair (Ty.int IntKind.i64) (Ty.int IntKind.i64)) true none false none]
noncomputable def to_laws_toCell (r : Int × Int) : Tup r_laws_toCell × OutD := ((r, ()), none)
noncomputable def of_laws_toCell : Tup r_laws_toCell × OutD → Option (Int × Int)
  | (a, none) => some (a.1)
  | _ => none
theorem to_of_laws_toCell : ∀ b r, of_laws_toCell b = some r → to_laws_toCell r = b := by
  rintro ⟨a, o⟩ r h
  cases o with
  | none => injection h with h; subst h; rfl
  | some _ => cases h
noncomputable def f_laws_toCell : Nat → Int × Int → Option (Int × Int)
  | 0, _ => none
  | k + 1, p0 =>
    some (Prod.fst p0, Prod.snd p0)
noncomputable def d_laws_toCell : FnDef := .of q_laws_toCell r_laws_toCell (Int × Int) (fun k x => f_laws_toCell k x.1) to_laws_toCell of_laws_toCell to_of_laws_toCell
noncomputable def c_laws_toCell : Code := Tryd.f46.body.getD .skip
noncomputable def x_laws_toCell : Ctx (Tup r_laws_toCell × OutD) := { T := T, G := [], mvs := [], no := 0, n := 11, res := resOf T q_laws_toCell r_laws_toCell Tryd.f46.results.toList, loops := [], regs := [], conds := [] }
theorem g_laws_toCell (k : Nat) : EnvOK Tryd.prog k x_laws_toCell.G := (EnvOK.nil mixed)
theorem h_laws_toCell (k : Nat) (x : Tup d_laws_toCell.ps) : d_laws_toCell.f (k + 1) x = fnK d_laws_toCell x_laws_toCell c_laws_toCell k x := by kernel_rfl
theorem z_laws_toCell (x : Tup d_laws_toCell.ps) : d_laws_toCell.f 0 x = none := by kernel_rfl
theorem l_laws_toCell (k : Nat) : LOK Tryd.prog x_laws_toCell k c_laws_toCell := LOK.by [] (by kernel_rfl) AllOK.nil
theorem s_laws_toCell (k : Nat) : SoundAt Tryd.prog k 46 d_laws_toCell.E := @fn_all Tryd.prog d_laws_toCell x_laws_toCell 46 Tryd.f46 c_laws_toCell (by kernel_rfl) (by kernel_rfl) (by kernel_rfl) Tryd.func46 (by kernel_rfl) (by kernel_rfl) (by kernel_rfl) T_ok g_laws_toCell l_laws_toCell z_laws_toCell h_laws_toCell k
/-! function 50 -/
noncomputable def r_laws_eqCell : List PK := [PK.mk Ty.bool false none false none]
noncomputable def q_laws_eqCell : List PK := [PK.mk (Ty.pair (Ty.int IntKind.i64) (Ty.int IntKind.i64)) true none false none, PK.mk (Ty.pair (Ty.int IntKind.i64) (Ty.int IntKind.i64)) true none false none]
noncomputable def to_laws_eqCell (r : Bool) : Tup r_laws_eqCell × OutD := ((r, ()), none)
noncomputable def of_laws_eqCell : Tup r_laws_eqCell × OutD → Option (Bool)
  | (a, none) => some (a.1)
  | _ => none
theorem to_of_laws_eqCell : ∀ b r, of_laws_eqCell b = some r → to_laws_eqCell r = b := by
  rintro ⟨a, o⟩ r h
  cases o with
  | none => injection h with h; subst h; rfl
  | some _ => cases h
noncomputable def f_laws_eqCell : Nat → Int × Int → Int × Int → Option Bool
  | 0, _, _ => none
  | k + 1, p0, p1 =>
    if decide (Prod.fst p0 ≠ Prod.fst p1) = true then some false else if decide (Prod.snd p0 ≠ Prod.snd p1) = true then some false else some true
noncomputable def d_laws_eqCell : FnDef := .of q_laws_eqCell r_laws_eqCell (Bool) (fun k x => f_laws_eqCell k x.1 x.2.1) to_laws_eqCell of_laws_eqCell to_of_laws_eqCell
noncomputable def c_laws_eqCell : Code := Tryd.f50.body.getD .skip
noncomputable def x_laws_eqCell : Ctx (Tup r_laws_eqCell × OutD) := { T := T, G := [], mvs := [], no := 0, n := 15, res := resOf T q_laws_eqCell r_laws_eqCell Tryd.f50.results.toList, loops := [], regs := [], conds := [] }
theorem g_laws_eqCell (k : Nat) : EnvOK Tryd.prog k x_laws_eqCell.G := (EnvOK.nil mixed)
theorem h_laws_eqCell (k : Nat) (x : Tup d_laws_eqCell.ps) : d_laws_eqCell.f (k + 1) x = fnK d_laws_eqCell x_laws_eqCell c_laws_eqCell k x := by kernel_rfl
theorem z_laws_eqCell (x : Tup d_laws_eqCell.ps) : d_laws_eqCell.f 0 x = none := by kernel_rfl
theorem l_laws_eqCell (k : Nat) : LOK Tryd.prog x_laws_eqCell k c_laws_eqCell := LOK.by [] (by kernel_rfl) AllOK.nil
theorem s_laws_eqCell (k : Nat) : SoundAt Tryd.prog k 50 d_laws_eqCell.E := @fn_all Tryd.prog d_laws_eqCell x_laws_eqCell 50 Tryd.f50 c_laws_eqCell (by kernel_rfl) (by kernel_rfl) (by kernel_rfl) Tryd.func50 (by kernel_rfl) (by kernel_rfl) (by kernel_rfl) T_ok g_laws_eqCell l_laws_eqCell z_laws_eqCell h_laws_eqCell k
/-! function 52 -/
/-! function 56 -/
noncomputable def r_spec_faSame : List PK := [PK.mk (Ty.int IntKind.i64) false none false none]
noncomputable def q_spec_faSame : List PK := [PK.mk (Ty.slice (67 : Nat) (Ty.pair (Ty.int IntKind.i64) (Ty.pair (Ty.int IntKind.i64) (Ty.int IntKind.i64)))) false none false none, PK.mk (Ty.slice (67 : Nat) (Ty.pair (Ty.int IntKind.i64) (Ty.pair (Ty.int IntKind.i64) (Ty.int IntKind.i64)))) false none false none]
noncomputable def to_spec_faSame (r : Int) : Tup r_spec_faSame × OutD := ((r, ()), none)
noncomputable def of_spec_faSame : Tup r_spec_faSame × OutD → Option (Int)
  | (a, none) => some (a.1)
  | _ => none
theorem to_of_spec_faSame : ∀ b r, of_spec_faSame b = some r → to_spec_faSame r = b := by
  rintro ⟨a, o⟩ r h
  cases o with
  | none => injection h with h; subst h; rfl
  | some _ => cases h
noncomputable def f_spec_faSame_0 : Nat → List (Int × Int × Int) → List (Int × Int × Int) → Int → Int → Option (LR Unit Int)
  | 0, _, _, _, _ => none
  | k + 1, v1, v7, v8, v9 =>
    if decide (v9 < v8) = true then if (0 : Int) ≤ v9 then if v9 < (↑(List.length v7) : Int) then if (0 : Int) ≤ v9 then if v9 < (↑(List.length v1) : Int) then if (!(decide (Prod.fst (List.getD v7 (Int.toNat v9) ((0 : Int), (0 : Int), (0 : Int))) = Prod.fst (List.getD v1 (Int.toNat v9) ((0 : Int), (0 : Int), (0 : Int)))) && (decide (Prod.fst (Prod.snd (List.getD v7 (Int.toNat v9) ((0 : Int), (0 : Int), (0 : Int)))) = Prod.fst (Prod.snd (List.getD v1 (Int.toNat v9) ((0 : Int), (0 : Int), (0 : Int))))) && (decide (Prod.snd (Prod.snd (List.getD v7 (Int.toNat v9) ((0 : Int), (0 : Int), (0 : Int)))) = Prod.snd (Prod.snd (List.getD v1 (Int.toNat v9) ((0 : Int), (0 : Int), (0 : Int))))) && true)))) = true then some (LR.ret v9) else f_spec_faSame_0 k v1 v7 v8 (wrap64 (v9 + (1 : Int))) else none else none else none else none else some (LR.go ())
noncomputable def f_spec_faSame_0i : Spec := Spec.mk [OSh.ro] [((1 : Nat), TSh.at (Sh.snap (0 : Nat) (Ty.pair (Ty.int IntKind.i64) (Ty.pair (Ty.int IntKind.i64) (Ty.int IntKind.i64))))), ((7 : Nat), TSh.at (Sh.snap (0 : Nat) (Ty.pair (Ty.int IntKind.i64) (Ty.pair (Ty.int IntKind.i64) (Ty.int IntKind.i64))))), ((8 : Nat), TSh.at (Sh.int IntKind.i64)), ((9 : Nat), TSh.at (Sh.int IntKind.i64))]
noncomputable def f_spec_faSame_0o : Spec := Spec.mk [OSh.ro] []
noncomputable def f_spec_faSame_0D : LoopDef (Tup r_spec_faSame × OutD) := .rets f_spec_faSame_0i f_spec_faSame_0o (Unit) (Int) (fun k x => f_spec_faSame_0 k x.2.1 x.2.2.1 x.2.2.2.1 x.2.2.2.2.1) (fun z => (((), ()), (()))) (fun y => ()) (fun _ => rfl) to_spec_faSame of_spec_faSame to_of_spec_faSame
noncomputable def f_spec_faSame : Nat → List (Int × Int × Int) → List (Int × Int × Int) → Option Int
  | 0, _, _ => none
  | k + 1, p0, p1 =>
    Option.bind (f_spec_faSame_0 k p1 p0 (↑(List.length p0) : Int) (0 : Int)) fun z0 => LR.on z0 (fun y0 => some (-1 : Int)) fun r0 => some r0
noncomputable def d_spec_faSame : FnDef := .of q_spec_faSame r_spec_faSame (Int) (fun k x => f_spec_faSame k x.1 x.2.1) to_spec_faSame of_spec_faSame to_of_spec_faSame
noncomputable def c_spec_faSame : Code := Tryd.f56.body.getD .skip
noncomputable def x_spec_faSame : Ctx (Tup r_spec_faSame × OutD) := { T := T, G := [], mvs := [], no := 0, n := 22, res := resOf T q_spec_faSame r_spec_faSame Tryd.f56.results.toList, loops := [(0, f_spec_faSame_0D.E)], regs := [], conds := [] }
theorem g_spec_faSame (k : Nat) : EnvOK Tryd.prog k x_spec_faSame.G := (EnvOK.nil mixed)
noncomputable def f_spec_faSame_0B : Code := (findLoop 0 c_spec_faSame).getD .skip
theorem f_spec_faSame_0h (k : Nat) (x : f_spec_faSame_0i.D) : f_spec_faSame_0D.lp (k + 1) x = loopK x_spec_faSame f_spec_faSame_0D 0 f_spec_faSame_0B k x := by kernel_rfl
theorem f_spec_faSame_0l (k : Nat) : LOK Tryd.prog x_spec_faSame k f_spec_faSame_0B := LOK.by [] (by kernel_rfl) AllOK.nil
theorem f_spec_faSame_0z (x : f_spec_faSame_0i.D) : f_spec_faSame_0D.lp 0 x = none := by kernel_rfl
theorem f_spec_faSame_0ok (k : Nat) : EOK Tryd.prog x_spec_faSame k f_spec_faSame_0D.E (.block 0 (.loop f_spec_faSame_0B)) := loop_ok T_ok g_spec_faSame f_spec_faSame_0z f_spec_faSame_0h f_spec_faSame_0l k
theorem h_spec_faSame (k : Nat) (x : Tup d_spec_faSame.ps) : d_spec_faSame.f (k + 1) x = fnK d_spec_faSame x_spec_faSame c_spec_faSame k x := by kernel_rfl
theorem z_spec_faSame (x : Tup d_spec_faSame.ps) : d_spec_faSame.f 0 x = none := by kernel_rfl
theorem l_spec_faSame (k : Nat) : LOK Tryd.prog x_spec_faSame k c_spec_faSame := LOK.by [(f_spec_faSame_0D.E, .block 0 (.loop f_spec_faSame_0B))] (by kernel_rfl) (AllOK.cons (f_spec_faSame_0ok k) AllOK.nil)
theorem s_spec_faSame (k : Nat) : SoundAt Tryd.prog k 56 d_spec_faSame.E := @fn_all Tryd.prog d_spec_faSame x_spec_faSame 56 Tryd.f56 c_spec_faSame (by kernel_rfl) (by kernel_rfl) (by kernel_rfl) Tryd.func56 (by kernel_rfl) (by kernel_rfl) (by kernel_rfl) T_ok g_spec_faSame l_spec_faSame z_spec_faSame h_spec_faSame k
/-! function 60 -/
noncomputable def r_slices_Equal_impl_Fall_impl_Fall : List PK := [PK.mk Ty.bool false none false none]
noncomputable def q_slices_Equal_impl_Fall_impl_Fall : List PK := [PK.mk (Ty.slice (67 : Nat) (Ty.pair (Ty.int IntKind.i64) (Ty.pair (Ty.int IntKind.i64) (Ty.int IntKind.i64)))) false none false none, PK.mk (Ty.slice (67 : Nat) (Ty.pair (Ty.int IntKind.i64) (Ty.pair (Ty.int IntKind.i64) (Ty.int IntKind.i64)))) false none false none]
noncomputable def to_slices_Equal_impl_Fall_impl_Fall (r : Bool) : Tup r_slices_Equal_impl_Fall_impl_Fall × OutD := ((r, ()), none)
noncomputable def of_slices_Equal_impl_Fall_impl_Fall : Tup r_slices_Equal_impl_Fall_impl_Fall × OutD → Option (Bool)
  | (a, none) => some (a.1)
  | _ => none
theorem to_of_slices_Equal_impl_Fall_impl_Fall : ∀ b r, of_slices_Equal_impl_Fall_impl_Fall b = some r → to_slices_Equal_impl_Fall_impl_Fall r = b := by
  rintro ⟨a, o⟩ r h
  cases o with
  | none => injection h with h; subst h; rfl
  | some _ => cases h
noncomputable def f_slices_Equal_impl_Fall_impl_Fall_0 : Nat → List (Int × Int × Int) → List (Int × Int × Int) → Int → Int → Option (LR Unit Bool)
  | 0, _, _, _, _ => none
  | k + 1, v0, v1, v12, v13 =>
    if decide (v13 < v12) = true then if (0 : Int) ≤ v13 then if v13 < (↑(List.length v0) : Int) then if (0 : Int) ≤ v13 then if v13 < (↑(List.length v1) : Int) then if (!(decide (Prod.fst (List.getD v0 (Int.toNat v13) ((0 : Int), (0 : Int), (0 : Int))) = Prod.fst (List.getD v1 (Int.toNat v13) ((0 : Int), (0 : Int), (0 : Int)))) && (decide (Prod.fst (Prod.snd (List.getD v0 (Int.toNat v13) ((0 : Int), (0 : Int), (0 : Int)))) = Prod.fst (Prod.snd (List.getD v1 (Int.toNat v13) ((0 : Int), (0 : Int), (0 : Int))))) && (decide (Prod.snd (Prod.snd (List.getD v0 (Int.toNat v13) ((0 : Int), (0 : Int), (0 : Int)))) = Prod.snd (Prod.snd (List.getD v1 (Int.toNat v13) ((0 : Int), (0 : Int), (0 : Int))))) && true)))) = true then some (LR.ret false) else f_slices_Equal_impl_Fall_impl_Fall_0 k v0 v1 v12 (wrap64 (v13 + (1 : Int))) else none else none else none else none else some (LR.go ())
noncomputable def f_slices_Equal_impl_Fall_impl_Fall_0i : Spec := Spec.mk [OSh.ro] [((0 : Nat), TSh.at (Sh.snap (0 : Nat) (Ty.pair (Ty.int IntKind.i64) (Ty.pair (Ty.int IntKind.i64) (Ty.int IntKind.i64))))), ((1 : Nat), TSh.at (Sh.snap (0 : Nat) (Ty.pair (Ty.int IntKind.i64) (Ty.pair (Ty.int IntKind.i64) (Ty.int IntKind.i64))))), ((12 : Nat), TSh.at (Sh.int IntKind.i64)), ((13 : Nat), TSh.at (Sh.int IntKind.i64))]
noncomputable def f_slices_Equal_impl_Fall_impl_Fall_0o : Spec := Spec.mk [OSh.ro] []
noncomputable def f_slices_Equal_impl_Fall_impl_Fall_0D : LoopDef (Tup r_slices_Equal_impl_Fall_impl_Fall × OutD) := .rets f_slices_Equal_impl_Fall_impl_Fall_0i f_slices_Equal_impl_Fall_impl_Fall_0o (Unit) (Bool) (fun k x => f_slices_Equal_impl_Fall_impl_Fall_0 k x.2.1 x.2.2.1 x.2.2.2.1 x.2.2.2.2.1) (fun z => (((), ()), (()))) (fun y => ()) (fun _ => rfl) to_slices_Equal_impl_Fall_impl_Fall of_slices_Equal_impl_Fall_impl_Fall to_of_slices_Equal_impl_Fall_impl_Fall
noncomputable def f_slices_Equal_impl_Fall_impl_Fall : Nat → List (Int × Int × Int) → List (Int × Int × Int) → Option Bool
  | 0, _, _ => none
  | k + 1, p0, p1 =>
    if decide ((↑(List.length p0) : Int) ≠ (↑(List.length p1) : Int)) = true then some false else Option.bind (f_slices_Equal_impl_Fall_impl_Fall_0 k p0 p1 (↑(List.length p0) : Int) (0 : Int)) fun z0 => LR.on z0 (fun y0 => some true) fun r0 => some r0
noncomputable def d_slices_Equal_impl_Fall_impl_Fall : FnDef := .of q_slices_Equal_impl_Fall_impl_Fall r_slices_Equal_impl_Fall_impl_Fall (Bool) (fun k x => f_slices_Equal_impl_Fall_impl_Fall k x.1 x.2.1) to_slices_Equal_impl_Fall_impl_Fall of_slices_Equal_impl_Fall_impl_Fall to_of_slices_Equal_impl_Fall_impl_Fall
noncomputable def c_slices_Equal_impl_Fall_impl_Fall : Code := Tryd.f60.body.getD .skip
noncomputable def x_slices_Equal_impl_Fall_impl_Fall : Ctx (Tup r_slices_Equal_impl_Fall_impl_Fall × OutD) := { T := T, G := [], mvs := [], no := 0, n := 26, res := resOf T q_slices_Equal_impl_Fall_impl_Fall r_slices_Equal_impl_Fall_impl_Fall Tryd.f60.results.toList, loops := [(0, f_slices_Equal_impl_Fall_impl_Fall_0D.E)], regs := [], conds := [] }
theorem g_slices_Equal_impl_Fall_impl_Fall (k : Nat) : EnvOK Tryd.prog k x_slices_Equal_impl_Fall_impl_Fall.G := (EnvOK.nil mixed)
noncomputable def f_slices_Equal_impl_Fall_impl_Fall_0B : Code := (findLoop 0 c_slices_Equal_impl_Fall_impl_Fall).getD .skip
theorem f_slices_Equal_impl_Fall_impl_Fall_0h (k : Nat) (x : f_slices_Equal_impl_Fall_impl_Fall_0i.D) : f_slices_Equal_impl_Fall_impl_Fall_0D.lp (k + 1) x = loopK x_slices_Equal_impl_Fall_impl_Fall f_slices_Equal_impl_Fall_impl_Fall_0D 0 f_slices_Equal_impl_Fall_impl_Fall_0B k x := by kernel_rfl
theorem f_slices_Equal_impl_Fall_impl_Fall_0l (k : Nat) : LOK Tryd.prog x_slices_Equal_impl_Fall_impl_Fall k f_slices_Equal_impl_Fall_impl_Fall_0B := LOK.by [] (by kernel_rfl) AllOK.nil
theorem f_slices_Equal_impl_Fall_impl_Fall_0z (x : f_slices_Equal_impl_Fall_impl_Fall_0i.D) : f_slices_Equal_impl_Fall_impl_Fall_0D.lp 0 x = none := by kernel_rfl
theorem f_slices_Equal_impl_Fall_impl_Fall_0ok (k : Nat) : EOK Tryd.prog x_slices_Equal_impl_Fall_impl_Fall k f_slices_Equal_impl_Fall_impl_Fall_0D.E (.block 0 (.loop f_slices_Equal_impl_Fall_impl_Fall_0B)) := loop_ok T_ok g_slices_Equal_impl_Fall_impl_Fall f_slices_Equal_impl_Fall_impl_Fall_0z f_slices_Equal_impl_Fall_impl_Fall_0h f_slices_Equal_impl_Fall_impl_Fall_0l k
theorem h_slices_Equal_impl_Fall_impl_Fall (k : Nat) (x : Tup d_slices_Equal_impl_Fall_impl_Fall.ps) : d_slices_Equal_impl_Fall_impl_Fall.f (k + 1) x = fnK d_slices_Equal_impl_Fall_impl_Fall x_slices_Equal_impl_Fall_impl_Fall c_slices_Equal_impl_Fall_impl_Fall k x := by kernel_rfl
theorem z_slices_Equal_impl_Fall_impl_Fall (x : Tup d_slices_Equal_impl_Fall_impl_Fall.ps) : d_slices_Equal_impl_Fall_impl_Fall.f 0 x = none := by kernel_rfl
theorem l_slices_Equal_impl_Fall_impl_Fall (k : Nat) : LOK Tryd.prog x_slices_Equal_impl_Fall_impl_Fall k c_slices_Equal_impl_Fall_impl_Fall := LOK.by [(f_slices_Equal_impl_Fall_impl_Fall_0D.E, .block 0 (.loop f_slices_Equal_impl_Fall_impl_Fall_0B))] (by kernel_rfl) (AllOK.cons (f_slices_Equal_impl_Fall_impl_Fall_0ok k) AllOK.nil)
theorem s_slices_Equal_impl_Fall_impl_Fall (k : Nat) : SoundAt Tryd.prog k 60 d_slices_Equal_impl_Fall_impl_Fall.E := @fn_all Tryd.prog d_slices_Equal_impl_Fall_impl_Fall x_slices_Equal_impl_Fall_impl_Fall 60 Tryd.f60 c_slices_Equal_impl_Fall_impl_Fall (by kernel_rfl) (by kernel_rfl) (by kernel_rfl) Tryd.func60 (by kernel_rfl) (by kernel_rfl) (by kernel_rfl) T_ok g_slices_Equal_impl_Fall_impl_Fall l_slices_Equal_impl_Fall_impl_Fall z_slices_Equal_impl_Fall_impl_Fall h_slices_Equal_impl_Fall_impl_Fall k
/-! function 61 -/
noncomputable def r_internal_strconv_small : List PK := [PK.mk Ty.str false none false none]
noncomputable def q_internal_strconv_small : List PK := [PK.mk (Ty.int IntKind.i64) false none false none]
noncomputable def to_internal_strconv_small (r : ByteArray) : Tup r_internal_strconv_small × OutD := ((r, ()), none)
noncomputable def of_internal_strconv_small : Tup r_internal_strconv_small × OutD → Option (ByteArray)
  | (a, none) => some (a.1)
  | _ => none
theorem to_of_internal_strconv_small : ∀ b r, of_internal_strconv_small b = some r → to_internal_strconv_small r = b := by
  rintro ⟨a, o⟩ r h
  cases o with
  | none => injection h with h; subst h; rfl
  | some _ => cases h
noncomputable def f_internal_strconv_small : Nat → Int → Option ByteArray
  | 0, _ => none
  | k + 1, p0 =>
    if decide (p0 < (10 : Int)) = true then if (0 : Int) ≤ p0 then if p0 ≤ wrap64 (p0 + (1 : Int)) then if wrap64 (p0 + (1 : Int)) ≤ (↑(ByteArray.size (ByteArray.mk #[(48 : UInt8), (49 : UInt8), (50 : UInt8), (51 : UInt8), (52 : UInt8), (53 : UInt8), (54 : UInt8), (55 : UInt8), (56 : UInt8), (57 : UInt8), (97 : UInt8), (98 : UInt8), (99 : UInt8), (100 : UInt8), (101 : UInt8), (102 : UInt8), (103 : UInt8), (104 : UInt8), (105 : UInt8), (106 : UInt8), (107 : UInt8), (108 : UInt8), (109 : UInt8), (110 : UInt8), (111 : UInt8), (112 : UInt8), (113 : UInt8), (114 : UInt8), (115 : UInt8), (116 : UInt8), (117 : UInt8), (118 : UInt8), (119 : UInt8), (120 : UInt8), (121 : UInt8), (122 : UInt8)])) : Int) then some (subS (ByteArray.mk #[(48 : UInt8), (49 : UInt8), (50 : UInt8), (51 : UInt8), (52 : UInt8), (53 : UInt8), (54 : UInt8), (55 : UInt8), (56 : UInt8), (57 : UInt8), (97 : UInt8), (98 : UInt8), (99 : UInt8), (100 : UInt8), (101 : UInt8), (102 : UInt8), (103 : UInt8), (104 : UInt8), (105 : UInt8), (106 : UInt8), (107 : UInt8), (108 : UInt8), (109 : UInt8), (110 : UInt8), (111 : UInt8), (112 : UInt8), (113 : UInt8), (114 : UInt8), (115 : UInt8), (116 : UInt8), (117 : UInt8), (118 : UInt8), (119 : UInt8), (120 : UInt8), (121 : UInt8), (122 : UInt8)]) (Int.toNat p0) (Int.toNat (wrap64 (p0 + (1 : Int))))) else none else none else none else if (0 : Int) ≤ wrap64 (p0 * (2 : Int)) then if wrap64 (p0 * (2 : Int)) ≤ wrap64 (wrap64 (p0 * (2 : Int)) + (2 : Int)) then if wrap64 (wrap64 (p0 * (2 : Int)) + (2 : Int)) ≤ (↑(ByteArray.size (ByteArray.mk (List.toArray (List.append (List.append [(48 : UInt8), (48 : UInt8), (48 : UInt8), (49 : UInt8), (48 : UInt8), (50 : UInt8), (48 : UInt8), (51 : UInt8), (48 : UInt8), (52 : UInt8), (48 : UInt8), (53 : UInt8), (48 : UInt8), (54 : UInt8), (48 : UInt8), (55 : UInt8), (48 : UInt8), (56 : UInt8), (48 : UInt8), (57 : UInt8), (49 : UInt8), (48 : UInt8), (49 : UInt8), (49 : UInt8), (49 : UInt8), (50 : UInt8), (49 : UInt8), (51 : UInt8), (49 : UInt8), (52 : UInt8), (49 : UInt8), (53 : UInt8), (49 : UInt8), (54 : UInt8), (49 : UInt8), (55 : UInt8), (49 : UInt8), (56 : UInt8), (49 : UInt8), (57 : UInt8), (50 : UInt8), (48 : UInt8), (50 : UInt8), (49 : UInt8), (50 : UInt8), (50 : UInt8), (50 : UInt8), (51 : UInt8), (50 : UInt8), (52 : UInt8)] [(50 : UInt8), (53 : UInt8), (50 : UInt8), (54 : UInt8), (50 : UInt8), (55 : UInt8), (50 : UInt8), (56 : UInt8), (50 : UInt8), (57 : UInt8), (51 : UInt8), (48 : UInt8), (51 : UInt8), (49 : UInt8), (51 : UInt8), (50 : UInt8), (51 : UInt8), (51 : UInt8), (51 : UInt8), (52 : UInt8), (51 : UInt8), (53 : UInt8), (51 : UInt8), (54 : UInt8), (51 : UInt8), (55 : UInt8), (51 : UInt8), (56 : UInt8), (51 : UInt8), (57 : UInt8), (52 : UInt8), (48 : UInt8), (52 : UInt8), (49 : UInt8), (52 : UInt8), (50 : UInt8), (52 : UInt8), (51 : UInt8), (52 : UInt8), (52 : UInt8), (52 : UInt8), (53 : UInt8), (52 : UInt8), (54 : UInt8), (52 : UInt8), (55 : UInt8), (52 : UInt8), (56 : UInt8), (52 : UInt8), (57 : UInt8)]) (List.append [(53 : UInt8), (48 : UInt8), (53 : UInt8), (49 : UInt8), (53 : UInt8), (50 : UInt8), (53 : UInt8), (51 : UInt8), (53 : UInt8), (52 : UInt8), (53 : UInt8), (53 : UInt8), (53 : UInt8), (54 : UInt8), (53 : UInt8), (55 : UInt8), (53 : UInt8), (56 : UInt8), (53 : UInt8), (57 : UInt8), (54 : UInt8), (48 : UInt8), (54 : UInt8), (49 : UInt8), (54 : UInt8), (50 : UInt8), (54 : UInt8), (51 : UInt8), (54 : UInt8), (52 : UInt8), (54 : UInt8), (53 : UInt8), (54 : UInt8), (54 : UInt8), (54 : UInt8), (55 : UInt8), (54 : UInt8), (56 : UInt8), (54 : UInt8), (57 : UInt8), (55 : UInt8), (48 : UInt8), (55 : UInt8), (49 : UInt8), (55 : UInt8), (50 : UInt8), (55 : UInt8), (51 : UInt8), (55 : UInt8), (52 : UInt8)] [(55 : UInt8), (53 : UInt8), (55 : UInt8), (54 : UInt8), (55 : UInt8), (55 : UInt8), (55 : UInt8), (56 : UInt8), (55 : UInt8), (57 : UInt8), (56 : UInt8), (48 : UInt8), (56 : UInt8), (49 : UInt8), (56 : UInt8), (50 : UInt8), (56 : UInt8), (51 : UInt8), (56 : UInt8), (52 : UInt8), (56 : UInt8), (53 : UInt8), (56 : UInt8), (54 : UInt8), (56 : UInt8), (55 : UInt8), (56 : UInt8), (56 : UInt8), (56 : UInt8), (57 : UInt8), (57 : UInt8), (48 : UInt8), (57 : UInt8), (49 : UInt8), (57 : UInt8), (50 : UInt8), (57 : UInt8), (51 : UInt8), (57 : UInt8), (52 : UInt8), (57 : UInt8), (53 : UInt8), (57 : UInt8), (54 : UInt8), (57 : UInt8), (55 : UInt8), (57 : UInt8), (56 : UInt8), (57 : UInt8), (57 : UInt8)]))))) : Int) then some (subS (ByteArray.mk (List.toArray (List.append (List.append [(48 : UInt8), (48 : UInt8), (48 : UInt8), (49 : UInt8), (48 : UInt8), (50 : UInt8), (48 : UInt8), (51 : UInt8), (48 : UInt8), (52 : UInt8), (48 : UInt8), (53 : UInt8), (48 : UInt8), (54 : UInt8), (48 : UInt8), (55 : UInt8), (48 : UInt8), (56 : UInt8), (48 : UInt8), (57 : UInt8), (49 : UInt8), (48 : UInt8), (49 : UInt8), (49 : UInt8), (49 : UInt8), (50 : UInt8), (49 : UInt8), (51 : UInt8), (49 : UInt8), (52 : UInt8), (49 : UInt8), (53 : UInt8), (49 : UInt8), (54 : UInt8), (49 : UInt8), (55 : UInt8), (49 : UInt8), (56 : UInt8), (49 : UInt8), (57 : UInt8), (50 : UInt8), (48 : UInt8), (50 : UInt8), (49 : UInt8), (50 : UInt8), (50 : UInt8), (50 : UInt8), (51 : UInt8), (50 : UInt8), (52 : UInt8)] [(50 : UInt8), (53 : UInt8), (50 : UInt8), (54 : UInt8), (50 : UInt8), (55 : UInt8), (50 : UInt8), (56 : UInt8), (50 : UInt8), (57 : UInt8), (51 : UInt8), (48 : UInt8), (51 : UInt8), (49 : UInt8), (51 : UInt8), (50 : UInt8), (51 : UInt8), (51 : UInt8), (51 : UInt8), (52 : UInt8), (51 : UInt8), (53 : UInt8), (51 : UInt8), (54 : UInt8), (51 : UInt8), (55 : UInt8), (51 : UInt8), (56 : UInt8), (51 : UInt8), (57 : UInt8), (52 : UInt8), (48 : UInt8), (52 : UInt8), (49 : UInt8), (52 : UInt8), (50 : UInt8), (52 : UInt8), (51 : UInt8), (52 : UInt8), (52 : UInt8), (52 : UInt8), (53 : UInt8), (52 : UInt8), (54 : UInt8), (52 : UInt8), (55 : UInt8), (52 : UInt8), (56 : UInt8), (52 : UInt8), (57 : UInt8)]) (List.append [(53 : UInt8), (48 : UInt8), (53 : UInt8), (49 : UInt8), (53 : UInt8), (50 : UInt8), (53 : UInt8), (51 : UInt8), (53 : UInt8), (52 : UInt8), (53 : UInt8), (53 : UInt8), (53 : UInt8), (54 : UInt8), (53 : UInt8), (55 : UInt8), (53 : UInt8), (56 : UInt8), (53 : UInt8), (57 : UInt8), (54 : UInt8), (48 : UInt8), (54 : UInt8), (49 : UInt8), (54 : UInt8), (50 : UInt8), (54 : UInt8), (51 : UInt8), (54 : UInt8), (52 : UInt8), (54 : UInt8), (53 : UInt8), (54 : UInt8), (54 : UInt8), (54 : UInt8), (55 : UInt8), (54 : UInt8), (56 : UInt8), (54 : UInt8), (57 : UInt8), (55 : UInt8), (48 : UInt8), (55 : UInt8), (49 : UInt8), (55 : UInt8), (50 : UInt8), (55 : UInt8), (51 : UInt8), (55 : UInt8), (52 : UInt8)] [(55 : UInt8), (53 : UInt8), (55 : UInt8), (54 : UInt8), (55 : UInt8), (55 : UInt8), (55 : UInt8), (56 : UInt8), (55 : UInt8), (57 : UInt8), (56 : UInt8), (48 : UInt8), (56 : UInt8), (49 : UInt8), (56 : UInt8), (50 : UInt8), (56 : UInt8), (51 : UInt8), (56 : UInt8), (52 : UInt8), (56 : UInt8), (53 : UInt8), (56 : UInt8), (54 : UInt8), (56 : UInt8), (55 : UInt8), (56 : UInt8), (56 : UInt8), (56 : UInt8), (57 : UInt8), (57 : UInt8), (48 : UInt8), (57 : UInt8), (49 : UInt8), (57 : UInt8), (50 : UInt8), (57 : UInt8), (51 : UInt8), (57 : UInt8), (52 : UInt8), (57 : UInt8), (53 : UInt8), (57 : UInt8), (54 : UInt8), (57 : UInt8), (55 : UInt8), (57 : UInt8), (56 : UInt8), (57 : UInt8), (57 : UInt8)])))) (Int.toNat (wrap64 (p0 * (2 : Int)))) (Int.toNat (wrap64 (wrap64 (p0 * (2 : Int)) + (2 : Int))))) else none else none else none
noncomputable def d_internal_strconv_small : FnDef := .of q_internal_strconv_small r_internal_strconv_small (ByteArray) (fun k x => f_internal_strconv_small k x.1) to_internal_strconv_small of_internal_strconv_small to_of_internal_strconv_small
noncomputable def c_internal_strconv_small : Code := Tryd.f61.body.getD .skip
noncomputable def x_internal_strconv_small : Ctx (Tup r_internal_strconv_small × OutD) := { T := T, G := [], mvs := [], no := 0, n := 15, res := resOf T q_internal_strconv_small r_internal_strconv_small Tryd.f61.results.toList, loops := [], regs := [], conds := [] }
theorem g_internal_strconv_small (k : Nat) : EnvOK Tryd.prog k x_internal_strconv_small.G := (EnvOK.nil mixed)
theorem h_internal_strconv_small (k : Nat) (x : Tup d_internal_strconv_small.ps) : d_internal_strconv_small.f (k + 1) x = fnK d_internal_strconv_small x_internal_strconv_small c_internal_strconv_small k x := by kernel_rfl
theorem z_internal_strconv_small (x : Tup d_internal_strconv_small.ps) : d_internal_strconv_small.f 0 x = none := by kernel_rfl
theorem l_internal_strconv_small (k : Nat) : LOK Tryd.prog x_internal_strconv_small k c_internal_strconv_small := LOK.by [] (by kernel_rfl) AllOK.nil
theorem s_internal_strconv_small (k : Nat) : SoundAt Tryd.prog k 61 d_internal_strconv_small.E := @fn_all Tryd.prog d_internal_strconv_small x_internal_strconv_small 61 Tryd.f61 c_internal_strconv_small (by kernel_rfl) (by kernel_rfl) (by kernel_rfl) Tryd.func61 (by kernel_rfl) (by kernel_rfl) (by kernel_rfl) T_ok g_internal_strconv_small l_internal_strconv_small z_internal_strconv_small h_internal_strconv_small k
/-! function 66 -/
noncomputable def r_spec_paTurning : List PK := [PK.mk Ty.bool false none false none]
noncomputable def q_spec_paTurning : List PK := [PK.mk (Ty.pair (Ty.int IntKind.i64) (Ty.int IntKind.i64)) true none false none]
noncomputable def to_spec_paTurning (r : Bool) : Tup r_spec_paTurning × OutD := ((r, ()), none)
noncomputable def of_spec_paTurning : Tup r_spec_paTurning × OutD → Option (Bool)
  | (a, none) => some (a.1)
  | _ => none
theorem to_of_spec_paTurning : ∀ b r, of_spec_paTurning b = some r → to_spec_paTurning r = b := by
  rintro ⟨a, o⟩ r h
  cases o with
  | none => injection h with h; subst h; rfl
  | some _ => cases h
noncomputable def f_spec_paTurning : Nat → Int × Int → Option Bool
  | 0, _ => none
  | k + 1, p0 =>
    if decide (Prod.fst p0 = (3 : Int)) = true then some true else some (decide (Prod.fst p0 = (6 : Int)))
noncomputable def d_spec_paTurning : FnDef := .of q_spec_paTurning r_spec_paTurning (Bool) (fun k x => f_spec_paTurning k x.1) to_spec_paTurning of_spec_paTurning to_of_spec_paTurning
noncomputable def c_spec_paTurning : Code := Tryd.f66.body.getD .skip
noncomputable def x_spec_paTurning : Ctx (Tup r_spec_paTurning × OutD) := { T := T, G := [], mvs := [], no := 0, n := 11, res := resOf T q_spec_paTurning r_spec_paTurning Tryd.f66.results.toList, loops := [], regs := [], conds := [] }
theorem g_spec_paTurning (k : Nat) : EnvOK Tryd.prog k x_spec_paTurning.G := (EnvOK.nil mixed)
theorem h_spec_paTurning (k : Nat) (x : Tup d_spec_paTurning.ps) : d_spec_paTurning.f (k + 1) x = fnK d_spec_paTurning x_spec_paTurning c_spec_paTurning k x := by kernel_rfl
theorem z_spec_paTurning (x : Tup d_spec_paTurning.ps) : d_spec_paTurning.f 0 x = none := by kernel_rfl
theorem l_spec_paTurning (k : Nat) : LOK Tryd.prog x_spec_paTurning k c_spec_paTurning := LOK.by [] (by kernel_rfl) AllOK.nil
theorem s_spec_paTurning (k : Nat) : SoundAt Tryd.prog k 66 d_spec_paTurning.E := @fn_all Tryd.prog d_spec_paTurning x_spec_paTurning 66 Tryd.f66 c_spec_paTurning (by kernel_rfl) (by kernel_rfl) (by kernel_rfl) Tryd.func66 (by kernel_rfl) (by kernel_rfl) (by kernel_rfl) T_ok g_spec_paTurning l_spec_paTurning z_spec_paTurning h_spec_paTurning k
/-! function 67 -/
noncomputable def r_spec_boOwn : List PK := [PK.mk (Ty.pair (Ty.int IntKind.i64) (Ty.pair (Ty.int IntKind.i64) (Ty.slice (78 : Nat) (Ty.pair (Ty.int IntKind.i64) (Ty.int IntKind.i64))))) true none false none]
noncomputable def q_spec_boOwn : List PK := [PK.mk (Ty.pair (Ty.int IntKind.i64) (Ty.pair (Ty.int IntKind.i64) (Ty.slice (78 : Nat) (Ty.pair (Ty.int IntKind.i64) (Ty.int IntKind.i64))))) true none false none]
noncomputable def to_spec_boOwn (r : Int × Int × List (Int × Int)) : Tup r_spec_boOwn × OutD := ((r, ()), none)
noncomputable def of_spec_boOwn : Tup r_spec_boOwn × OutD → Option (Int × Int × List (Int × Int))
  | (a, none) => some (a.1)
  | _ => none
theorem to_of_spec_boOwn : ∀ b r, of_spec_boOwn b = some r → to_spec_boOwn r = b := by
  rintro ⟨a, o⟩ r h
  cases o with
  | none => injection h with h; subst h; rfl
  | some _ => cases h
noncomputable def f_spec_boOwn_g1 : Nat → Int → Int → List (Int × Int) → Int → Int → List (Int × Int) → Option (Int × Int × List (Int × Int)) := fun k b1_0 b1_1 b1_2 b2_0 b2_1 o3 =>
    if (0 : Nat) + List.length b1_2 ≤ (140737488355328 / 16 : Nat) then some (b1_0, b1_1, b1_2) else none
noncomputable def f_spec_boOwn_g1A : Nat → Int → Int → List (Int × Int) → Int → Int → List (Int × Int) → Option (List (Int × Int × List (Int × Int))) := fun k b1_0 b1_1 b1_2 b2_0 b2_1 o3 =>
    joinL (joinL (if (0 : Nat) + List.length b1_2 ≤ (140737488355328 / 16 : Nat) then some [(b1_0, b1_1, b1_2)] else none) (joinL (if (0 : Nat) + List.length b1_2 ≤ (140737488355328 / 16 : Nat) then some [(b1_0, b1_1, b1_2)] else none) (if (0 : Nat) + List.length b1_2 ≤ (140737488355328 / 16 : Nat) then some [(b1_0, b1_1, b1_2)] else none))) (joinL (joinL (if (0 : Nat) + List.length b1_2 ≤ (140737488355328 / 16 : Nat) then some [(b1_0, b1_1, b1_2)] else none) (joinL (if (0 : Nat) + List.length b1_2 ≤ (140737488355328 / 16 : Nat) then some [(b1_0, b1_1, b1_2)] else none) (if (0 : Nat) + List.length b1_2 ≤ (140737488355328 / 16 : Nat) then some [(b1_0, b1_1, b1_2)] else none))) (joinL (joinL (if (0 : Nat) + List.length b1_2 ≤ (140737488355328 / 16 : Nat) then some [(b1_0, b1_1, b1_2)] else none) (if (0 : Nat) + List.length b1_2 ≤ (140737488355328 / 16 : Nat) then some [(b1_0, b1_1, b1_2)] else none)) (joinL (joinL (if (0 : Nat) + List.length b1_2 ≤ (140737488355328 / 16 : Nat) then some [(b1_0, b1_1, b1_2)] else none) (if (0 : Nat) + List.length b1_2 ≤ (140737488355328 / 16 : Nat) then some [(b1_0, b1_1, b1_2)] else none)) (if (0 : Nat) + List.length b1_2 ≤ (140737488355328 / 16 : Nat) then joinL (some [(b1_0, b1_1, b1_2)]) (some [(b1_0, b1_1, b1_2)]) else none))))
noncomputable def f_spec_boOwn_g1i : Spec := Spec.mk [OSh.ro, OSh.box (43 : Nat) [Sh.int IntKind.i64, Sh.int IntKind.i64, Sh.snap (0 : Nat) (Ty.pair (Ty.int IntKind.i64) (Ty.int IntKind.i64))], OSh.box (43 : Nat) [Sh.int IntKind.i64, Sh.int IntKind.i64, Sh.sl (3 : Nat)], OSh.row true (78 : Nat) (Ty.pair (Ty.int IntKind.i64) (Ty.int IntKind.i64))] [((1 : Nat), TSh.at (Sh.ptr (1 : Nat) (0 : Nat))), ((2 : Nat), TSh.at (Sh.ptr (2 : Nat) (0 : Nat)))]
noncomputable def f_spec_boOwn_g1o : Spec := Spec.mk [OSh.ro, OSh.box (43 : Nat) [Sh.int IntKind.i64, Sh.int IntKind.i64, Sh.sl (2 : Nat)], OSh.row true (78 : Nat) (Ty.pair (Ty.int IntKind.i64) (Ty.int IntKind.i64))] [((2 : Nat), TSh.at (Sh.ptr (1 : Nat) (0 : Nat)))]
noncomputable def f_spec_boOwn_g1D : LoopDef (Tup r_spec_boOwn × OutD) := .plain f_spec_boOwn_g1i f_spec_boOwn_g1o (Int × Int × List (Int × Int)) (fun k x => f_spec_boOwn_g1 k x.1.2.1.1 x.1.2.1.2.1 x.1.2.1.2.2.1 x.1.2.2.1.1 x.1.2.2.1.2.1 x.1.2.2.2.1) (fun z => (((), (z.1, z.2.1, (), ()), z.2.2, ()), ((), ()))) (fun y => (y.1.2.1.1, y.1.2.1.2.1, y.1.2.2.1)) (fun _ => rfl)
theorem f_spec_boOwn_g1j (k : Nat) (b1_0 : Int) (b1_1 : Int) (b1_2 : List (Int × Int)) (b2_0 : Int) (b2_1 : Int) (o3 : List (Int × Int)) : f_spec_boOwn_g1A k b1_0 b1_1 b1_2 b2_0 b2_1 o3 = repl 12 (f_spec_boOwn_g1 k b1_0 b1_1 b1_2 b2_0 b2_1 o3) := by
  first
  | (simp only [f_spec_boOwn_g1A, f_spec_boOwn_g1, repl_some, repl_ite, repl_ite0, repl_ite1, repl_bind, joinL_repl, if_true]; done)
  | (simp only [f_spec_boOwn_g1A, f_spec_boOwn_g1, repl_some, repl_ite, repl_ite0, repl_ite1, repl_bind, joinL_repl, if_true]; simp only [joinL_grdl, joinL_grdr, repl_grd, joinL_repl]; simp only [grd_and]; exact grd_congr ⟨fun h => by simp only [h, and_self], fun h => by simp only [h, and_self]⟩)
noncomputable def f_spec_boOwn : Nat → Int × Int × List (Int × Int) → Option (Int × Int × List (Int × Int))
  | 0, _ => none
  | k + 1, p0 =>
    Option.bind (f_spec_boOwn_g1 k (Prod.fst p0) (Prod.fst (Prod.snd p0)) (Prod.snd (Prod.snd p0)) (0 : Int) (0 : Int) []) fun z0 => some (Prod.fst z0, Prod.fst (Prod.snd z0), Prod.snd (Prod.snd z0))
noncomputable def d_spec_boOwn : FnDef := .of q_spec_boOwn r_spec_boOwn (Int × Int × List (Int × Int)) (fun k x => f_spec_boOwn k x.1) to_spec_boOwn of_spec_boOwn to_of_spec_boOwn
noncomputable def c_spec_boOwn : Code := Tryd.f67.body.getD .skip
noncomputable def x_spec_boOwn : Ctx (Tup r_spec_boOwn × OutD) := { T := T, G := [], mvs := [], no := 0, n := 12, res := resOf T q_spec_boOwn r_spec_boOwn Tryd.f67.results.toList, loops := [], regs := [(1, f_spec_boOwn_g1D.E)], conds := [] }
theorem g_spec_boOwn (k : Nat) : EnvOK Tryd.prog k x_spec_boOwn.G := (EnvOK.nil mixed)
noncomputable def f_spec_boOwn_g1O : Array Oper := (findReg 1 c_spec_boOwn).getD #[]
theorem f_spec_boOwn_g1e (k : Nat) (x : f_spec_boOwn_g1i.D) : execD x_spec_boOwn.T x_spec_boOwn.G x_spec_boOwn.mvs k f_spec_boOwn_g1O (f_spec_boOwn_g1D.inp.st x_spec_boOwn.n x) (outK x_spec_boOwn f_spec_boOwn_g1D) = f_spec_boOwn_g1A k x.1.2.1.1 x.1.2.1.2.1 x.1.2.1.2.2.1 x.1.2.2.1.1 x.1.2.2.1.2.1 x.1.2.2.2.1 := by kernel_rfl
theorem f_spec_boOwn_g1ok (k : Nat) : EOK Tryd.prog x_spec_boOwn k f_spec_boOwn_g1D.E (.region 1 f_spec_boOwn_g1O true) := reg_ok (D := f_spec_boOwn_g1D) (m := 12) T_ok (g_spec_boOwn k) (fun x => (f_spec_boOwn_g1e k x).trans (f_spec_boOwn_g1j k x.1.2.1.1 x.1.2.1.2.1 x.1.2.1.2.2.1 x.1.2.2.1.1 x.1.2.2.1.2.1 x.1.2.2.2.1))
theorem h_spec_boOwn (k : Nat) (x : Tup d_spec_boOwn.ps) : d_spec_boOwn.f (k + 1) x = fnK d_spec_boOwn x_spec_boOwn c_spec_boOwn k x := by kernel_rfl
theorem z_spec_boOwn (x : Tup d_spec_boOwn.ps) : d_spec_boOwn.f 0 x = none := by kernel_rfl
theorem l_spec_boOwn (k : Nat) : LOK Tryd.prog x_spec_boOwn k c_spec_boOwn := LOK.by [(f_spec_boOwn_g1D.E, .region 1 f_spec_boOwn_g1O true)] (by kernel_rfl) (AllOK.cons (f_spec_boOwn_g1ok k) AllOK.nil)
theorem s_spec_boOwn (k : Nat) : SoundAt Tryd.prog k 67 d_spec_boOwn.E := @fn_all Tryd.prog d_spec_boOwn x_spec_boOwn 67 Tryd.f67 c_spec_boOwn (by kernel_rfl) (by kernel_rfl) (by kernel_rfl) Tryd.func67 (by kernel_rfl) (by kernel_rfl) (by kernel_rfl) T_ok g_spec_boOwn l_spec_boOwn z_spec_boOwn h_spec_boOwn k
/-! function 72 -/
noncomputable def r_impl_copyBoard : List PK := [PK.mk (Ty.pair (Ty.int IntKind.i64) (Ty.pair (Ty.int IntKind.i64) (Ty.slice (78 : Nat) (Ty.pair (Ty.int IntKind.i64) (Ty.int IntKind.i64))))) true none false none]
noncomputable def q_impl_copyBoard : List PK := [PK.mk (Ty.pair (Ty.int IntKind.i64) (Ty.pair (Ty.int IntKind.i64) (Ty.slice (78 : Nat) (Ty.pair (Ty.int IntKind.i64) (Ty.int IntKind.i64))))) true none false none]
noncomputable def to_impl_copyBoard (r : Int × Int × List (Int × Int)) : Tup r_impl_copyBoard × OutD := ((r, ()), none)
noncomputable def of_impl_copyBoard : Tup r_impl_copyBoard × OutD → Option (Int × Int × List (Int × Int))
  | (a, none) => some (a.1)
  | _ => none
theorem to_of_impl_copyBoard : ∀ b r, of_impl_copyBoard b = some r → to_impl_copyBoard r = b := by
  rintro ⟨a, o⟩ r h
  cases o with
  | none => injection h with h; subst h; rfl
  | some _ => cases h
noncomputable def f_impl_copyBoard_g1 : Nat → Int → Int → List (Int × Int) → Int → Int → List (Int × Int) → Option (Int × Int × List (Int × Int)) := fun k b1_0 b1_1 b1_2 b2_0 b2_1 o3 =>
    if (0 : Nat) + List.length b1_2 ≤ (140737488355328 / 16 : Nat) then some (b1_0, b1_1, b1_2) else none
noncomputable def f_impl_copyBoard_g1A : Nat → Int → Int → List (Int × Int) → Int → Int → List (Int × Int) → Option (List (Int × Int × List (Int × Int))) := fun k b1_0 b1_1 b1_2 b2_0 b2_1 o3 =>
    joinL (joinL (if (0 : Nat) + List.length b1_2 ≤ (140737488355328 / 16 : Nat) then some [(b1_0, b1_1, b1_2)] else none) (joinL (if (0 : Nat) + List.length b1_2 ≤ (140737488355328 / 16 : Nat) then some [(b1_0, b1_1, b1_2)] else none) (if (0 : Nat) + List.length b1_2 ≤ (140737488355328 / 16 : Nat) then some [(b1_0, b1_1, b1_2)] else none))) (joinL (joinL (if (0 : Nat) + List.length b1_2 ≤ (140737488355328 / 16 : Nat) then some [(b1_0, b1_1, b1_2)] else none) (joinL (if (0 : Nat) + List.length b1_2 ≤ (140737488355328 / 16 : Nat) then some [(b1_0, b1_1, b1_2)] else none) (if (0 : Nat) + List.length b1_2 ≤ (140737488355328 / 16 : Nat) then some [(b1_0, b1_1, b1_2)] else none))) (joinL (joinL (if (0 : Nat) + List.length b1_2 ≤ (140737488355328 / 16 : Nat) then some [(b1_0, b1_1, b1_2)] else none) (if (0 : Nat) + List.length b1_2 ≤ (140737488355328 / 16 : Nat) then some [(b1_0, b1_1, b1_2)] else none)) (joinL (joinL (if (0 : Nat) + List.length b1_2 ≤ (140737488355328 / 16 : Nat) then some [(b1_0, b1_1, b1_2)] else none) (if (0 : Nat) + List.length b1_2 ≤ (140737488355328 / 16 : Nat) then some [(b1_0, b1_1, b1_2)] else none)) (if (0 : Nat) + List.length b1_2 ≤ (140737488355328 / 16 : Nat) then joinL (some [(b1_0, b1_1, b1_2)]) (some [(b1_0, b1_1, b1_2)]) else none))))
noncomputable def f_impl_copyBoard_g1i : Spec := Spec.mk [OSh.ro, OSh.box (43 : Nat) [Sh.int IntKind.i64, Sh.int IntKind.i64, Sh.snap (0 : Nat) (Ty.pair (Ty.int IntKind.i64) (Ty.int IntKind.i64))], OSh.box (43 : Nat) [Sh.int IntKind.i64, Sh.int IntKind.i64, Sh.sl (3 : Nat)], OSh.row true (78 : Nat) (Ty.pair (Ty.int IntKind.i64) (Ty.int IntKind.i64))] [((1 : Nat), TSh.at (Sh.ptr (1 : Nat) (0 : Nat))), ((2 : Nat), TSh.at (Sh.ptr (2 : Nat) (0 : Nat)))]
noncomputable def f_impl_copyBoard_g1o : Spec := Spec.mk [OSh.ro, OSh.box (43 : Nat) [Sh.int IntKind.i64, Sh.int IntKind.i64, Sh.sl (2 : Nat)], OSh.row true (78 : Nat) (Ty.pair (Ty.int IntKind.i64) (Ty.int IntKind.i64))] [((2 : Nat), TSh.at (Sh.ptr (1 : Nat) (0 : Nat)))]
noncomputable def f_impl_copyBoard_g1D : LoopDef (Tup r_impl_copyBoard × OutD) := .plain f_impl_copyBoard_g1i f_impl_copyBoard_g1o (Int × Int × List (Int × Int)) (fun k x => f_impl_copyBoard_g1 k x.1.2.1.1 x.1.2.1.2.1 x.1.2.1.2.2.1 x.1.2.2.1.1 x.1.2.2.1.2.1 x.1.2.2.2.1) (fun z => (((), (z.1, z.2.1, (), ()), z.2.2, ()), ((), ()))) (fun y => (y.1.2.1.1, y.1.2.1.2.1, y.1.2.2.1)) (fun _ => rfl)
theorem f_impl_copyBoard_g1j (k : Nat) (b1_0 : Int) (b1_1 : Int) (b1_2 : List (Int × Int)) (b2_0 : Int) (b2_1 : Int) (o3 : List (Int × Int)) : f_impl_copyBoard_g1A k b1_0 b1_1 b1_2 b2_0 b2_1 o3 = repl 12 (f_impl_copyBoard_g1 k b1_0 b1_1 b1_2 b2_0 b2_1 o3) := by
  first
  | (simp only [f_impl_copyBoard_g1A, f_impl_copyBoard_g1, repl_some, repl_ite, repl_ite0, repl_ite1, repl_bind, joinL_repl, if_true]; done)
  | (simp only [f_impl_copyBoard_g1A, f_impl_copyBoard_g1, repl_some, repl_ite, repl_ite0, repl_ite1, repl_bind, joinL_repl, if_true]; simp only [joinL_grdl, joinL_grdr, repl_grd, joinL_repl]; simp only [grd_and]; exact grd_congr ⟨fun h => by simp only [h, and_self], fun h => by simp only [h, and_self]⟩)
noncomputable def f_impl_copyBoard : Nat → Int × Int × List (Int × Int) → Option (Int × Int × List (Int × Int))
  | 0, _ => none
  | k + 1, p0 =>
    Option.bind (f_impl_copyBoard_g1 k (Prod.fst p0) (Prod.fst (Prod.snd p0)) (Prod.snd (Prod.snd p0)) (0 : Int) (0 : Int) []) fun z0 => some (Prod.fst z0, Prod.fst (Prod.snd z0), Prod.snd (Prod.snd z0))
noncomputable def d_impl_copyBoard : FnDef := .of q_impl_copyBoard r_impl_copyBoard (Int × Int × List (Int × Int)) (fun k x => f_impl_copyBoard k x.1) to_impl_copyBoard of_impl_copyBoard to_of_impl_copyBoard
noncomputable def c_impl_copyBoard : Code := Tryd.f72.body.getD .skip
noncomputable def x_impl_copyBoard : Ctx (Tup r_impl_copyBoard × OutD) := { T := T, G := [], mvs := [], no := 0, n := 12, res := resOf T q_impl_copyBoard r_impl_copyBoard Tryd.f72.results.toList, loops := [], regs := [(1, f_impl_copyBoard_g1D.E)], conds := [] }
theorem g_impl_copyBoard (k : Nat) : EnvOK Tryd.prog k x_impl_copyBoard.G := (EnvOK.nil mixed)
noncomputable def f_impl_copyBoard_g1O : Array Oper := (findReg 1 c_impl_copyBoard).getD #[]
theorem f_impl_copyBoard_g1e (k : Nat) (x : f_impl_copyBoard_g1i.D) : execD x_impl_copyBoard.T x_impl_copyBoard.G x_impl_copyBoard.mvs k f_impl_copyBoard_g1O (f_impl_copyBoard_g1D.inp.st x_impl_copyBoard.n x) (outK x_impl_copyBoard f_impl_copyBoard_g1D) = f_impl_copyBoard_g1A k x.1.2.1.1 x.1.2.1.2.1 x.1.2.1.2.2.1 x.1.2.2.1.1 x.1.2.2.1.2.1 x.1.2.2.2.1 := by kernel_rfl
theorem f_impl_copyBoard_g1ok (k : Nat) : EOK Tryd.prog x_impl_copyBoard k f_impl_copyBoard_g1D.E (.region 1 f_impl_copyBoard_g1O true) := reg_ok (D := f_impl_copyBoard_g1D) (m := 12) T_ok (g_impl_copyBoard k) (fun x => (f_impl_copyBoard_g1e k x).trans (f_impl_copyBoard_g1j k x.1.2.1.1 x.1.2.1.2.1 x.1.2.1.2.2.1 x.1.2.2.1.1 x.1.2.2.1.2.1 x.1.2.2.2.1))
theorem h_impl_copyBoard (k : Nat) (x : Tup d_impl_copyBoard.ps) : d_impl_copyBoard.f (k + 1) x = fnK d_impl_copyBoard x_impl_copyBoard c_impl_copyBoard k x := by kernel_rfl
theorem z_impl_copyBoard (x : Tup d_impl_copyBoard.ps) : d_impl_copyBoard.f 0 x = none := by kernel_rfl
theorem l_impl_copyBoard (k : Nat) : LOK Tryd.prog x_impl_copyBoard k c_impl_copyBoard := LOK.by [(f_impl_copyBoard_g1D.E, .region 1 f_impl_copyBoard_g1O true)] (by kernel_rfl) (AllOK.cons (f_impl_copyBoard_g1ok k) AllOK.nil)
theorem s_impl_copyBoard (k : Nat) : SoundAt Tryd.prog k 72 d_impl_copyBoard.E := @fn_all Tryd.prog d_impl_copyBoard x_impl_copyBoard 72 Tryd.f72 c_impl_copyBoard (by kernel_rfl) (by kernel_rfl) (by kernel_rfl) Tryd.func72 (by kernel_rfl) (by kernel_rfl) (by kernel_rfl) T_ok g_impl_copyBoard l_impl_copyBoard z_impl_copyBoard h_impl_copyBoard k
/-! function 74 -/
noncomputable def r_impl_faultsByCell : List PK := [PK.mk (Ty.slice (3 : Nat) (Ty.int IntKind.i64)) false none false none]
noncomputable def q_impl_faultsByCell : List PK := [PK.mk (Ty.pair (Ty.int IntKind.i64) (Ty.pair (Ty.int IntKind.i64) (Ty.slice (78 : Nat) (Ty.pair (Ty.int IntKind.i64) (Ty.int IntKind.i64))))) true none false none, PK.mk (Ty.slice (26 : Nat) (Ty.pair (Ty.int IntKind.i64) (Ty.pair (Ty.int IntKind.i64) (Ty.int IntKind.i64)))) false none false none]
noncomputable def to_impl_faultsByCell (r : List Int) : Tup r_impl_faultsByCell × OutD := ((r, ()), none)
noncomputable def of_impl_faultsByCell : Tup r_impl_faultsByCell × OutD → Option (List Int)
  | (a, none) => some (a.1)
  | _ => none
theorem to_of_impl_faultsByCell : ∀ b r, of_impl_faultsByCell b = some r → to_impl_faultsByCell r = b := by
  rintro ⟨a, o⟩ r h
  cases o with
  | none => injection h with h; subst h; rfl
  | some _ => cases h
noncomputable def f_impl_faultsByCell_0 : Nat → Int → Int → List (Int × Int) → List Int → List (Int × Int × Int) → Int → Int → Option (List Int)
  | 0, _, _, _, _, _, _, _ => none
  | k + 1, b1_0, b1_1, b1_2, o2, v12, v13, v14 =>
    if decide (v14 < v13) = true then if (0 : Int) ≤ v14 then if v14 < (↑(List.length v12) : Int) then if (0 : Int) ≤ wrap64 (wrap64 (Prod.fst (Prod.snd (List.getD v12 (Int.toNat v14) ((0 : Int), (0 : Int), (0 : Int)))) * b1_1) + Prod.snd (Prod.snd (List.getD v12 (Int.toNat v14) ((0 : Int), (0 : Int), (0 : Int))))) then if wrap64 (wrap64 (Prod.fst (Prod.snd (List.getD v12 (Int.toNat v14) ((0 : Int), (0 : Int), (0 : Int)))) * b1_1) + Prod.snd (Prod.snd (List.getD v12 (Int.toNat v14) ((0 : Int), (0 : Int), (0 : Int))))) < (↑(List.length o2) : Int) then f_impl_faultsByCell_0 k b1_0 b1_1 b1_2 (List.set o2 (Int.toNat (wrap64 (wrap64 (Prod.fst (Prod.snd (List.getD v12 (Int.toNat v14) ((0 : Int), (0 : Int), (0 : Int)))) * b1_1) + Prod.snd (Prod.snd (List.getD v12 (Int.toNat v14) ((0 : Int), (0 : Int), (0 : Int))))))) (Prod.fst (List.getD v12 (Int.toNat v14) ((0 : Int), (0 : Int), (0 : Int))))) v12 v13 (wrap64 (v14 + (1 : Int))) else none else none else none else none else some o2
noncomputable def f_impl_faultsByCell_0i : Spec := Spec.mk [OSh.ro, OSh.box (43 : Nat) [Sh.int IntKind.i64, Sh.int IntKind.i64, Sh.snap (0 : Nat) (Ty.pair (Ty.int IntKind.i64) (Ty.int IntKind.i64))], OSh.row true (3 : Nat) (Ty.int IntKind.i64)] [((2 : Nat), TSh.at (Sh.ptr (1 : Nat) (0 : Nat))), ((5 : Nat), TSh.at (Sh.sl (2 : Nat))), ((12 : Nat), TSh.at (Sh.snap (0 : Nat) (Ty.pair (Ty.int IntKind.i64) (Ty.pair (Ty.int IntKind.i64) (Ty.int IntKind.i64))))), ((13 : Nat), TSh.at (Sh.int IntKind.i64)), ((14 : Nat), TSh.at (Sh.int IntKind.i64))]
noncomputable def f_impl_faultsByCell_0o : Spec := Spec.mk [OSh.ro, OSh.row true (3 : Nat) (Ty.int IntKind.i64)] [((5 : Nat), TSh.at (Sh.sl (1 : Nat)))]
noncomputable def f_impl_faultsByCell_0D : LoopDef (Tup r_impl_faultsByCell × OutD) := .plain f_impl_faultsByCell_0i f_impl_faultsByCell_0o (List Int) (fun k x => f_impl_faultsByCell_0 k x.1.2.1.1 x.1.2.1.2.1 x.1.2.1.2.2.1 x.1.2.2.1 x.2.2.2.1 x.2.2.2.2.1 x.2.2.2.2.2.1) (fun z => (((), z, ()), ((), ()))) (fun y => (y.1.2.1)) (fun _ => rfl)
noncomputable def f_impl_faultsByCell : Nat → Int × Int × List (Int × Int) → List (Int × Int × Int) → Option (List Int)
  | 0, _, _ => none
  | k + 1, p0, p1 =>
    if Int.toNat (↑(List.length (Prod.snd (Prod.snd p0))) : Int) * (8 : Nat) ≤ (281474976710656 : Nat) then Option.bind (f_impl_faultsByCell_0 k (Prod.fst p0) (Prod.fst (Prod.snd p0)) (Prod.snd (Prod.snd p0)) (List.replicate (Int.toNat (↑(List.length (Prod.snd (Prod.snd p0))) : Int)) (0 : Int)) p1 (↑(List.length p1) : Int) (0 : Int)) fun z0 => some z0 else none
noncomputable def d_impl_faultsByCell : FnDef := .of q_impl_faultsByCell r_impl_faultsByCell (List Int) (fun k x => f_impl_faultsByCell k x.1 x.2.1) to_impl_faultsByCell of_impl_faultsByCell to_of_impl_faultsByCell
noncomputable def c_impl_faultsByCell : Code := Tryd.f74.body.getD .skip
noncomputable def x_impl_faultsByCell : Ctx (Tup r_impl_faultsByCell × OutD) := { T := T, G := [], mvs := [], no := 0, n := 32, res := resOf T q_impl_faultsByCell r_impl_faultsByCell Tryd.f74.results.toList, loops := [(0, f_impl_faultsByCell_0D.E)], regs := [], conds := [] }
theorem g_impl_faultsByCell (k : Nat) : EnvOK Tryd.prog k x_impl_faultsByCell.G := (EnvOK.nil mixed)
noncomputable def f_impl_faultsByCell_0B : Code := (findLoop 0 c_impl_faultsByCell).getD .skip
theorem f_impl_faultsByCell_0h (k : Nat) (x : f_impl_faultsByCell_0i.D) : f_impl_faultsByCell_0D.lp (k + 1) x = loopK x_impl_faultsByCell f_impl_faultsByCell_0D 0 f_impl_faultsByCell_0B k x := by kernel_rfl
theorem f_impl_faultsByCell_0l (k : Nat) : LOK Tryd.prog x_impl_faultsByCell k f_impl_faultsByCell_0B := LOK.by [] (by kernel_rfl) AllOK.nil
theorem f_impl_faultsByCell_0z (x : f_impl_faultsByCell_0i.D) : f_impl_faultsByCell_0D.lp 0 x = none := by kernel_rfl
theorem f_impl_faultsByCell_0ok (k : Nat) : EOK Tryd.prog x_impl_faultsByCell k f_impl_faultsByCell_0D.E (.block 0 (.loop f_impl_faultsByCell_0B)) := loop_ok T_ok g_impl_faultsByCell f_impl_faultsByCell_0z f_impl_faultsByCell_0h f_impl_faultsByCell_0l k
theorem h_impl_faultsByCell (k : Nat) (x : Tup d_impl_faultsByCell.ps) : d_impl_faultsByCell.f (k + 1) x = fnK d_impl_faultsByCell x_impl_faultsByCell c_impl_faultsByCell k x := by kernel_rfl
theorem z_impl_faultsByCell (x : Tup d_impl_faultsByCell.ps) : d_impl_faultsByCell.f 0 x = none := by kernel_rfl
theorem l_impl_faultsByCell (k : Nat) : LOK Tryd.prog x_impl_faultsByCell k c_impl_faultsByCell := LOK.by [(f_impl_faultsByCell_0D.E, .block 0 (.loop f_impl_faultsByCell_0B))] (by kernel_rfl) (AllOK.cons (f_impl_faultsByCell_0ok k) AllOK.nil)
theorem s_impl_faultsByCell (k : Nat) : SoundAt Tryd.prog k 74 d_impl_faultsByCell.E := @fn_all Tryd.prog d_impl_faultsByCell x_impl_faultsByCell 74 Tryd.f74 c_impl_faultsByCell (by kernel_rfl) (by kernel_rfl) (by kernel_rfl) Tryd.func74 (by kernel_rfl) (by kernel_rfl) (by kernel_rfl) T_ok g_impl_faultsByCell l_impl_faultsByCell z_impl_faultsByCell h_impl_faultsByCell k
/-! function 81 -/
noncomputable def r_spec_ggGear : List PK := [PK.mk Ty.bool false none false none]
noncomputable def q_spec_ggGear : List PK := [PK.mk (Ty.pair (Ty.int IntKind.i64) (Ty.int IntKind.i64)) true none false none]
noncomputable def to_spec_ggGear (r : Bool) : Tup r_spec_ggGear × OutD := ((r, ()), none)
noncomputable def of_spec_ggGear : Tup r_spec_ggGear × OutD → Option (Bool)
  | (a, none) => some (a.1)
  | _ => none
theorem to_of_spec_ggGear : ∀ b r, of_spec_ggGear b = some r → to_spec_ggGear r = b := by
  rintro ⟨a, o⟩ r h
  cases o with
  | none => injection h with h; subst h; rfl
  | some _ => cases h
noncomputable def f_spec_ggGear : Nat → Int × Int → Option Bool
  | 0, _ => none
  | k + 1, p0 =>
    if decide (Prod.fst p0 = (6 : Int)) = true then some true else some (decide (Prod.fst p0 = (7 : Int)))
noncomputable def d_spec_ggGear : FnDef := .of q_spec_ggGear r_spec_ggGear (Bool) (fun k x => f_spec_ggGear k x.1) to_spec_ggGear of_spec_ggGear to_of_spec_ggGear
noncomputable def c_spec_ggGear : Code := Tryd.f81.body.getD .skip
noncomputable def x_spec_ggGear : Ctx (Tup r_spec_ggGear × OutD) := { T := T, G := [], mvs := [], no := 0, n := 11, res := resOf T q_spec_ggGear r_spec_ggGear Tryd.f81.results.toList, loops := [], regs := [], conds := [] }
theorem g_spec_ggGear (k : Nat) : EnvOK Tryd.prog k x_spec_ggGear.G := (EnvOK.nil mixed)
theorem h_spec_ggGear (k : Nat) (x : Tup d_spec_ggGear.ps) : d_spec_ggGear.f (k + 1) x = fnK d_spec_ggGear x_spec_ggGear c_spec_ggGear k x := by kernel_rfl
theorem z_spec_ggGear (x : Tup d_spec_ggGear.ps) : d_spec_ggGear.f 0 x = none := by kernel_rfl
theorem l_spec_ggGear (k : Nat) : LOK Tryd.prog x_spec_ggGear k c_spec_ggGear := LOK.by [] (by kernel_rfl) AllOK.nil
theorem s_spec_ggGear (k : Nat) : SoundAt Tryd.prog k 81 d_spec_ggGear.E := @fn_all Tryd.prog d_spec_ggGear x_spec_ggGear 81 Tryd.f81 c_spec_ggGear (by kernel_rfl) (by kernel_rfl) (by kernel_rfl) Tryd.func81 (by kernel_rfl) (by kernel_rfl) (by kernel_rfl) T_ok g_spec_ggGear l_spec_ggGear z_spec_ggGear h_spec_ggGear k
/-! function 82 -/
noncomputable def r_spec_ggNear : List PK := [PK.mk (Ty.slice (3 : Nat) (Ty.int IntKind.i64)) false none false none]
noncomputable def q_spec_ggNear : List PK := [PK.mk (Ty.pair (Ty.int IntKind.i64) (Ty.pair (Ty.int IntKind.i64) (Ty.slice (78 : Nat) (Ty.pair (Ty.int IntKind.i64) (Ty.int IntKind.i64))))) true none false none, PK.mk (Ty.int IntKind.i64) false none false none]
noncomputable def to_spec_ggNear (r : List Int) : Tup r_spec_ggNear × OutD := ((r, ()), none)
noncomputable def of_spec_ggNear : Tup r_spec_ggNear × OutD → Option (List Int)
  | (a, none) => some (a.1)
  | _ => none
theorem to_of_spec_ggNear : ∀ b r, of_spec_ggNear b = some r → to_spec_ggNear r = b := by
  rintro ⟨a, o⟩ r h
  cases o with
  | none => injection h with h; subst h; rfl
  | some _ => cases h
noncomputable def f_spec_ggNear : Nat → Int × Int × List (Int × Int) → Int → Option (List Int)
  | 0, _, _ => none
  | k + 1, p0, p1 =>
    if Prod.fst (Prod.snd p0) = (0 : Int) then none else if Prod.fst (Prod.snd p0) = (0 : Int) then none else if decide (wrap64 (Int.tdiv p1 (Prod.fst (Prod.snd p0))) > (0 : Int)) = true then if decide (Int.tmod p1 (Prod.fst (Prod.snd p0)) > (0 : Int)) = true then if decide (wrap64 (Int.tmod p1 (Prod.fst (Prod.snd p0)) + (1 : Int)) < Prod.fst (Prod.snd p0)) = true then if decide (wrap64 (wrap64 (Int.tdiv p1 (Prod.fst (Prod.snd p0))) + (1 : Int)) < Prod.fst p0) = true then some ([wrap64 (p1 - Prod.fst (Prod.snd p0))] ++ [wrap64 (p1 - (1 : Int))] ++ [wrap64 (p1 + (1 : Int))] ++ [wrap64 (p1 + Prod.fst (Prod.snd p0))]) else some ([wrap64 (p1 - Prod.fst (Prod.snd p0))] ++ [wrap64 (p1 - (1 : Int))] ++ [wrap64 (p1 + (1 : Int))]) else if decide (wrap64 (wrap64 (Int.tdiv p1 (Prod.fst (Prod.snd p0))) + (1 : Int)) < Prod.fst p0) = true then some ([wrap64 (p1 - Prod.fst (Prod.snd p0))] ++ [wrap64 (p1 - (1 : Int))] ++ [wrap64 (p1 + Prod.fst (Prod.snd p0))]) else some ([wrap64 (p1 - Prod.fst (Prod.snd p0))] ++ [wrap64 (p1 - (1 : Int))]) else if decide (wrap64 (Int.tmod p1 (Prod.fst (Prod.snd p0)) + (1 : Int)) < Prod.fst (Prod.snd p0)) = true then if decide (wrap64 (wrap64 (Int.tdiv p1 (Prod.fst (Prod.snd p0))) + (1 : Int)) < Prod.fst p0) = true then some ([wrap64 (p1 - Prod.fst (Prod.snd p0))] ++ [wrap64 (p1 + (1 : Int))] ++ [wrap64 (p1 + Prod.fst (Prod.snd p0))]) else some ([wrap64 (p1 - Prod.fst (Prod.snd p0))] ++ [wrap64 (p1 + (1 : Int))]) else if decide (wrap64 (wrap64 (Int.tdiv p1 (Prod.fst (Prod.snd p0))) + (1 : Int)) < Prod.fst p0) = true then some ([wrap64 (p1 - Prod.fst (Prod.snd p0))] ++ [wrap64 (p1 + Prod.fst (Prod.snd p0))]) else some [wrap64 (p1 - Prod.fst (Prod.snd p0))] else if decide (Int.tmod p1 (Prod.fst (Prod.snd p0)) > (0 : Int)) = true then if decide (wrap64 (Int.tmod p1 (Prod.fst (Prod.snd p0)) + (1 : Int)) < Prod.fst (Prod.snd p0)) = true then if decide (wrap64 (wrap64 (Int.tdiv p1 (Prod.fst (Prod.snd p0))) + (1 : Int)) < Prod.fst p0) = true then some ([wrap64 (p1 - (1 : Int))] ++ [wrap64 (p1 + (1 : Int))] ++ [wrap64 (p1 + Prod.fst (Prod.snd p0))]) else some ([wrap64 (p1 - (1 : Int))] ++ [wrap64 (p1 + (1 : Int))]) else if decide (wrap64 (wrap64 (Int.tdiv p1 (Prod.fst (Prod.snd p0))) + (1 : Int)) < Prod.fst p0) = true then some ([wrap64 (p1 - (1 : Int))] ++ [wrap64 (p1 + Prod.fst (Prod.snd p0))]) else some [wrap64 (p1 - (1 : Int))] else if decide (wrap64 (Int.tmod p1 (Prod.fst (Prod.snd p0)) + (1 : Int)) < Prod.fst (Prod.snd p0)) = true then if decide (wrap64 (wrap64 (Int.tdiv p1 (Prod.fst (Prod.snd p0))) + (1 : Int)) < Prod.fst p0) = true then some ([wrap64 (p1 + (1 : Int))] ++ [wrap64 (p1 + Prod.fst (Prod.snd p0))]) else some [wrap64 (p1 + (1 : Int))] else if decide (wrap64 (wrap64 (Int.tdiv p1 (Prod.fst (Prod.snd p0))) + (1 : Int)) < Prod.fst p0) = true then some [wrap64 (p1 + Prod.fst (Prod.snd p0))] else some []
noncomputable def d_spec_ggNear : FnDef := .of q_spec_ggNear r_spec_ggNear (List Int) (fun k x => f_spec_ggNear k x.1 x.2.1) to_spec_ggNear of_spec_ggNear to_of_spec_ggNear
noncomputable def c_spec_ggNear : Code := Tryd.f82.body.getD .skip
noncomputable def x_spec_ggNear : Ctx (Tup r_spec_ggNear × OutD) := { T := T, G := [], mvs := [], no := 0, n := 55, res := resOf T q_spec_ggNear r_spec_ggNear Tryd.f82.results.toList, loops := [], regs := [], conds := [] }
theorem g_spec_ggNear (k : Nat) : EnvOK Tryd.prog k x_spec_ggNear.G := (EnvOK.nil mixed)
theorem h_spec_ggNear (k : Nat) (x : Tup d_spec_ggNear.ps) : d_spec_ggNear.f (k + 1) x = fnK d_spec_ggNear x_spec_ggNear c_spec_ggNear k x := by kernel_rfl
theorem z_spec_ggNear (x : Tup d_spec_ggNear.ps) : d_spec_ggNear.f 0 x = none := by kernel_rfl
theorem l_spec_ggNear (k : Nat) : LOK Tryd.prog x_spec_ggNear k c_spec_ggNear := LOK.by [] (by kernel_rfl) AllOK.nil
theorem s_spec_ggNear (k : Nat) : SoundAt Tryd.prog k 82 d_spec_ggNear.E := @fn_all Tryd.prog d_spec_ggNear x_spec_ggNear 82 Tryd.f82 c_spec_ggNear (by kernel_rfl) (by kernel_rfl) (by kernel_rfl) Tryd.func82 (by kernel_rfl) (by kernel_rfl) (by kernel_rfl) T_ok g_spec_ggNear l_spec_ggNear z_spec_ggNear h_spec_ggNear k
/-! function 83 -/
noncomputable def r_spec_boAt : List PK := [PK.mk (Ty.pair (Ty.int IntKind.i64) (Ty.int IntKind.i64)) true none false none]
noncomputable def q_spec_boAt : List PK := [PK.mk (Ty.pair (Ty.int IntKind.i64) (Ty.pair (Ty.int IntKind.i64) (Ty.slice (78 : Nat) (Ty.pair (Ty.int IntKind.i64) (Ty.int IntKind.i64))))) true none false none, PK.mk (Ty.int IntKind.i64) false none false none, PK.mk (Ty.int IntKind.i64) false none false none]
noncomputable def to_spec_boAt (r : Int × Int) : Tup r_spec_boAt × OutD := ((r, ()), none)
noncomputable def of_spec_boAt : Tup r_spec_boAt × OutD → Option (Int × Int)
  | (a, none) => some (a.1)
  | _ => none
theorem to_of_spec_boAt : ∀ b r, of_spec_boAt b = some r → to_spec_boAt r = b := by
  rintro ⟨a, o⟩ r h
  cases o with
  | none => injection h with h; subst h; rfl
  | some _ => cases h
noncomputable def f_spec_boAt : Nat → Int × Int × List (Int × Int) → Int → Int → Option (Int × Int)
  | 0, _, _, _ => none
  | k + 1, p0, p1, p2 =>
    if (0 : Int) ≤ wrap64 (wrap64 (p1 * Prod.fst (Prod.snd p0)) + p2) then if wrap64 (wrap64 (p1 * Prod.fst (Prod.snd p0)) + p2) < (↑(List.length (Prod.snd (Prod.snd p0))) : Int) then some (Prod.fst (List.getD (Prod.snd (Prod.snd p0)) (Int.toNat (wrap64 (wrap64 (p1 * Prod.fst (Prod.snd p0)) + p2))) ((0 : Int), (0 : Int))), Prod.snd (List.getD (Prod.snd (Prod.snd p0)) (Int.toNat (wrap64 (wrap64 (p1 * Prod.fst (Prod.snd p0)) + p2))) ((0 : Int), (0 : Int)))) else none else none
noncomputable def d_spec_boAt : FnDef := .of q_spec_boAt r_spec_boAt (Int × Int) (fun k x => f_spec_boAt k x.1 x.2.1 x.2.2.1) to_spec_boAt of_spec_boAt to_of_spec_boAt
noncomputable def c_spec_boAt : Code := Tryd.f83.body.getD .skip
noncomputable def x_spec_boAt : Ctx (Tup r_spec_boAt × OutD) := { T := T, G := [], mvs := [], no := 0, n := 17, res := resOf T q_spec_boAt r_spec_boAt Tryd.f83.results.toList, loops := [], regs := [], conds := [] }
theorem g_spec_boAt (k : Nat) : EnvOK Tryd.prog k x_spec_boAt.G := (EnvOK.nil mixed)
theorem h_spec_boAt (k : Nat) (x : Tup d_spec_boAt.ps) : d_spec_boAt.f (k + 1) x = fnK d_spec_boAt x_spec_boAt c_spec_boAt k x := by kernel_rfl
theorem z_spec_boAt (x : Tup d_spec_boAt.ps) : d_spec_boAt.f 0 x = none := by kernel_rfl
theorem l_spec_boAt (k : Nat) : LOK Tryd.prog x_spec_boAt k c_spec_boAt := LOK.by [] (by kernel_rfl) AllOK.nil
theorem s_spec_boAt (k : Nat) : SoundAt Tryd.prog k 83 d_spec_boAt.E := @fn_all Tryd.prog d_spec_boAt x_spec_boAt 83 Tryd.f83 c_spec_boAt (by kernel_rfl) (by kernel_rfl) (by kernel_rfl) Tryd.func83 (by kernel_rfl) (by kernel_rfl) (by kernel_rfl) T_ok g_spec_boAt l_spec_boAt z_spec_boAt h_spec_boAt k
/-! function 84 -/
noncomputable def r_spec_faAt : List PK := [PK.mk (Ty.int IntKind.i64) false none false none]
noncomputable def q_spec_faAt : List PK := [PK.mk (Ty.slice (26 : Nat) (Ty.pair (Ty.int IntKind.i64) (Ty.pair (Ty.int IntKind.i64) (Ty.int IntKind.i64)))) false none false none, PK.mk (Ty.int IntKind.i64) false none false none, PK.mk (Ty.int IntKind.i64) false none false none]
noncomputable def to_spec_faAt (r : Int) : Tup r_spec_faAt × OutD := ((r, ()), none)
noncomputable def of_spec_faAt : Tup r_spec_faAt × OutD → Option (Int)
  | (a, none) => some (a.1)
  | _ => none
theorem to_of_spec_faAt : ∀ b r, of_spec_faAt b = some r → to_spec_faAt r = b := by
  rintro ⟨a, o⟩ r h
  cases o with
  | none => injection h with h; subst h; rfl
  | some _ => cases h
noncomputable def f_spec_faAt_0 : Nat → Int → Int → List (Int × Int × Int) → Int → Int → Option (LR Unit Int)
  | 0, _, _, _, _, _ => none
  | k + 1, v1, v2, v9, v10, v11 =>
    if decide (v11 < v10) = true then if (0 : Int) ≤ v11 then if v11 < (↑(List.length v9) : Int) then if decide (Prod.fst (Prod.snd (List.getD v9 (Int.toNat v11) ((0 : Int), (0 : Int), (0 : Int)))) = v1) = true then if decide (Prod.snd (Prod.snd (List.getD v9 (Int.toNat v11) ((0 : Int), (0 : Int), (0 : Int)))) = v2) = true then some (LR.ret (Prod.fst (List.getD v9 (Int.toNat v11) ((0 : Int), (0 : Int), (0 : Int))))) else f_spec_faAt_0 k v1 v2 v9 v10 (wrap64 (v11 + (1 : Int))) else f_spec_faAt_0 k v1 v2 v9 v10 (wrap64 (v11 + (1 : Int))) else none else none else some (LR.go ())
noncomputable def f_spec_faAt_0i : Spec := Spec.mk [OSh.ro] [((1 : Nat), TSh.at (Sh.int IntKind.i64)), ((2 : Nat), TSh.at (Sh.int IntKind.i64)), ((9 : Nat), TSh.at (Sh.snap (0 : Nat) (Ty.pair (Ty.int IntKind.i64) (Ty.pair (Ty.int IntKind.i64) (Ty.int IntKind.i64))))), ((10 : Nat), TSh.at (Sh.int IntKind.i64)), ((11 : Nat), TSh.at (Sh.int IntKind.i64))]
noncomputable def f_spec_faAt_0o : Spec := Spec.mk [OSh.ro] []
noncomputable def f_spec_faAt_0D : LoopDef (Tup r_spec_faAt × OutD) := .rets f_spec_faAt_0i f_spec_faAt_0o (Unit) (Int) (fun k x => f_spec_faAt_0 k x.2.1 x.2.2.1 x.2.2.2.1 x.2.2.2.2.1 x.2.2.2.2.2.1) (fun z => (((), ()), (()))) (fun y => ()) (fun _ => rfl) to_spec_faAt of_spec_faAt to_of_spec_faAt
noncomputable def f_spec_faAt : Nat → List (Int × Int × Int) → Int → Int → Option Int
  | 0, _, _, _ => none
  | k + 1, p0, p1, p2 =>
    Option.bind (f_spec_faAt_0 k p1 p2 p0 (↑(List.length p0) : Int) (0 : Int)) fun z0 => LR.on z0 (fun y0 => some (0 : Int)) fun r0 => some r0
noncomputable def d_spec_faAt : FnDef := .of q_spec_faAt r_spec_faAt (Int) (fun k x => f_spec_faAt k x.1 x.2.1 x.2.2.1) to_spec_faAt of_spec_faAt to_of_spec_faAt
noncomputable def c_spec_faAt : Code := Tryd.f84.body.getD .skip
noncomputable def x_spec_faAt : Ctx (Tup r_spec_faAt × OutD) := { T := T, G := [], mvs := [], no := 0, n := 28, res := resOf T q_spec_faAt r_spec_faAt Tryd.f84.results.toList, loops := [(0, f_spec_faAt_0D.E)], regs := [], conds := [] }
theorem g_spec_faAt (k : Nat) : EnvOK Tryd.prog k x_spec_faAt.G := (EnvOK.nil mixed)
noncomputable def f_spec_faAt_0B : Code := (findLoop 0 c_spec_faAt).getD .skip
theorem f_spec_faAt_0h (k : Nat) (x : f_spec_faAt_0i.D) : f_spec_faAt_0D.lp (k + 1) x = loopK x_spec_faAt f_spec_faAt_0D 0 f_spec_faAt_0B k x := by kernel_rfl
theorem f_spec_faAt_0l (k : Nat) : LOK Tryd.prog x_spec_faAt k f_spec_faAt_0B := LOK.by [] (by kernel_rfl) AllOK.nil
theorem f_spec_faAt_0z (x : f_spec_faAt_0i.D) : f_spec_faAt_0D.lp 0 x = none := by kernel_rfl
theorem f_spec_faAt_0ok (k : Nat) : EOK Tryd.prog x_spec_faAt k f_spec_faAt_0D.E (.block 0 (.loop f_spec_faAt_0B)) := loop_ok T_ok g_spec_faAt f_spec_faAt_0z f_spec_faAt_0h f_spec_faAt_0l k
theorem h_spec_faAt (k : Nat) (x : Tup d_spec_faAt.ps) : d_spec_faAt.f (k + 1) x = fnK d_spec_faAt x_spec_faAt c_spec_faAt k x := by kernel_rfl
theorem z_spec_faAt (x : Tup d_spec_faAt.ps) : d_spec_faAt.f 0 x = none := by kernel_rfl
theorem l_spec_faAt (k : Nat) : LOK Tryd.prog x_spec_faAt k c_spec_faAt := LOK.by [(f_spec_faAt_0D.E, .block 0 (.loop f_spec_faAt_0B))] (by kernel_rfl) (AllOK.cons (f_spec_faAt_0ok k) AllOK.nil)
theorem s_spec_faAt (k : Nat) : SoundAt Tryd.prog k 84 d_spec_faAt.E := @fn_all Tryd.prog d_spec_faAt x_spec_faAt 84 Tryd.f84 c_spec_faAt (by kernel_rfl) (by kernel_rfl) (by kernel_rfl) Tryd.func84 (by kernel_rfl) (by kernel_rfl) (by kernel_rfl) T_ok g_spec_faAt l_spec_faAt z_spec_faAt h_spec_faAt k
/-! function 85 -/
noncomputable def r_spec_paGoes : List PK := [PK.mk (Ty.int IntKind.i64) false none false none]
noncomputable def q_spec_paGoes : List PK := [PK.mk (Ty.pair (Ty.int IntKind.i64) (Ty.int IntKind.i64)) true none false none, PK.mk (Ty.int IntKind.i64) false none false none]
noncomputable def to_spec_paGoes (r : Int) : Tup r_spec_paGoes × OutD := ((r, ()), none)
noncomputable def of_spec_paGoes : Tup r_spec_paGoes × OutD → Option (Int)
  | (a, none) => some (a.1)
  | _ => none
theorem to_of_spec_paGoes : ∀ b r, of_spec_paGoes b = some r → to_spec_paGoes r = b := by
  rintro ⟨a, o⟩ r h
  cases o with
  | none => injection h with h; subst h; rfl
  | some _ => cases h
noncomputable def f_spec_paGoes : Nat → Int × Int → Int → Option Int
  | 0, _, _ => none
  | k + 1, p0, p1 =>
    if decide (Prod.fst p0 = (1 : Int)) = true then some (-1 : Int) else if decide (Prod.fst p0 = (2 : Int)) = true then some (1 : Int) else if decide (Prod.fst p0 = (3 : Int)) = true then some (wrap64 (wrap64 ((2 : Int) * Prod.snd p0) - (1 : Int))) else if decide (Prod.fst p0 = (6 : Int)) = true then some (wrap64 (wrap64 ((2 : Int) * Prod.snd p0) - (1 : Int))) else if decide (Prod.fst p0 = (4 : Int)) = true then some (wrap64 ((0 : Int) - p1)) else some (0 : Int)
noncomputable def d_spec_paGoes : FnDef := .of q_spec_paGoes r_spec_paGoes (Int) (fun k x => f_spec_paGoes k x.1 x.2.1) to_spec_paGoes of_spec_paGoes to_of_spec_paGoes
noncomputable def c_spec_paGoes : Code := Tryd.f85.body.getD .skip
noncomputable def x_spec_paGoes : Ctx (Tup r_spec_paGoes × OutD) := { T := T, G := [], mvs := [], no := 0, n := 22, res := resOf T q_spec_paGoes r_spec_paGoes Tryd.f85.results.toList, loops := [], regs := [], conds := [] }
theorem g_spec_paGoes (k : Nat) : EnvOK Tryd.prog k x_spec_paGoes.G := (EnvOK.nil mixed)
theorem h_spec_paGoes (k : Nat) (x : Tup d_spec_paGoes.ps) : d_spec_paGoes.f (k + 1) x = fnK d_spec_paGoes x_spec_paGoes c_spec_paGoes k x := by kernel_rfl
theorem z_spec_paGoes (x : Tup d_spec_paGoes.ps) : d_spec_paGoes.f 0 x = none := by kernel_rfl
theorem l_spec_paGoes (k : Nat) : LOK Tryd.prog x_spec_paGoes k c_spec_paGoes := LOK.by [] (by kernel_rfl) AllOK.nil
theorem s_spec_paGoes (k : Nat) : SoundAt Tryd.prog k 85 d_spec_paGoes.E := @fn_all Tryd.prog d_spec_paGoes x_spec_paGoes 85 Tryd.f85 c_spec_paGoes (by kernel_rfl) (by kernel_rfl) (by kernel_rfl) Tryd.func85 (by kernel_rfl) (by kernel_rfl) (by kernel_rfl) T_ok g_spec_paGoes l_spec_paGoes z_spec_paGoes h_spec_paGoes k
/-! function 87 -/
noncomputable def r_impl_IsCell : List PK := [PK.mk Ty.bool false none false none]
noncomputable def q_impl_IsCell : List PK := [PK.mk (Ty.pair (Ty.int IntKind.i64) (Ty.int IntKind.i64)) true none false none]
noncomputable def to_impl_IsCell (r : Bool) : Tup r_impl_IsCell × OutD := ((r, ()), none)
noncomputable def of_impl_IsCell : Tup r_impl_IsCell × OutD → Option (Bool)
  | (a, none) => some (a.1)
  | _ => none
theorem to_of_impl_IsCell : ∀ b r, of_impl_IsCell b = some r → to_impl_IsCell r = b := by
  rintro ⟨a, o⟩ r h
  cases o with
  | none => injection h with h; subst h; rfl
  | some _ => cases h
noncomputable def f_impl_IsCell : Nat → Int × Int → Option Bool
  | 0, _ => none
  | k + 1, p0 =>
    if decide (Prod.fst p0 < (0 : Int)) = true then some false else if decide (Prod.fst p0 > (7 : Int)) = true then some false else if decide (Prod.snd p0 < (0 : Int)) = true then some false else if decide (Prod.snd p0 > (1 : Int)) = true then some false else if decide (Prod.snd p0 = (0 : Int)) = true then some true else if decide (Prod.fst p0 = (3 : Int)) = true then some true else some (decide (Prod.fst p0 = (6 : Int)))
noncomputable def d_impl_IsCell : FnDef := .of q_impl_IsCell r_impl_IsCell (Bool) (fun k x => f_impl_IsCell k x.1) to_impl_IsCell of_impl_IsCell to_of_impl_IsCell
noncomputable def c_impl_IsCell : Code := Tryd.f87.body.getD .skip
noncomputable def x_impl_IsCell : Ctx (Tup r_impl_IsCell × OutD) := { T := T, G := [], mvs := [], no := 0, n := 34, res := resOf T q_impl_IsCell r_impl_IsCell Tryd.f87.results.toList, loops := [], regs := [], conds := [] }
theorem g_impl_IsCell (k : Nat) : EnvOK Tryd.prog k x_impl_IsCell.G := (EnvOK.nil mixed)
theorem h_impl_IsCell (k : Nat) (x : Tup d_impl_IsCell.ps) : d_impl_IsCell.f (k + 1) x = fnK d_impl_IsCell x_impl_IsCell c_impl_IsCell k x := by kernel_rfl
theorem z_impl_IsCell (x : Tup d_impl_IsCell.ps) : d_impl_IsCell.f 0 x = none := by kernel_rfl
theorem l_impl_IsCell (k : Nat) : LOK Tryd.prog x_impl_IsCell k c_impl_IsCell := LOK.by [] (by kernel_rfl) AllOK.nil
theorem s_impl_IsCell (k : Nat) : SoundAt Tryd.prog k 87 d_impl_IsCell.E := @fn_all Tryd.prog d_impl_IsCell x_impl_IsCell 87 Tryd.f87 c_impl_IsCell (by kernel_rfl) (by kernel_rfl) (by kernel_rfl) Tryd.func87 (by kernel_rfl) (by kernel_rfl) (by kernel_rfl) T_ok g_impl_IsCell l_impl_IsCell z_impl_IsCell h_impl_IsCell k
/-! function 88 -/
noncomputable def r_impl_isGeared : List PK := [PK.mk Ty.bool false none false none]
noncomputable def q_impl_isGeared : List PK := [PK.mk (Ty.pair (Ty.int IntKind.i64) (Ty.int IntKind.i64)) true none false none]
noncomputable def to_impl_isGeared (r : Bool) : Tup r_impl_isGeared × OutD := ((r, ()), none)
noncomputable def of_impl_isGeared : Tup r_impl_isGeared × OutD → Option (Bool)
  | (a, none) => some (a.1)
  | _ => none
theorem to_of_impl_isGeared : ∀ b r, of_impl_isGeared b = some r → to_impl_isGeared r = b := by
  rintro ⟨a, o⟩ r h
  cases o with
  | none => injection h with h; subst h; rfl
  | some _ => cases h
noncomputable def f_impl_isGeared : Nat → Int × Int → Option Bool
  | 0, _ => none
  | k + 1, p0 =>
    if decide (Prod.fst p0 = (6 : Int)) = true then some true else some (decide (Prod.fst p0 = (7 : Int)))
noncomputable def d_impl_isGeared : FnDef := .of q_impl_isGeared r_impl_isGeared (Bool) (fun k x => f_impl_isGeared k x.1) to_impl_isGeared of_impl_isGeared to_of_impl_isGeared
noncomputable def c_impl_isGeared : Code := Tryd.f88.body.getD .skip
noncomputable def x_impl_isGeared : Ctx (Tup r_impl_isGeared × OutD) := { T := T, G := [], mvs := [], no := 0, n := 11, res := resOf T q_impl_isGeared r_impl_isGeared Tryd.f88.results.toList, loops := [], regs := [], conds := [] }
theorem g_impl_isGeared (k : Nat) : EnvOK Tryd.prog k x_impl_isGeared.G := (EnvOK.nil mixed)
theorem h_impl_isGeared (k : Nat) (x : Tup d_impl_isGeared.ps) : d_impl_isGeared.f (k + 1) x = fnK d_impl_isGeared x_impl_isGeared c_impl_isGeared k x := by kernel_rfl
theorem z_impl_isGeared (x : Tup d_impl_isGeared.ps) : d_impl_isGeared.f 0 x = none := by kernel_rfl
theorem l_impl_isGeared (k : Nat) : LOK Tryd.prog x_impl_isGeared k c_impl_isGeared := LOK.by [] (by kernel_rfl) AllOK.nil
theorem s_impl_isGeared (k : Nat) : SoundAt Tryd.prog k 88 d_impl_isGeared.E := @fn_all Tryd.prog d_impl_isGeared x_impl_isGeared 88 Tryd.f88 c_impl_isGeared (by kernel_rfl) (by kernel_rfl) (by kernel_rfl) Tryd.func88 (by kernel_rfl) (by kernel_rfl) (by kernel_rfl) T_ok g_impl_isGeared l_impl_isGeared z_impl_isGeared h_impl_isGeared k
/-! function 89 -/
noncomputable def r_impl_besideOf : List PK := [PK.mk (Ty.slice (3 : Nat) (Ty.int IntKind.i64)) false none false none]
noncomputable def q_impl_besideOf : List PK := [PK.mk (Ty.pair (Ty.int IntKind.i64) (Ty.pair (Ty.int IntKind.i64) (Ty.slice (78 : Nat) (Ty.pair (Ty.int IntKind.i64) (Ty.int IntKind.i64))))) true none false none, PK.mk (Ty.int IntKind.i64) false none false none]
noncomputable def to_impl_besideOf (r : List Int) : Tup r_impl_besideOf × OutD := ((r, ()), none)
noncomputable def of_impl_besideOf : Tup r_impl_besideOf × OutD → Option (List Int)
  | (a, none) => some (a.1)
  | _ => none
theorem to_of_impl_besideOf : ∀ b r, of_impl_besideOf b = some r → to_impl_besideOf r = b := by
  rintro ⟨a, o⟩ r h
  cases o with
  | none => injection h with h; subst h; rfl
  | some _ => cases h
noncomputable def f_impl_besideOf : Nat → Int × Int × List (Int × Int) → Int → Option (List Int)
  | 0, _, _ => none
  | k + 1, p0, p1 =>
    if Prod.fst (Prod.snd p0) = (0 : Int) then none else if Prod.fst (Prod.snd p0) = (0 : Int) then none else if decide (wrap64 (Int.tdiv p1 (Prod.fst (Prod.snd p0))) > (0 : Int)) = true then if decide (Int.tmod p1 (Prod.fst (Prod.snd p0)) > (0 : Int)) = true then if decide (wrap64 (Int.tmod p1 (Prod.fst (Prod.snd p0)) + (1 : Int)) < Prod.fst (Prod.snd p0)) = true then if decide (wrap64 (wrap64 (Int.tdiv p1 (Prod.fst (Prod.snd p0))) + (1 : Int)) < Prod.fst p0) = true then some ([wrap64 (p1 - Prod.fst (Prod.snd p0))] ++ [wrap64 (p1 - (1 : Int))] ++ [wrap64 (p1 + (1 : Int))] ++ [wrap64 (p1 + Prod.fst (Prod.snd p0))]) else some ([wrap64 (p1 - Prod.fst (Prod.snd p0))] ++ [wrap64 (p1 - (1 : Int))] ++ [wrap64 (p1 + (1 : Int))]) else if decide (wrap64 (wrap64 (Int.tdiv p1 (Prod.fst (Prod.snd p0))) + (1 : Int)) < Prod.fst p0) = true then some ([wrap64 (p1 - Prod.fst (Prod.snd p0))] ++ [wrap64 (p1 - (1 : Int))] ++ [wrap64 (p1 + Prod.fst (Prod.snd p0))]) else some ([wrap64 (p1 - Prod.fst (Prod.snd p0))] ++ [wrap64 (p1 - (1 : Int))]) else if decide (wrap64 (Int.tmod p1 (Prod.fst (Prod.snd p0)) + (1 : Int)) < Prod.fst (Prod.snd p0)) = true then if decide (wrap64 (wrap64 (Int.tdiv p1 (Prod.fst (Prod.snd p0))) + (1 : Int)) < Prod.fst p0) = true then some ([wrap64 (p1 - Prod.fst (Prod.snd p0))] ++ [wrap64 (p1 + (1 : Int))] ++ [wrap64 (p1 + Prod.fst (Prod.snd p0))]) else some ([wrap64 (p1 - Prod.fst (Prod.snd p0))] ++ [wrap64 (p1 + (1 : Int))]) else if decide (wrap64 (wrap64 (Int.tdiv p1 (Prod.fst (Prod.snd p0))) + (1 : Int)) < Prod.fst p0) = true then some ([wrap64 (p1 - Prod.fst (Prod.snd p0))] ++ [wrap64 (p1 + Prod.fst (Prod.snd p0))]) else some [wrap64 (p1 - Prod.fst (Prod.snd p0))] else if decide (Int.tmod p1 (Prod.fst (Prod.snd p0)) > (0 : Int)) = true then if decide (wrap64 (Int.tmod p1 (Prod.fst (Prod.snd p0)) + (1 : Int)) < Prod.fst (Prod.snd p0)) = true then if decide (wrap64 (wrap64 (Int.tdiv p1 (Prod.fst (Prod.snd p0))) + (1 : Int)) < Prod.fst p0) = true then some ([wrap64 (p1 - (1 : Int))] ++ [wrap64 (p1 + (1 : Int))] ++ [wrap64 (p1 + Prod.fst (Prod.snd p0))]) else some ([wrap64 (p1 - (1 : Int))] ++ [wrap64 (p1 + (1 : Int))]) else if decide (wrap64 (wrap64 (Int.tdiv p1 (Prod.fst (Prod.snd p0))) + (1 : Int)) < Prod.fst p0) = true then some ([wrap64 (p1 - (1 : Int))] ++ [wrap64 (p1 + Prod.fst (Prod.snd p0))]) else some [wrap64 (p1 - (1 : Int))] else if decide (wrap64 (Int.tmod p1 (Prod.fst (Prod.snd p0)) + (1 : Int)) < Prod.fst (Prod.snd p0)) = true then if decide (wrap64 (wrap64 (Int.tdiv p1 (Prod.fst (Prod.snd p0))) + (1 : Int)) < Prod.fst p0) = true then some ([wrap64 (p1 + (1 : Int))] ++ [wrap64 (p1 + Prod.fst (Prod.snd p0))]) else some [wrap64 (p1 + (1 : Int))] else if decide (wrap64 (wrap64 (Int.tdiv p1 (Prod.fst (Prod.snd p0))) + (1 : Int)) < Prod.fst p0) = true then some [wrap64 (p1 + Prod.fst (Prod.snd p0))] else some []
noncomputable def d_impl_besideOf : FnDef := .of q_impl_besideOf r_impl_besideOf (List Int) (fun k x => f_impl_besideOf k x.1 x.2.1) to_impl_besideOf of_impl_besideOf to_of_impl_besideOf
noncomputable def c_impl_besideOf : Code := Tryd.f89.body.getD .skip
noncomputable def x_impl_besideOf : Ctx (Tup r_impl_besideOf × OutD) := { T := T, G := [], mvs := [], no := 0, n := 56, res := resOf T q_impl_besideOf r_impl_besideOf Tryd.f89.results.toList, loops := [], regs := [], conds := [] }
theorem g_impl_besideOf (k : Nat) : EnvOK Tryd.prog k x_impl_besideOf.G := (EnvOK.nil mixed)
theorem h_impl_besideOf (k : Nat) (x : Tup d_impl_besideOf.ps) : d_impl_besideOf.f (k + 1) x = fnK d_impl_besideOf x_impl_besideOf c_impl_besideOf k x := by kernel_rfl
theorem z_impl_besideOf (x : Tup d_impl_besideOf.ps) : d_impl_besideOf.f 0 x = none := by kernel_rfl
theorem l_impl_besideOf (k : Nat) : LOK Tryd.prog x_impl_besideOf k c_impl_besideOf := LOK.by [] (by kernel_rfl) AllOK.nil
theorem s_impl_besideOf (k : Nat) : SoundAt Tryd.prog k 89 d_impl_besideOf.E := @fn_all Tryd.prog d_impl_besideOf x_impl_besideOf 89 Tryd.f89 c_impl_besideOf (by kernel_rfl) (by kernel_rfl) (by kernel_rfl) Tryd.func89 (by kernel_rfl) (by kernel_rfl) (by kernel_rfl) T_ok g_impl_besideOf l_impl_besideOf z_impl_besideOf h_impl_besideOf k
/-! function 91 -/
noncomputable def r_impl_turnFaulty : List PK := []
noncomputable def q_impl_turnFaulty : List PK := [PK.mk (Ty.pair (Ty.int IntKind.i64) (Ty.pair (Ty.int IntKind.i64) (Ty.slice (78 : Nat) (Ty.pair (Ty.int IntKind.i64) (Ty.int IntKind.i64))))) true (some ((2 : Nat), (78 : Nat), Ty.pair (Ty.int IntKind.i64) (Ty.int IntKind.i64))) false none, PK.mk (Ty.slice (3 : Nat) (Ty.int IntKind.i64)) false none false none, PK.mk (Ty.slice (3 : Nat) (Ty.int IntKind.i64)) false none false none, PK.mk (Ty.int IntKind.i64) false none false none]
noncomputable def to_impl_turnFaulty (r : List (Int × Int)) : Tup r_impl_turnFaulty × OutD := ((()), some ⟨Ty.pair (Ty.int IntKind.i64) (Ty.int IntKind.i64), r⟩)
noncomputable def of_impl_turnFaulty : Tup r_impl_turnFaulty × OutD → Option (List (Int × Int))
  | (a, some ⟨u, ys⟩) => if h : u = Ty.pair (Ty.int IntKind.i64) (Ty.int IntKind.i64) then some (castU h ys) else none
  | _ => none
theorem to_of_impl_turnFaulty : ∀ b r, of_impl_turnFaulty b = some r → to_impl_turnFaulty r = b := by
  rintro ⟨a, o⟩ r h
  cases o with
  | none => cases h
  | some s =>
    obtain ⟨u, ys⟩ := s
    simp only [of_impl_turnFaulty] at h
    split at h
    · rename_i hu; subst hu; injection h with h; subst h; rfl
    · cases h
noncomputable def f_impl_turnFaulty_0 : Nat → List (Int × Int) → Int → Int → List Int → List Int → Int → Int → Int → Option (List (Int × Int))
  | 0, _, _, _, _, _, _, _, _ => none
  | k + 1, o1, b2_0, b2_1, v1, v2, v3, v12, v13 =>
    if decide (v13 < v12) = true then if decide (v13 = v3) = true then if (0 : Int) ≤ v13 then if v13 < (↑(List.length v2) : Int) then if decide (List.getD v2 (Int.toNat v13) (0 : Int) ≠ (1 : Int)) = true then if (0 : Int) ≤ v13 then if v13 < (↑(List.length o1) : Int) then if (0 : Int) ≤ v13 then if v13 < (↑(List.length o1) : Int) then f_impl_turnFaulty_0 k (List.set o1 (Int.toNat v13) (Prod.fst (List.getD o1 (Int.toNat v13) ((0 : Int), (0 : Int))), wrap64 ((1 : Int) - Prod.snd (List.getD o1 (Int.toNat v13) ((0 : Int), (0 : Int)))))) b2_0 b2_1 v1 v2 v3 v12 (wrap64 (v13 + (1 : Int))) else none else none else none else none else f_impl_turnFaulty_0 k o1 b2_0 b2_1 v1 v2 v3 v12 (wrap64 (v13 + (1 : Int))) else none else none else if (0 : Int) ≤ v3 then if v3 < (↑(List.length o1) : Int) then if decide (Prod.fst (List.getD o1 (Int.toNat v3) ((0 : Int), (0 : Int))) = (6 : Int)) = true then if (0 : Int) ≤ v13 then if v13 < (↑(List.length o1) : Int) then if decide (Prod.fst (List.getD o1 (Int.toNat v13) ((0 : Int), (0 : Int))) = (6 : Int)) = true then if (0 : Int) ≤ v13 then if v13 < (↑(List.length v1) : Int) then if (0 : Int) ≤ v3 then if v3 < (↑(List.length v1) : Int) then if decide (List.getD v1 (Int.toNat v13) (0 : Int) = List.getD v1 (Int.toNat v3) (0 : Int)) = true then if (0 : Int) ≤ v13 then if v13 < (↑(List.length v2) : Int) then if decide (List.getD v2 (Int.toNat v13) (0 : Int) ≠ (1 : Int)) = true then if (0 : Int) ≤ v13 then if v13 < (↑(List.length o1) : Int) then if (0 : Int) ≤ v13 then if v13 < (↑(List.length o1) : Int) then f_impl_turnFaulty_0 k (List.set o1 (Int.toNat v13) (Prod.fst (List.getD o1 (Int.toNat v13) ((0 : Int), (0 : Int))), wrap64 ((1 : Int) - Prod.snd (List.getD o1 (Int.toNat v13) ((0 : Int), (0 : Int)))))) b2_0 b2_1 v1 v2 v3 v12 (wrap64 (v13 + (1 : Int))) else none else none else none else none else f_impl_turnFaulty_0 k o1 b2_0 b2_1 v1 v2 v3 v12 (wrap64 (v13 + (1 : Int))) else none else none else f_impl_turnFaulty_0 k o1 b2_0 b2_1 v1 v2 v3 v12 (wrap64 (v13 + (1 : Int))) else none else none else none else none else f_impl_turnFaulty_0 k o1 b2_0 b2_1 v1 v2 v3 v12 (wrap64 (v13 + (1 : Int))) else none else none else f_impl_turnFaulty_0 k o1 b2_0 b2_1 v1 v2 v3 v12 (wrap64 (v13 + (1 : Int))) else none else none else some o1
noncomputable def f_impl_turnFaulty_0i : Spec := Spec.mk [OSh.ro, OSh.row false (78 : Nat) (Ty.pair (Ty.int IntKind.i64) (Ty.int IntKind.i64)), OSh.box (43 : Nat) [Sh.int IntKind.i64, Sh.int IntKind.i64, Sh.sl (1 : Nat)]] [((1 : Nat), TSh.at (Sh.snap (0 : Nat) (Ty.int IntKind.i64))), ((2 : Nat), TSh.at (Sh.snap (0 : Nat) (Ty.int IntKind.i64))), ((3 : Nat), TSh.at (Sh.int IntKind.i64)), ((4 : Nat), TSh.at (Sh.ptr (2 : Nat) (0 : Nat))), ((12 : Nat), TSh.at (Sh.int IntKind.i64)), ((13 : Nat), TSh.at (Sh.int IntKind.i64))]
noncomputable def f_impl_turnFaulty_0o : Spec := Spec.mk [OSh.ro, OSh.row false (78 : Nat) (Ty.pair (Ty.int IntKind.i64) (Ty.int IntKind.i64))] []
noncomputable def f_impl_turnFaulty_0D : LoopDef (Tup r_impl_turnFaulty × OutD) := .plain f_impl_turnFaulty_0i f_impl_turnFaulty_0o (List (Int × Int)) (fun k x => f_impl_turnFaulty_0 k x.1.2.1 x.1.2.2.1.1 x.1.2.2.1.2.1 x.2.1 x.2.2.1 x.2.2.2.1 x.2.2.2.2.2.1 x.2.2.2.2.2.2.1) (fun z => (((), z, ()), (()))) (fun y => (y.1.2.1)) (fun _ => rfl)
noncomputable def f_impl_turnFaulty : Nat → Int × Int × List (Int × Int) → List Int → List Int → Int → Option (List (Int × Int))
  | 0, _, _, _, _ => none
  | k + 1, p0, p1, p2, p3 =>
    Option.bind (f_impl_turnFaulty_0 k (Prod.snd (Prod.snd p0)) (Prod.fst p0) (Prod.fst (Prod.snd p0)) p1 p2 p3 (↑(List.length (Prod.snd (Prod.snd p0))) : Int) (0 : Int)) fun z0 => some z0
noncomputable def d_impl_turnFaulty : FnDef := .of q_impl_turnFaulty r_impl_turnFaulty (List (Int × Int)) (fun k x => f_impl_turnFaulty k x.1 x.2.1 x.2.2.1 x.2.2.2.1) to_impl_turnFaulty of_impl_turnFaulty to_of_impl_turnFaulty
noncomputable def c_impl_turnFaulty : Code := Tryd.f91.body.getD .skip
noncomputable def x_impl_turnFaulty : Ctx (Tup r_impl_turnFaulty × OutD) := { T := T, G := [], mvs := [], no := 1, n := 69, res := resOf T q_impl_turnFaulty r_impl_turnFaulty Tryd.f91.results.toList, loops := [(0, f_impl_turnFaulty_0D.E)], regs := [], conds := [] }
theorem g_impl_turnFaulty (k : Nat) : EnvOK Tryd.prog k x_impl_turnFaulty.G := (EnvOK.nil mixed)
noncomputable def f_impl_turnFaulty_0B : Code := (findLoop 0 c_impl_turnFaulty).getD .skip
theorem f_impl_turnFaulty_0h (k : Nat) (x : f_impl_turnFaulty_0i.D) : f_impl_turnFaulty_0D.lp (k + 1) x = loopK x_impl_turnFaulty f_impl_turnFaulty_0D 0 f_impl_turnFaulty_0B k x := by kernel_rfl
theorem f_impl_turnFaulty_0l (k : Nat) : LOK Tryd.prog x_impl_turnFaulty k f_impl_turnFaulty_0B := LOK.by [] (by kernel_rfl) AllOK.nil
theorem f_impl_turnFaulty_0z (x : f_impl_turnFaulty_0i.D) : f_impl_turnFaulty_0D.lp 0 x = none := by kernel_rfl
theorem f_impl_turnFaulty_0ok (k : Nat) : EOK Tryd.prog x_impl_turnFaulty k f_impl_turnFaulty_0D.E (.block 0 (.loop f_impl_turnFaulty_0B)) := loop_ok T_ok g_impl_turnFaulty f_impl_turnFaulty_0z f_impl_turnFaulty_0h f_impl_turnFaulty_0l k
theorem h_impl_turnFaulty (k : Nat) (x : Tup d_impl_turnFaulty.ps) : d_impl_turnFaulty.f (k + 1) x = fnK d_impl_turnFaulty x_impl_turnFaulty c_impl_turnFaulty k x := by kernel_rfl
theorem z_impl_turnFaulty (x : Tup d_impl_turnFaulty.ps) : d_impl_turnFaulty.f 0 x = none := by kernel_rfl
theorem l_impl_turnFaulty (k : Nat) : LOK Tryd.prog x_impl_turnFaulty k c_impl_turnFaulty := LOK.by [(f_impl_turnFaulty_0D.E, .block 0 (.loop f_impl_turnFaulty_0B))] (by kernel_rfl) (AllOK.cons (f_impl_turnFaulty_0ok k) AllOK.nil)
theorem s_impl_turnFaulty (k : Nat) : SoundAt Tryd.prog k 91 d_impl_turnFaulty.E := @fn_all Tryd.prog d_impl_turnFaulty x_impl_turnFaulty 91 Tryd.f91 c_impl_turnFaulty (by kernel_rfl) (by kernel_rfl) (by kernel_rfl) Tryd.func91 (by kernel_rfl) (by kernel_rfl) (by kernel_rfl) T_ok g_impl_turnFaulty l_impl_turnFaulty z_impl_turnFaulty h_impl_turnFaulty k
/-! function 94 -/
noncomputable def r_spec_paTurn : List PK := [PK.mk (Ty.pair (Ty.int IntKind.i64) (Ty.int IntKind.i64)) true none false none]
noncomputable def q_spec_paTurn : List PK := [PK.mk (Ty.pair (Ty.int IntKind.i64) (Ty.int IntKind.i64)) true none false none]
noncomputable def to_spec_paTurn (r : Int × Int) : Tup r_spec_paTurn × OutD := ((r, ()), none)
noncomputable def of_spec_paTurn : Tup r_spec_paTurn × OutD → Option (Int × Int)
  | (a, none) => some (a.1)
  | _ => none
theorem to_of_spec_paTurn : ∀ b r, of_spec_paTurn b = some r → to_spec_paTurn r = b := by
  rintro ⟨a, o⟩ r h
  cases o with
  | none => injection h with h; subst h; rfl
  | some _ => cases h
noncomputable def f_spec_paTurn : Nat → Int × Int → Option (Int × Int)
  | 0, _ => none
  | k + 1, p0 =>
    some (Prod.fst p0, wrap64 ((1 : Int) - Prod.snd p0))
noncomputable def d_spec_paTurn : FnDef := .of q_spec_paTurn r_spec_paTurn (Int × Int) (fun k x => f_spec_paTurn k x.1) to_spec_paTurn of_spec_paTurn to_of_spec_paTurn
noncomputable def c_spec_paTurn : Code := Tryd.f94.body.getD .skip
noncomputable def x_spec_paTurn : Ctx (Tup r_spec_paTurn × OutD) := { T := T, G := [], mvs := [], no := 0, n := 9, res := resOf T q_spec_paTurn r_spec_paTurn Tryd.f94.results.toList, loops := [], regs := [], conds := [] }
theorem g_spec_paTurn (k : Nat) : EnvOK Tryd.prog k x_spec_paTurn.G := (EnvOK.nil mixed)
theorem h_spec_paTurn (k : Nat) (x : Tup d_spec_paTurn.ps) : d_spec_paTurn.f (k + 1) x = fnK d_spec_paTurn x_spec_paTurn c_spec_paTurn k x := by kernel_rfl
theorem z_spec_paTurn (x : Tup d_spec_paTurn.ps) : d_spec_paTurn.f 0 x = none := by kernel_rfl
theorem l_spec_paTurn (k : Nat) : LOK Tryd.prog x_spec_paTurn k c_spec_paTurn := LOK.by [] (by kernel_rfl) AllOK.nil
theorem s_spec_paTurn (k : Nat) : SoundAt Tryd.prog k 94 d_spec_paTurn.E := @fn_all Tryd.prog d_spec_paTurn x_spec_paTurn 94 Tryd.f94 c_spec_paTurn (by kernel_rfl) (by kernel_rfl) (by kernel_rfl) Tryd.func94 (by kernel_rfl) (by kernel_rfl) (by kernel_rfl) T_ok g_spec_paTurn l_spec_paTurn z_spec_paTurn h_spec_paTurn k
end
end Go.Proofs.YtkmbhhgibgocpaaDoor.Vs
