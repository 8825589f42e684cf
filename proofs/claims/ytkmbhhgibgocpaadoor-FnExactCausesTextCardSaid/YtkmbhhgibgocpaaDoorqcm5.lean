/- The proof, part 6. -/
import Derived.Test.YtkmbhhgibgocpaaDoorqcm4
set_option maxRecDepth 100000
set_option maxHeartbeats 2000000
set_option linter.unusedVariables false
set_option linter.unusedSimpArgs false
namespace Go.Proofs.YtkmbhhgibgocpaaDoor.Vs
open Go.RowKit
noncomputable section
/-! function 12 -/
noncomputable def r_laws_szBoard : List PK := [PK.mk (Ty.int IntKind.i64) false none false none]
noncomputable def q_laws_szBoard : List PK := [PK.mk (Ty.pair (Ty.int IntKind.i64) (Ty.pair (Ty.int IntKind.i64) (Ty.slice (80 : Nat) (Ty.pair (Ty.int IntKind.i64) (Ty.int IntKind.i64))))) true none false none, PK.mk (Ty.int IntKind.i64) false none false none]
noncomputable def to_laws_szBoard (r : Int) : Tup r_laws_szBoard × OutD := ((r, ()), none)
noncomputable def of_laws_szBoard : Tup r_laws_szBoard × OutD → Option (Int)
  | (a, none) => some (a.1)
  | _ => none
theorem to_of_laws_szBoard : ∀ b r, of_laws_szBoard b = some r → to_laws_szBoard r = b := by
  rintro ⟨a, o⟩ r h
  cases o with
  | none => injection h with h; subst h; rfl
  | some _ => cases h
noncomputable def f_laws_szBoard : Nat → Int × Int × List (Int × Int) → Int → Option Int
  | 0, _, _ => none
  | k + 1, p0, p1 =>
    Option.bind (f_laws_szCellS k (Prod.snd (Prod.snd p0)) p1) fun z0 => if decide (z0 < (0 : Int)) = true then some (-1 : Int) else some z0
noncomputable def d_laws_szBoard : FnDef := .of q_laws_szBoard r_laws_szBoard (Int) (fun k x => f_laws_szBoard k x.1 x.2.1) to_laws_szBoard of_laws_szBoard to_of_laws_szBoard
noncomputable def c_laws_szBoard : Code := Tryd.f12.body.getD .skip
noncomputable def x_laws_szBoard : Ctx (Tup r_laws_szBoard × OutD) := { T := T, G := [(29, d_laws_szCellS.E)], mvs := [], no := 0, n := 12, res := resOf T q_laws_szBoard r_laws_szBoard Tryd.f12.results.toList, loops := [], regs := [], conds := [] }
theorem g_laws_szBoard (k : Nat) : EnvOK Tryd.prog k x_laws_szBoard.G := (EnvOK.cons (s_laws_szCellS k) (EnvOK.nil mixed))
theorem h_laws_szBoard (k : Nat) (x : Tup d_laws_szBoard.ps) : d_laws_szBoard.f (k + 1) x = fnK d_laws_szBoard x_laws_szBoard c_laws_szBoard k x := by kernel_rfl
theorem z_laws_szBoard (x : Tup d_laws_szBoard.ps) : d_laws_szBoard.f 0 x = none := by kernel_rfl
theorem l_laws_szBoard (k : Nat) : LOK Tryd.prog x_laws_szBoard k c_laws_szBoard := LOK.by [] (by kernel_rfl) AllOK.nil
theorem s_laws_szBoard (k : Nat) : SoundAt Tryd.prog k 12 d_laws_szBoard.E := @fn_all Tryd.prog d_laws_szBoard x_laws_szBoard 12 Tryd.f12 c_laws_szBoard (by kernel_rfl) (by kernel_rfl) (by kernel_rfl) Tryd.func12 (by kernel_rfl) (by kernel_rfl) (by kernel_rfl) T_ok g_laws_szBoard l_laws_szBoard z_laws_szBoard h_laws_szBoard k
/-! function 17 -/
noncomputable def r_laws_toFallS : List PK := [PK.mk (Ty.slice (67 : Nat) (Ty.pair (Ty.int IntKind.i64) (Ty.pair (Ty.int IntKind.i64) (Ty.int IntKind.i64)))) false none false none]
noncomputable def q_laws_toFallS : List PK := [PK.mk (Ty.slice (69 : Nat) (Ty.pair (Ty.int IntKind.i64) (Ty.pair (Ty.int IntKind.i64) (Ty.int IntKind.i64)))) false none false none]
noncomputable def to_laws_toFallS (r : List (Int × Int × Int)) : Tup r_laws_toFallS × OutD := ((r, ()), none)
noncomputable def of_laws_toFallS : Tup r_laws_toFallS × OutD → Option (List (Int × Int × Int))
  | (a, none) => some (a.1)
  | _ => none
theorem to_of_laws_toFallS : ∀ b r, of_laws_toFallS b = some r → to_laws_toFallS r = b := by
  rintro ⟨a, o⟩ r h
  cases o with
  | none => injection h with h; subst h; rfl
  | some _ => cases h
noncomputable def f_laws_toFallS_0 : Nat → List (Int × Int × Int) → List (Int × Int × Int) → Int → Option (List (Int × Int × Int))
  | 0, _, _, _ => none
  | k + 1, o1, v0, v4 =>
    if decide (v4 < (↑(List.length v0) : Int)) = true then if (0 : Int) ≤ v4 then if v4 < (↑(List.length v0) : Int) then Option.bind (f_laws_toFall k (Prod.fst (List.getD v0 (Int.toNat v4) ((0 : Int), (0 : Int), (0 : Int))), Prod.fst (Prod.snd (List.getD v0 (Int.toNat v4) ((0 : Int), (0 : Int), (0 : Int)))), Prod.snd (Prod.snd (List.getD v0 (Int.toNat v4) ((0 : Int), (0 : Int), (0 : Int)))))) fun z0 => if (0 : Int) ≤ v4 then if v4 < (↑(List.length o1) : Int) then f_laws_toFallS_0 k (List.set o1 (Int.toNat v4) (Prod.fst z0, Prod.fst (Prod.snd z0), Prod.snd (Prod.snd z0))) v0 (wrap64 (v4 + (1 : Int))) else none else none else none else none else some o1
noncomputable def f_laws_toFallS_0i : Spec := Spec.mk [OSh.ro, OSh.row true (67 : Nat) (Ty.pair (Ty.int IntKind.i64) (Ty.pair (Ty.int IntKind.i64) (Ty.int IntKind.i64)))] [((0 : Nat), TSh.at (Sh.snap (0 : Nat) (Ty.pair (Ty.int IntKind.i64) (Ty.pair (Ty.int IntKind.i64) (Ty.int IntKind.i64))))), ((3 : Nat), TSh.at (Sh.sl (1 : Nat))), ((4 : Nat), TSh.at (Sh.int IntKind.i64))]
noncomputable def f_laws_toFallS_0o : Spec := Spec.mk [OSh.ro, OSh.row true (67 : Nat) (Ty.pair (Ty.int IntKind.i64) (Ty.pair (Ty.int IntKind.i64) (Ty.int IntKind.i64)))] [((3 : Nat), TSh.at (Sh.sl (1 : Nat)))]
noncomputable def f_laws_toFallS_0D : LoopDef (Tup r_laws_toFallS × OutD) := .plain f_laws_toFallS_0i f_laws_toFallS_0o (List (Int × Int × Int)) (fun k x => f_laws_toFallS_0 k x.1.2.1 x.2.1 x.2.2.2.1) (fun z => (((), z, ()), ((), ()))) (fun y => (y.1.2.1)) (fun _ => rfl)
noncomputable def f_laws_toFallS : Nat → List (Int × Int × Int) → Option (List (Int × Int × Int))
  | 0, _ => none
  | k + 1, p0 =>
    if Int.toNat (↑(List.length p0) : Int) * (24 : Nat) ≤ (281474976710656 : Nat) then Option.bind (f_laws_toFallS_0 k (List.replicate (Int.toNat (↑(List.length p0) : Int)) ((0 : Int), (0 : Int), (0 : Int))) p0 (0 : Int)) fun z1 => some z1 else none
noncomputable def d_laws_toFallS : FnDef := .of q_laws_toFallS r_laws_toFallS (List (Int × Int × Int)) (fun k x => f_laws_toFallS k x.1) to_laws_toFallS of_laws_toFallS to_of_laws_toFallS
noncomputable def c_laws_toFallS : Code := Tryd.f17.body.getD .skip
noncomputable def x_laws_toFallS : Ctx (Tup r_laws_toFallS × OutD) := { T := T, G := [(33, d_laws_toFall.E)], mvs := [], no := 0, n := 23, res := resOf T q_laws_toFallS r_laws_toFallS Tryd.f17.results.toList, loops := [(0, f_laws_toFallS_0D.E)], regs := [], conds := [] }
theorem g_laws_toFallS (k : Nat) : EnvOK Tryd.prog k x_laws_toFallS.G := (EnvOK.cons (s_laws_toFall k) (EnvOK.nil mixed))
noncomputable def f_laws_toFallS_0B : Code := (findLoop 0 c_laws_toFallS).getD .skip
theorem f_laws_toFallS_0h (k : Nat) (x : f_laws_toFallS_0i.D) : f_laws_toFallS_0D.lp (k + 1) x = loopK x_laws_toFallS f_laws_toFallS_0D 0 f_laws_toFallS_0B k x := by kernel_rfl
theorem f_laws_toFallS_0l (k : Nat) : LOK Tryd.prog x_laws_toFallS k f_laws_toFallS_0B := LOK.by [] (by kernel_rfl) AllOK.nil
theorem f_laws_toFallS_0z (x : f_laws_toFallS_0i.D) : f_laws_toFallS_0D.lp 0 x = none := by kernel_rfl
theorem f_laws_toFallS_0ok (k : Nat) : EOK Tryd.prog x_laws_toFallS k f_laws_toFallS_0D.E (.block 0 (.loop f_laws_toFallS_0B)) := loop_ok T_ok g_laws_toFallS f_laws_toFallS_0z f_laws_toFallS_0h f_laws_toFallS_0l k
theorem h_laws_toFallS (k : Nat) (x : Tup d_laws_toFallS.ps) : d_laws_toFallS.f (k + 1) x = fnK d_laws_toFallS x_laws_toFallS c_laws_toFallS k x := by kernel_rfl
theorem z_laws_toFallS (x : Tup d_laws_toFallS.ps) : d_laws_toFallS.f 0 x = none := by kernel_rfl
theorem l_laws_toFallS (k : Nat) : LOK Tryd.prog x_laws_toFallS k c_laws_toFallS := LOK.by [(f_laws_toFallS_0D.E, .block 0 (.loop f_laws_toFallS_0B))] (by kernel_rfl) (AllOK.cons (f_laws_toFallS_0ok k) AllOK.nil)
theorem s_laws_toFallS (k : Nat) : SoundAt Tryd.prog k 17 d_laws_toFallS.E := @fn_all Tryd.prog d_laws_toFallS x_laws_toFallS 17 Tryd.f17 c_laws_toFallS (by kernel_rfl) (by kernel_rfl) (by kernel_rfl) Tryd.func17 (by kernel_rfl) (by kernel_rfl) (by kernel_rfl) T_ok g_laws_toFallS l_laws_toFallS z_laws_toFallS h_laws_toFallS k
/-! function 21 -/
noncomputable def r_laws_eqFallS : List PK := [PK.mk Ty.bool false none false none]
noncomputable def q_laws_eqFallS : List PK := [PK.mk (Ty.slice (67 : Nat) (Ty.pair (Ty.int IntKind.i64) (Ty.pair (Ty.int IntKind.i64) (Ty.int IntKind.i64)))) false none false none, PK.mk (Ty.slice (67 : Nat) (Ty.pair (Ty.int IntKind.i64) (Ty.pair (Ty.int IntKind.i64) (Ty.int IntKind.i64)))) false none false none]
noncomputable def to_laws_eqFallS (r : Bool) : Tup r_laws_eqFallS × OutD := ((r, ()), none)
noncomputable def of_laws_eqFallS : Tup r_laws_eqFallS × OutD → Option (Bool)
  | (a, none) => some (a.1)
  | _ => none
theorem to_of_laws_eqFallS : ∀ b r, of_laws_eqFallS b = some r → to_laws_eqFallS r = b := by
  rintro ⟨a, o⟩ r h
  cases o with
  | none => injection h with h; subst h; rfl
  | some _ => cases h
noncomputable def f_laws_eqFallS_0 : Nat → List (Int × Int × Int) → List (Int × Int × Int) → Int → Option (LR Unit Bool)
  | 0, _, _, _ => none
  | k + 1, v0, v1, v5 =>
    if decide (v5 < (↑(List.length v0) : Int)) = true then if (0 : Int) ≤ v5 then if v5 < (↑(List.length v0) : Int) then if (0 : Int) ≤ v5 then if v5 < (↑(List.length v1) : Int) then Option.bind (f_laws_eqFall k (Prod.fst (List.getD v0 (Int.toNat v5) ((0 : Int), (0 : Int), (0 : Int))), Prod.fst (Prod.snd (List.getD v0 (Int.toNat v5) ((0 : Int), (0 : Int), (0 : Int)))), Prod.snd (Prod.snd (List.getD v0 (Int.toNat v5) ((0 : Int), (0 : Int), (0 : Int))))) (Prod.fst (List.getD v1 (Int.toNat v5) ((0 : Int), (0 : Int), (0 : Int))), Prod.fst (Prod.snd (List.getD v1 (Int.toNat v5) ((0 : Int), (0 : Int), (0 : Int)))), Prod.snd (Prod.snd (List.getD v1 (Int.toNat v5) ((0 : Int), (0 : Int), (0 : Int)))))) fun z0 => if (!z0) = true then some (LR.ret false) else f_laws_eqFallS_0 k v0 v1 (wrap64 (v5 + (1 : Int))) else none else none else none else none else some (LR.go ())
noncomputable def f_laws_eqFallS_0i : Spec := Spec.mk [OSh.ro] [((0 : Nat), TSh.at (Sh.snap (0 : Nat) (Ty.pair (Ty.int IntKind.i64) (Ty.pair (Ty.int IntKind.i64) (Ty.int IntKind.i64))))), ((1 : Nat), TSh.at (Sh.snap (0 : Nat) (Ty.pair (Ty.int IntKind.i64) (Ty.pair (Ty.int IntKind.i64) (Ty.int IntKind.i64))))), ((5 : Nat), TSh.at (Sh.int IntKind.i64))]
noncomputable def f_laws_eqFallS_0o : Spec := Spec.mk [OSh.ro] []
noncomputable def f_laws_eqFallS_0D : LoopDef (Tup r_laws_eqFallS × OutD) := .rets f_laws_eqFallS_0i f_laws_eqFallS_0o (Unit) (Bool) (fun k x => f_laws_eqFallS_0 k x.2.1 x.2.2.1 x.2.2.2.1) (fun z => (((), ()), (()))) (fun y => ()) (fun _ => rfl) to_laws_eqFallS of_laws_eqFallS to_of_laws_eqFallS
noncomputable def f_laws_eqFallS : Nat → List (Int × Int × Int) → List (Int × Int × Int) → Option Bool
  | 0, _, _ => none
  | k + 1, p0, p1 =>
    if decide ((↑(List.length p0) : Int) ≠ (↑(List.length p1) : Int)) = true then some false else Option.bind (f_laws_eqFallS_0 k p0 p1 (0 : Int)) fun z1 => LR.on z1 (fun y1 => some true) fun r1 => some r1
noncomputable def d_laws_eqFallS : FnDef := .of q_laws_eqFallS r_laws_eqFallS (Bool) (fun k x => f_laws_eqFallS k x.1 x.2.1) to_laws_eqFallS of_laws_eqFallS to_of_laws_eqFallS
noncomputable def c_laws_eqFallS : Code := Tryd.f21.body.getD .skip
noncomputable def x_laws_eqFallS : Ctx (Tup r_laws_eqFallS × OutD) := { T := T, G := [(37, d_laws_eqFall.E)], mvs := [], no := 0, n := 27, res := resOf T q_laws_eqFallS r_laws_eqFallS Tryd.f21.results.toList, loops := [(0, f_laws_eqFallS_0D.E)], regs := [], conds := [] }
theorem g_laws_eqFallS (k : Nat) : EnvOK Tryd.prog k x_laws_eqFallS.G := (EnvOK.cons (s_laws_eqFall k) (EnvOK.nil mixed))
noncomputable def f_laws_eqFallS_0B : Code := (findLoop 0 c_laws_eqFallS).getD .skip
theorem f_laws_eqFallS_0h (k : Nat) (x : f_laws_eqFallS_0i.D) : f_laws_eqFallS_0D.lp (k + 1) x = loopK x_laws_eqFallS f_laws_eqFallS_0D 0 f_laws_eqFallS_0B k x := by kernel_rfl
theorem f_laws_eqFallS_0l (k : Nat) : LOK Tryd.prog x_laws_eqFallS k f_laws_eqFallS_0B := LOK.by [] (by kernel_rfl) AllOK.nil
theorem f_laws_eqFallS_0z (x : f_laws_eqFallS_0i.D) : f_laws_eqFallS_0D.lp 0 x = none := by kernel_rfl
theorem f_laws_eqFallS_0ok (k : Nat) : EOK Tryd.prog x_laws_eqFallS k f_laws_eqFallS_0D.E (.block 0 (.loop f_laws_eqFallS_0B)) := loop_ok T_ok g_laws_eqFallS f_laws_eqFallS_0z f_laws_eqFallS_0h f_laws_eqFallS_0l k
theorem h_laws_eqFallS (k : Nat) (x : Tup d_laws_eqFallS.ps) : d_laws_eqFallS.f (k + 1) x = fnK d_laws_eqFallS x_laws_eqFallS c_laws_eqFallS k x := by kernel_rfl
theorem z_laws_eqFallS (x : Tup d_laws_eqFallS.ps) : d_laws_eqFallS.f 0 x = none := by kernel_rfl
theorem l_laws_eqFallS (k : Nat) : LOK Tryd.prog x_laws_eqFallS k c_laws_eqFallS := LOK.by [(f_laws_eqFallS_0D.E, .block 0 (.loop f_laws_eqFallS_0B))] (by kernel_rfl) (AllOK.cons (f_laws_eqFallS_0ok k) AllOK.nil)
theorem s_laws_eqFallS (k : Nat) : SoundAt Tryd.prog k 21 d_laws_eqFallS.E := @fn_all Tryd.prog d_laws_eqFallS x_laws_eqFallS 21 Tryd.f21 c_laws_eqFallS (by kernel_rfl) (by kernel_rfl) (by kernel_rfl) Tryd.func21 (by kernel_rfl) (by kernel_rfl) (by kernel_rfl) T_ok g_laws_eqFallS l_laws_eqFallS z_laws_eqFallS h_laws_eqFallS k
/-! function 22 -/
/-! function 23 -/
noncomputable def r_spec_faName : List PK := [PK.mk Ty.str false none false none]
noncomputable def q_spec_faName : List PK := [PK.mk (Ty.pair (Ty.int IntKind.i64) (Ty.pair (Ty.int IntKind.i64) (Ty.int IntKind.i64))) true none false none]
noncomputable def to_spec_faName (r : ByteArray) : Tup r_spec_faName × OutD := ((r, ()), none)
noncomputable def of_spec_faName : Tup r_spec_faName × OutD → Option (ByteArray)
  | (a, none) => some (a.1)
  | _ => none
theorem to_of_spec_faName : ∀ b r, of_spec_faName b = some r → to_spec_faName r = b := by
  rintro ⟨a, o⟩ r h
  cases o with
  | none => injection h with h; subst h; rfl
  | some _ => cases h
noncomputable def f_spec_faName : Nat → Int × Int × Int → Option ByteArray
  | 0, _ => none
  | k + 1, p0 =>
    Option.bind (f_spec_faNames k) fun z0 => if (0 : Int) ≤ Prod.fst p0 then if Prod.fst p0 < (↑(List.length z0) : Int) then if ByteArray.size (List.getD z0 (Int.toNat (Prod.fst p0)) (ByteArray.mk #[])) + ByteArray.size (ByteArray.mk #[(32 : UInt8), (97 : UInt8), (116 : UInt8), (32 : UInt8)]) ≤ (9223372036854775807 : Nat) then Option.bind (f_spec_l1Num k (Prod.fst (Prod.snd p0))) fun z1 => if ByteArray.size (List.getD z0 (Int.toNat (Prod.fst p0)) (ByteArray.mk #[]) ++ ByteArray.mk #[(32 : UInt8), (97 : UInt8), (116 : UInt8), (32 : UInt8)]) + ByteArray.size z1 ≤ (9223372036854775807 : Nat) then if ByteArray.size (List.getD z0 (Int.toNat (Prod.fst p0)) (ByteArray.mk #[]) ++ ByteArray.mk #[(32 : UInt8), (97 : UInt8), (116 : UInt8), (32 : UInt8)] ++ z1) + ByteArray.size (ByteArray.mk #[(44 : UInt8)]) ≤ (9223372036854775807 : Nat) then Option.bind (f_spec_l1Num k (Prod.snd (Prod.snd p0))) fun z2 => if ByteArray.size (List.getD z0 (Int.toNat (Prod.fst p0)) (ByteArray.mk #[]) ++ ByteArray.mk #[(32 : UInt8), (97 : UInt8), (116 : UInt8), (32 : UInt8)] ++ z1 ++ ByteArray.mk #[(44 : UInt8)]) + ByteArray.size z2 ≤ (9223372036854775807 : Nat) then some (List.getD z0 (Int.toNat (Prod.fst p0)) (ByteArray.mk #[]) ++ ByteArray.mk #[(32 : UInt8), (97 : UInt8), (116 : UInt8), (32 : UInt8)] ++ z1 ++ ByteArray.mk #[(44 : UInt8)] ++ z2) else none else none else none else none else none else none
noncomputable def d_spec_faName : FnDef := .of q_spec_faName r_spec_faName (ByteArray) (fun k x => f_spec_faName k x.1) to_spec_faName of_spec_faName to_of_spec_faName
noncomputable def c_spec_faName : Code := Tryd.f23.body.getD .skip
noncomputable def x_spec_faName : Ctx (Tup r_spec_faName × OutD) := { T := T, G := [(27, d_spec_faNames.E), (39, d_spec_l1Num.E)], mvs := [], no := 0, n := 18, res := resOf T q_spec_faName r_spec_faName Tryd.f23.results.toList, loops := [], regs := [], conds := [] }
theorem g_spec_faName (k : Nat) : EnvOK Tryd.prog k x_spec_faName.G := (EnvOK.cons (s_spec_faNames k) (EnvOK.cons (s_spec_l1Num k) (EnvOK.nil mixed)))
theorem h_spec_faName (k : Nat) (x : Tup d_spec_faName.ps) : d_spec_faName.f (k + 1) x = fnK d_spec_faName x_spec_faName c_spec_faName k x := by kernel_rfl
theorem z_spec_faName (x : Tup d_spec_faName.ps) : d_spec_faName.f 0 x = none := by kernel_rfl
theorem l_spec_faName (k : Nat) : LOK Tryd.prog x_spec_faName k c_spec_faName := LOK.by [] (by kernel_rfl) AllOK.nil
theorem s_spec_faName (k : Nat) : SoundAt Tryd.prog k 23 d_spec_faName.E := @fn_all Tryd.prog d_spec_faName x_spec_faName 23 Tryd.f23 c_spec_faName (by kernel_rfl) (by kernel_rfl) (by kernel_rfl) Tryd.func23 (by kernel_rfl) (by kernel_rfl) (by kernel_rfl) T_ok g_spec_faName l_spec_faName z_spec_faName h_spec_faName k
/-! function 26 -/
/-! function 32 -/
noncomputable def r_laws_toCellS : List PK := [PK.mk (Ty.slice (78 : Nat) (Ty.pair (Ty.int IntKind.i64) (Ty.int IntKind.i64))) false none false none]
noncomputable def q_laws_toCellS : List PK := [PK.mk (Ty.slice (80 : Nat) (Ty.pair (Ty.int IntKind.i64) (Ty.int IntKind.i64))) false none false none]
noncomputable def to_laws_toCellS (r : List (Int × Int)) : Tup r_laws_toCellS × OutD := ((r, ()), none)
noncomputable def of_laws_toCellS : Tup r_laws_toCellS × OutD → Option (List (Int × Int))
  | (a, none) => some (a.1)
  | _ => none
theorem to_of_laws_toCellS : ∀ b r, of_laws_toCellS b = some r → to_laws_toCellS r = b := by
  rintro ⟨a, o⟩ r h
  cases o with
  | none => injection h with h; subst h; rfl
  | some _ => cases h
noncomputable def f_laws_toCellS_0 : Nat → List (Int × Int) → List (Int × Int) → Int → Option (List (Int × Int))
  | 0, _, _, _ => none
  | k + 1, o1, v0, v4 =>
    if decide (v4 < (↑(List.length v0) : Int)) = true then if (0 : Int) ≤ v4 then if v4 < (↑(List.length v0) : Int) then Option.bind (f_laws_toCell k (Prod.fst (List.getD v0 (Int.toNat v4) ((0 : Int), (0 : Int))), Prod.snd (List.getD v0 (Int.toNat v4) ((0 : Int), (0 : Int))))) fun z0 => if (0 : Int) ≤ v4 then if v4 < (↑(List.length o1) : Int) then f_laws_toCellS_0 k (List.set o1 (Int.toNat v4) (Prod.fst z0, Prod.snd z0)) v0 (wrap64 (v4 + (1 : Int))) else none else none else none else none else some o1
noncomputable def f_laws_toCellS_0i : Spec := Spec.mk [OSh.ro, OSh.row true (78 : Nat) (Ty.pair (Ty.int IntKind.i64) (Ty.int IntKind.i64))] [((0 : Nat), TSh.at (Sh.snap (0 : Nat) (Ty.pair (Ty.int IntKind.i64) (Ty.int IntKind.i64)))), ((3 : Nat), TSh.at (Sh.sl (1 : Nat))), ((4 : Nat), TSh.at (Sh.int IntKind.i64))]
noncomputable def f_laws_toCellS_0o : Spec := Spec.mk [OSh.ro, OSh.row true (78 : Nat) (Ty.pair (Ty.int IntKind.i64) (Ty.int IntKind.i64))] [((3 : Nat), TSh.at (Sh.sl (1 : Nat)))]
noncomputable def f_laws_toCellS_0D : LoopDef (Tup r_laws_toCellS × OutD) := .plain f_laws_toCellS_0i f_laws_toCellS_0o (List (Int × Int)) (fun k x => f_laws_toCellS_0 k x.1.2.1 x.2.1 x.2.2.2.1) (fun z => (((), z, ()), ((), ()))) (fun y => (y.1.2.1)) (fun _ => rfl)
noncomputable def f_laws_toCellS : Nat → List (Int × Int) → Option (List (Int × Int))
  | 0, _ => none
  | k + 1, p0 =>
    if Int.toNat (↑(List.length p0) : Int) * (16 : Nat) ≤ (281474976710656 : Nat) then Option.bind (f_laws_toCellS_0 k (List.replicate (Int.toNat (↑(List.length p0) : Int)) ((0 : Int), (0 : Int))) p0 (0 : Int)) fun z1 => some z1 else none
noncomputable def d_laws_toCellS : FnDef := .of q_laws_toCellS r_laws_toCellS (List (Int × Int)) (fun k x => f_laws_toCellS k x.1) to_laws_toCellS of_laws_toCellS to_of_laws_toCellS
noncomputable def c_laws_toCellS : Code := Tryd.f32.body.getD .skip
noncomputable def x_laws_toCellS : Ctx (Tup r_laws_toCellS × OutD) := { T := T, G := [(46, d_laws_toCell.E)], mvs := [], no := 0, n := 23, res := resOf T q_laws_toCellS r_laws_toCellS Tryd.f32.results.toList, loops := [(0, f_laws_toCellS_0D.E)], regs := [], conds := [] }
theorem g_laws_toCellS (k : Nat) : EnvOK Tryd.prog k x_laws_toCellS.G := (EnvOK.cons (s_laws_toCell k) (EnvOK.nil mixed))
noncomputable def f_laws_toCellS_0B : Code := (findLoop 0 c_laws_toCellS).getD .skip
theorem f_laws_toCellS_0h (k : Nat) (x : f_laws_toCellS_0i.D) : f_laws_toCellS_0D.lp (k + 1) x = loopK x_laws_toCellS f_laws_toCellS_0D 0 f_laws_toCellS_0B k x := by kernel_rfl
theorem f_laws_toCellS_0l (k : Nat) : LOK Tryd.prog x_laws_toCellS k f_laws_toCellS_0B := LOK.by [] (by kernel_rfl) AllOK.nil
theorem f_laws_toCellS_0z (x : f_laws_toCellS_0i.D) : f_laws_toCellS_0D.lp 0 x = none := by kernel_rfl
theorem f_laws_toCellS_0ok (k : Nat) : EOK Tryd.prog x_laws_toCellS k f_laws_toCellS_0D.E (.block 0 (.loop f_laws_toCellS_0B)) := loop_ok T_ok g_laws_toCellS f_laws_toCellS_0z f_laws_toCellS_0h f_laws_toCellS_0l k
theorem h_laws_toCellS (k : Nat) (x : Tup d_laws_toCellS.ps) : d_laws_toCellS.f (k + 1) x = fnK d_laws_toCellS x_laws_toCellS c_laws_toCellS k x := by kernel_rfl
theorem z_laws_toCellS (x : Tup d_laws_toCellS.ps) : d_laws_toCellS.f 0 x = none := by kernel_rfl
theorem l_laws_toCellS (k : Nat) : LOK Tryd.prog x_laws_toCellS k c_laws_toCellS := LOK.by [(f_laws_toCellS_0D.E, .block 0 (.loop f_laws_toCellS_0B))] (by kernel_rfl) (AllOK.cons (f_laws_toCellS_0ok k) AllOK.nil)
theorem s_laws_toCellS (k : Nat) : SoundAt Tryd.prog k 32 d_laws_toCellS.E := @fn_all Tryd.prog d_laws_toCellS x_laws_toCellS 32 Tryd.f32 c_laws_toCellS (by kernel_rfl) (by kernel_rfl) (by kernel_rfl) Tryd.func32 (by kernel_rfl) (by kernel_rfl) (by kernel_rfl) T_ok g_laws_toCellS l_laws_toCellS z_laws_toCellS h_laws_toCellS k
/-! function 36 -/
noncomputable def r_laws_eqCellS : List PK := [PK.mk Ty.bool false none false none]
noncomputable def q_laws_eqCellS : List PK := [PK.mk (Ty.slice (78 : Nat) (Ty.pair (Ty.int IntKind.i64) (Ty.int IntKind.i64))) false none false none, PK.mk (Ty.slice (78 : Nat) (Ty.pair (Ty.int IntKind.i64) (Ty.int IntKind.i64))) false none false none]
noncomputable def to_laws_eqCellS (r : Bool) : Tup r_laws_eqCellS × OutD := ((r, ()), none)
noncomputable def of_laws_eqCellS : Tup r_laws_eqCellS × OutD → Option (Bool)
  | (a, none) => some (a.1)
  | _ => none
theorem to_of_laws_eqCellS : ∀ b r, of_laws_eqCellS b = some r → to_laws_eqCellS r = b := by
  rintro ⟨a, o⟩ r h
  cases o with
  | none => injection h with h; subst h; rfl
  | some _ => cases h
noncomputable def f_laws_eqCellS_0 : Nat → List (Int × Int) → List (Int × Int) → Int → Option (LR Unit Bool)
  | 0, _, _, _ => none
  | k + 1, v0, v1, v5 =>
    if decide (v5 < (↑(List.length v0) : Int)) = true then if (0 : Int) ≤ v5 then if v5 < (↑(List.length v0) : Int) then if (0 : Int) ≤ v5 then if v5 < (↑(List.length v1) : Int) then Option.bind (f_laws_eqCell k (Prod.fst (List.getD v0 (Int.toNat v5) ((0 : Int), (0 : Int))), Prod.snd (List.getD v0 (Int.toNat v5) ((0 : Int), (0 : Int)))) (Prod.fst (List.getD v1 (Int.toNat v5) ((0 : Int), (0 : Int))), Prod.snd (List.getD v1 (Int.toNat v5) ((0 : Int), (0 : Int))))) fun z0 => if (!z0) = true then some (LR.ret false) else f_laws_eqCellS_0 k v0 v1 (wrap64 (v5 + (1 : Int))) else none else none else none else none else some (LR.go ())
noncomputable def f_laws_eqCellS_0i : Spec := Spec.mk [OSh.ro] [((0 : Nat), TSh.at (Sh.snap (0 : Nat) (Ty.pair (Ty.int IntKind.i64) (Ty.int IntKind.i64)))), ((1 : Nat), TSh.at (Sh.snap (0 : Nat) (Ty.pair (Ty.int IntKind.i64) (Ty.int IntKind.i64)))), ((5 : Nat), TSh.at (Sh.int IntKind.i64))]
noncomputable def f_laws_eqCellS_0o : Spec := Spec.mk [OSh.ro] []
noncomputable def f_laws_eqCellS_0D : LoopDef (Tup r_laws_eqCellS × OutD) := .rets f_laws_eqCellS_0i f_laws_eqCellS_0o (Unit) (Bool) (fun k x => f_laws_eqCellS_0 k x.2.1 x.2.2.1 x.2.2.2.1) (fun z => (((), ()), (()))) (fun y => ()) (fun _ => rfl) to_laws_eqCellS of_laws_eqCellS to_of_laws_eqCellS
noncomputable def f_laws_eqCellS : Nat → List (Int × Int) → List (Int × Int) → Option Bool
  | 0, _, _ => none
  | k + 1, p0, p1 =>
    if decide ((↑(List.length p0) : Int) ≠ (↑(List.length p1) : Int)) = true then some false else Option.bind (f_laws_eqCellS_0 k p0 p1 (0 : Int)) fun z1 => LR.on z1 (fun y1 => some true) fun r1 => some r1
noncomputable def d_laws_eqCellS : FnDef := .of q_laws_eqCellS r_laws_eqCellS (Bool) (fun k x => f_laws_eqCellS k x.1 x.2.1) to_laws_eqCellS of_laws_eqCellS to_of_laws_eqCellS
noncomputable def c_laws_eqCellS : Code := Tryd.f36.body.getD .skip
noncomputable def x_laws_eqCellS : Ctx (Tup r_laws_eqCellS × OutD) := { T := T, G := [(50, d_laws_eqCell.E)], mvs := [], no := 0, n := 27, res := resOf T q_laws_eqCellS r_laws_eqCellS Tryd.f36.results.toList, loops := [(0, f_laws_eqCellS_0D.E)], regs := [], conds := [] }
theorem g_laws_eqCellS (k : Nat) : EnvOK Tryd.prog k x_laws_eqCellS.G := (EnvOK.cons (s_laws_eqCell k) (EnvOK.nil mixed))
noncomputable def f_laws_eqCellS_0B : Code := (findLoop 0 c_laws_eqCellS).getD .skip
theorem f_laws_eqCellS_0h (k : Nat) (x : f_laws_eqCellS_0i.D) : f_laws_eqCellS_0D.lp (k + 1) x = loopK x_laws_eqCellS f_laws_eqCellS_0D 0 f_laws_eqCellS_0B k x := by kernel_rfl
theorem f_laws_eqCellS_0l (k : Nat) : LOK Tryd.prog x_laws_eqCellS k f_laws_eqCellS_0B := LOK.by [] (by kernel_rfl) AllOK.nil
theorem f_laws_eqCellS_0z (x : f_laws_eqCellS_0i.D) : f_laws_eqCellS_0D.lp 0 x = none := by kernel_rfl
theorem f_laws_eqCellS_0ok (k : Nat) : EOK Tryd.prog x_laws_eqCellS k f_laws_eqCellS_0D.E (.block 0 (.loop f_laws_eqCellS_0B)) := loop_ok T_ok g_laws_eqCellS f_laws_eqCellS_0z f_laws_eqCellS_0h f_laws_eqCellS_0l k
theorem h_laws_eqCellS (k : Nat) (x : Tup d_laws_eqCellS.ps) : d_laws_eqCellS.f (k + 1) x = fnK d_laws_eqCellS x_laws_eqCellS c_laws_eqCellS k x := by kernel_rfl
theorem z_laws_eqCellS (x : Tup d_laws_eqCellS.ps) : d_laws_eqCellS.f 0 x = none := by kernel_rfl
theorem l_laws_eqCellS (k : Nat) : LOK Tryd.prog x_laws_eqCellS k c_laws_eqCellS := LOK.by [(f_laws_eqCellS_0D.E, .block 0 (.loop f_laws_eqCellS_0B))] (by kernel_rfl) (AllOK.cons (f_laws_eqCellS_0ok k) AllOK.nil)
theorem s_laws_eqCellS (k : Nat) : SoundAt Tryd.prog k 36 d_laws_eqCellS.E := @fn_all Tryd.prog d_laws_eqCellS x_laws_eqCellS 36 Tryd.f36 c_laws_eqCellS (by kernel_rfl) (by kernel_rfl) (by kernel_rfl) Tryd.func36 (by kernel_rfl) (by kernel_rfl) (by kernel_rfl) T_ok g_laws_eqCellS l_laws_eqCellS z_laws_eqCellS h_laws_eqCellS k
/-! function 41 -/
/-! function 43 -/
noncomputable def r_spec_l1All : List PK := [PK.mk Ty.bool false none false none]
noncomputable def q_spec_l1All : List PK := [PK.mk (Ty.slice (3 : Nat) (Ty.int IntKind.i64)) false none false none, PK.mk (Ty.int IntKind.i64) false none false none, PK.mk (Ty.int IntKind.i64) false none false none]
noncomputable def to_spec_l1All (r : Bool) : Tup r_spec_l1All × OutD := ((r, ()), none)
noncomputable def of_spec_l1All : Tup r_spec_l1All × OutD → Option (Bool)
  | (a, none) => some (a.1)
  | _ => none
theorem to_of_spec_l1All : ∀ b r, of_spec_l1All b = some r → to_spec_l1All r = b := by
  rintro ⟨a, o⟩ r h
  cases o with
  | none => injection h with h; subst h; rfl
  | some _ => cases h
noncomputable def f_spec_l1All_0 : Nat → Int → Int → List Int → Int → Int → Option (LR Unit Bool)
  | 0, _, _, _, _, _ => none
  | k + 1, v1, v2, v9, v10, v11 =>
    if decide (v11 < v10) = true then if (0 : Int) ≤ v11 then if v11 < (↑(List.length v9) : Int) then Option.bind (f_spec_l1In k (List.getD v9 (Int.toNat v11) (0 : Int)) v1 v2) fun z0 => if (!z0) = true then some (LR.ret false) else f_spec_l1All_0 k v1 v2 v9 v10 (wrap64 (v11 + (1 : Int))) else none else none else some (LR.go ())
noncomputable def f_spec_l1All_0i : Spec := Spec.mk [OSh.ro] [((1 : Nat), TSh.at (Sh.int IntKind.i64)), ((2 : Nat), TSh.at (Sh.int IntKind.i64)), ((9 : Nat), TSh.at (Sh.snap (0 : Nat) (Ty.int IntKind.i64))), ((10 : Nat), TSh.at (Sh.int IntKind.i64)), ((11 : Nat), TSh.at (Sh.int IntKind.i64))]
noncomputable def f_spec_l1All_0o : Spec := Spec.mk [OSh.ro] []
noncomputable def f_spec_l1All_0D : LoopDef (Tup r_spec_l1All × OutD) := .rets f_spec_l1All_0i f_spec_l1All_0o (Unit) (Bool) (fun k x => f_spec_l1All_0 k x.2.1 x.2.2.1 x.2.2.2.1 x.2.2.2.2.1 x.2.2.2.2.2.1) (fun z => (((), ()), (()))) (fun y => ()) (fun _ => rfl) to_spec_l1All of_spec_l1All to_of_spec_l1All
noncomputable def f_spec_l1All : Nat → List Int → Int → Int → Option Bool
  | 0, _, _, _ => none
  | k + 1, p0, p1, p2 =>
    Option.bind (f_spec_l1All_0 k p1 p2 p0 (↑(List.length p0) : Int) (0 : Int)) fun z1 => LR.on z1 (fun y1 => some true) fun r1 => some r1
noncomputable def d_spec_l1All : FnDef := .of q_spec_l1All r_spec_l1All (Bool) (fun k x => f_spec_l1All k x.1 x.2.1 x.2.2.1) to_spec_l1All of_spec_l1All to_of_spec_l1All
noncomputable def c_spec_l1All : Code := Tryd.f43.body.getD .skip
noncomputable def x_spec_l1All : Ctx (Tup r_spec_l1All × OutD) := { T := T, G := [(38, d_spec_l1In.E)], mvs := [], no := 0, n := 21, res := resOf T q_spec_l1All r_spec_l1All Tryd.f43.results.toList, loops := [(0, f_spec_l1All_0D.E)], regs := [], conds := [] }
theorem g_spec_l1All (k : Nat) : EnvOK Tryd.prog k x_spec_l1All.G := (EnvOK.cons (s_spec_l1In k) (EnvOK.nil mixed))
noncomputable def f_spec_l1All_0B : Code := (findLoop 0 c_spec_l1All).getD .skip
theorem f_spec_l1All_0h (k : Nat) (x : f_spec_l1All_0i.D) : f_spec_l1All_0D.lp (k + 1) x = loopK x_spec_l1All f_spec_l1All_0D 0 f_spec_l1All_0B k x := by kernel_rfl
theorem f_spec_l1All_0l (k : Nat) : LOK Tryd.prog x_spec_l1All k f_spec_l1All_0B := LOK.by [] (by kernel_rfl) AllOK.nil
theorem f_spec_l1All_0z (x : f_spec_l1All_0i.D) : f_spec_l1All_0D.lp 0 x = none := by kernel_rfl
theorem f_spec_l1All_0ok (k : Nat) : EOK Tryd.prog x_spec_l1All k f_spec_l1All_0D.E (.block 0 (.loop f_spec_l1All_0B)) := loop_ok T_ok g_spec_l1All f_spec_l1All_0z f_spec_l1All_0h f_spec_l1All_0l k
theorem h_spec_l1All (k : Nat) (x : Tup d_spec_l1All.ps) : d_spec_l1All.f (k + 1) x = fnK d_spec_l1All x_spec_l1All c_spec_l1All k x := by kernel_rfl
theorem z_spec_l1All (x : Tup d_spec_l1All.ps) : d_spec_l1All.f 0 x = none := by kernel_rfl
theorem l_spec_l1All (k : Nat) : LOK Tryd.prog x_spec_l1All k c_spec_l1All := LOK.by [(f_spec_l1All_0D.E, .block 0 (.loop f_spec_l1All_0B))] (by kernel_rfl) (AllOK.cons (f_spec_l1All_0ok k) AllOK.nil)
theorem s_spec_l1All (k : Nat) : SoundAt Tryd.prog k 43 d_spec_l1All.E := @fn_all Tryd.prog d_spec_l1All x_spec_l1All 43 Tryd.f43 c_spec_l1All (by kernel_rfl) (by kernel_rfl) (by kernel_rfl) Tryd.func43 (by kernel_rfl) (by kernel_rfl) (by kernel_rfl) T_ok g_spec_l1All l_spec_l1All z_spec_l1All h_spec_l1All k
/-! function 51 -/
noncomputable def r_internal_strconv_FormatInt : List PK := [PK.mk Ty.str false none false none]
noncomputable def q_internal_strconv_FormatInt : List PK := [PK.mk (Ty.int IntKind.i64) false none false none, PK.mk (Ty.int IntKind.i64) false none false none]
noncomputable def to_internal_strconv_FormatInt (r : ByteArray) : Tup r_internal_strconv_FormatInt × OutD := ((r, ()), none)
noncomputable def of_internal_strconv_FormatInt : Tup r_internal_strconv_FormatInt × OutD → Option (ByteArray)
  | (a, none) => some (a.1)
  | _ => none
theorem to_of_internal_strconv_FormatInt : ∀ b r, of_internal_strconv_FormatInt b = some r → to_internal_strconv_FormatInt r = b := by
  rintro ⟨a, o⟩ r h
  cases o with
  | none => injection h with h; subst h; rfl
  | some _ => cases h
noncomputable def f_internal_strconv_FormatInt : Nat → Int → Int → Option ByteArray
  | 0, _, _ => none
  | k + 1, p0, p1 =>
    if decide (p1 = (10 : Int)) = true then if decide ((0 : Int) ≤ p0) = true then if decide (p0 < (100 : Int)) = true then Option.bind (f_internal_strconv_small k p0) fun z0 => some z0 else if decide (p0 < (0 : Int)) = true then none else none else if decide (p0 < (0 : Int)) = true then none else none else none
noncomputable def d_internal_strconv_FormatInt : FnDef := .of q_internal_strconv_FormatInt r_internal_strconv_FormatInt (ByteArray) (fun k x => f_internal_strconv_FormatInt k x.1 x.2.1) to_internal_strconv_FormatInt of_internal_strconv_FormatInt to_of_internal_strconv_FormatInt
noncomputable def c_internal_strconv_FormatInt : Code := Tryd.f51.body.getD .skip
noncomputable def x_internal_strconv_FormatInt : Ctx (Tup r_internal_strconv_FormatInt × OutD) := { T := T, G := [(61, d_internal_strconv_small.E)], mvs := [], no := 0, n := 54, res := resOf T q_internal_strconv_FormatInt r_internal_strconv_FormatInt Tryd.f51.results.toList, loops := [], regs := [], conds := [] }
theorem g_internal_strconv_FormatInt (k : Nat) : EnvOK Tryd.prog k x_internal_strconv_FormatInt.G := (EnvOK.cons (s_internal_strconv_small k) (EnvOK.nil mixed))
theorem h_internal_strconv_FormatInt (k : Nat) (x : Tup d_internal_strconv_FormatInt.ps) : d_internal_strconv_FormatInt.f (k + 1) x = fnK d_internal_strconv_FormatInt x_internal_strconv_FormatInt c_internal_strconv_FormatInt k x := by kernel_rfl
theorem z_internal_strconv_FormatInt (x : Tup d_internal_strconv_FormatInt.ps) : d_internal_strconv_FormatInt.f 0 x = none := by kernel_rfl
theorem l_internal_strconv_FormatInt (k : Nat) : LOK Tryd.prog x_internal_strconv_FormatInt k c_internal_strconv_FormatInt := LOK.by [] (by kernel_rfl) AllOK.nil
theorem s_internal_strconv_FormatInt (k : Nat) : SoundAt Tryd.prog k 51 d_internal_strconv_FormatInt.E := @fn_all Tryd.prog d_internal_strconv_FormatInt x_internal_strconv_FormatInt 51 Tryd.f51 c_internal_strconv_FormatInt (by kernel_rfl) (by kernel_rfl) (by kernel_rfl) Tryd.func51 (by kernel_rfl) (by kernel_rfl) (by kernel_rfl) T_ok g_internal_strconv_FormatInt l_internal_strconv_FormatInt z_internal_strconv_FormatInt h_internal_strconv_FormatInt k
/-! function 54 -/
noncomputable def r_spec_faFits : List PK := [PK.mk Ty.bool false none false none]
noncomputable def q_spec_faFits : List PK := [PK.mk (Ty.pair (Ty.int IntKind.i64) (Ty.int IntKind.i64)) true none false none, PK.mk (Ty.int IntKind.i64) false none false none]
noncomputable def to_spec_faFits (r : Bool) : Tup r_spec_faFits × OutD := ((r, ()), none)
noncomputable def of_spec_faFits : Tup r_spec_faFits × OutD → Option (Bool)
  | (a, none) => some (a.1)
  | _ => none
theorem to_of_spec_faFits : ∀ b r, of_spec_faFits b = some r → to_spec_faFits r = b := by
  rintro ⟨a, o⟩ r h
  cases o with
  | none => injection h with h; subst h; rfl
  | some _ => cases h
noncomputable def f_spec_faFits : Nat → Int × Int → Int → Option Bool
  | 0, _, _ => none
  | k + 1, p0, p1 =>
    if decide (p1 = (1 : Int)) = true then Option.bind (f_spec_paTurning k (Prod.fst p0, Prod.snd p0)) fun z0 => some z0 else if decide (p1 = (2 : Int)) = true then some true else if decide (p1 = (3 : Int)) = true then Option.bind (f_spec_paTurning k (Prod.fst p0, Prod.snd p0)) fun z1 => if z1 = true then some true else if decide (Prod.fst p0 = (1 : Int)) = true then some true else some (decide (Prod.fst p0 = (2 : Int))) else some false
noncomputable def d_spec_faFits : FnDef := .of q_spec_faFits r_spec_faFits (Bool) (fun k x => f_spec_faFits k x.1 x.2.1) to_spec_faFits of_spec_faFits to_of_spec_faFits
noncomputable def c_spec_faFits : Code := Tryd.f54.body.getD .skip
noncomputable def x_spec_faFits : Ctx (Tup r_spec_faFits × OutD) := { T := T, G := [(66, d_spec_paTurning.E)], mvs := [], no := 0, n := 26, res := resOf T q_spec_faFits r_spec_faFits Tryd.f54.results.toList, loops := [], regs := [], conds := [] }
theorem g_spec_faFits (k : Nat) : EnvOK Tryd.prog k x_spec_faFits.G := (EnvOK.cons (s_spec_paTurning k) (EnvOK.nil mixed))
theorem h_spec_faFits (k : Nat) (x : Tup d_spec_faFits.ps) : d_spec_faFits.f (k + 1) x = fnK d_spec_faFits x_spec_faFits c_spec_faFits k x := by kernel_rfl
theorem z_spec_faFits (x : Tup d_spec_faFits.ps) : d_spec_faFits.f 0 x = none := by kernel_rfl
theorem l_spec_faFits (k : Nat) : LOK Tryd.prog x_spec_faFits k c_spec_faFits := LOK.by [] (by kernel_rfl) AllOK.nil
theorem s_spec_faFits (k : Nat) : SoundAt Tryd.prog k 54 d_spec_faFits.E := @fn_all Tryd.prog d_spec_faFits x_spec_faFits 54 Tryd.f54 c_spec_faFits (by kernel_rfl) (by kernel_rfl) (by kernel_rfl) Tryd.func54 (by kernel_rfl) (by kernel_rfl) (by kernel_rfl) T_ok g_spec_faFits l_spec_faFits z_spec_faFits h_spec_faFits k
/-! function 65 -/
noncomputable def r_spec_paGood : List PK := [PK.mk Ty.bool false none false none]
noncomputable def q_spec_paGood : List PK := [PK.mk (Ty.pair (Ty.int IntKind.i64) (Ty.int IntKind.i64)) true none false none]
noncomputable def to_spec_paGood (r : Bool) : Tup r_spec_paGood × OutD := ((r, ()), none)
noncomputable def of_spec_paGood : Tup r_spec_paGood × OutD → Option (Bool)
  | (a, none) => some (a.1)
  | _ => none
theorem to_of_spec_paGood : ∀ b r, of_spec_paGood b = some r → to_spec_paGood r = b := by
  rintro ⟨a, o⟩ r h
  cases o with
  | none => injection h with h; subst h; rfl
  | some _ => cases h
noncomputable def f_spec_paGood : Nat → Int × Int → Option Bool
  | 0, _ => none
  | k + 1, p0 =>
    Option.bind (f_spec_l1In k (Prod.fst p0) (0 : Int) (7 : Int)) fun z0 => if z0 = true then if decide (Prod.snd p0 = (0 : Int)) = true then some true else if decide (Prod.snd p0 = (1 : Int)) = true then Option.bind (f_spec_paTurning k (Prod.fst p0, Prod.snd p0)) fun z1 => some z1 else some false else some false
noncomputable def d_spec_paGood : FnDef := .of q_spec_paGood r_spec_paGood (Bool) (fun k x => f_spec_paGood k x.1) to_spec_paGood of_spec_paGood to_of_spec_paGood
noncomputable def c_spec_paGood : Code := Tryd.f65.body.getD .skip
noncomputable def x_spec_paGood : Ctx (Tup r_spec_paGood × OutD) := { T := T, G := [(38, d_spec_l1In.E), (66, d_spec_paTurning.E)], mvs := [], no := 0, n := 20, res := resOf T q_spec_paGood r_spec_paGood Tryd.f65.results.toList, loops := [], regs := [], conds := [] }
theorem g_spec_paGood (k : Nat) : EnvOK Tryd.prog k x_spec_paGood.G := (EnvOK.cons (s_spec_l1In k) (EnvOK.cons (s_spec_paTurning k) (EnvOK.nil mixed)))
theorem h_spec_paGood (k : Nat) (x : Tup d_spec_paGood.ps) : d_spec_paGood.f (k + 1) x = fnK d_spec_paGood x_spec_paGood c_spec_paGood k x := by kernel_rfl
theorem z_spec_paGood (x : Tup d_spec_paGood.ps) : d_spec_paGood.f 0 x = none := by kernel_rfl
theorem l_spec_paGood (k : Nat) : LOK Tryd.prog x_spec_paGood k c_spec_paGood := LOK.by [] (by kernel_rfl) AllOK.nil
theorem s_spec_paGood (k : Nat) : SoundAt Tryd.prog k 65 d_spec_paGood.E := @fn_all Tryd.prog d_spec_paGood x_spec_paGood 65 Tryd.f65 c_spec_paGood (by kernel_rfl) (by kernel_rfl) (by kernel_rfl) Tryd.func65 (by kernel_rfl) (by kernel_rfl) (by kernel_rfl) T_ok g_spec_paGood l_spec_paGood z_spec_paGood h_spec_paGood k
/-! function 68 -/
noncomputable def r_spec_ggGroups : List PK := [PK.mk (Ty.slice (3 : Nat) (Ty.int IntKind.i64)) false none false none]
noncomputable def q_spec_ggGroups : List PK := [PK.mk (Ty.pair (Ty.int IntKind.i64) (Ty.pair (Ty.int IntKind.i64) (Ty.slice (78 : Nat) (Ty.pair (Ty.int IntKind.i64) (Ty.int IntKind.i64))))) true none false none]
noncomputable def to_spec_ggGroups (r : List Int) : Tup r_spec_ggGroups × OutD := ((r, ()), none)
noncomputable def of_spec_ggGroups : Tup r_spec_ggGroups × OutD → Option (List Int)
  | (a, none) => some (a.1)
  | _ => none
theorem to_of_spec_ggGroups : ∀ b r, of_spec_ggGroups b = some r → to_spec_ggGroups r = b := by
  rintro ⟨a, o⟩ r h
  cases o with
  | none => injection h with h; subst h; rfl
  | some _ => cases h
noncomputable def f_spec_ggGroups_0 : Nat → Int → Int → List (Int × Int) → List Int → Int → Int → Option (Int × Int × List (Int × Int) × List Int)
  | 0, _, _, _, _, _, _ => none
  | k + 1, b1_0, b1_1, b1_2, o2, v17, v18 =>
    if decide (v18 < v17) = true then if (0 : Int) ≤ v18 then if v18 < (↑(List.length o2) : Int) then f_spec_ggGroups_0 k b1_0 b1_1 b1_2 (List.set o2 (Int.toNat v18) (-1 : Int)) v17 (wrap64 (v18 + (1 : Int))) else none else none else some (b1_0, b1_1, b1_2, o2)
noncomputable def f_spec_ggGroups_0i : Spec := Spec.mk [OSh.ro, OSh.box (43 : Nat) [Sh.int IntKind.i64, Sh.int IntKind.i64, Sh.snap (0 : Nat) (Ty.pair (Ty.int IntKind.i64) (Ty.int IntKind.i64))], OSh.row true (3 : Nat) (Ty.int IntKind.i64)] [((1 : Nat), TSh.at (Sh.ptr (1 : Nat) (0 : Nat))), ((3 : Nat), TSh.at (Sh.sl (2 : Nat))), ((17 : Nat), TSh.at (Sh.int IntKind.i64)), ((18 : Nat), TSh.at (Sh.int IntKind.i64))]
noncomputable def f_spec_ggGroups_0o : Spec := Spec.mk [OSh.ro, OSh.box (43 : Nat) [Sh.int IntKind.i64, Sh.int IntKind.i64, Sh.snap (0 : Nat) (Ty.pair (Ty.int IntKind.i64) (Ty.int IntKind.i64))], OSh.row true (3 : Nat) (Ty.int IntKind.i64)] [((1 : Nat), TSh.at (Sh.ptr (1 : Nat) (0 : Nat))), ((3 : Nat), TSh.at (Sh.sl (2 : Nat)))]
noncomputable def f_spec_ggGroups_0D : LoopDef (Tup r_spec_ggGroups × OutD) := .plain f_spec_ggGroups_0i f_spec_ggGroups_0o (Int × Int × List (Int × Int) × List Int) (fun k x => f_spec_ggGroups_0 k x.1.2.1.1 x.1.2.1.2.1 x.1.2.1.2.2.1 x.1.2.2.1 x.2.2.2.1 x.2.2.2.2.1) (fun z => (((), (z.1, z.2.1, z.2.2.1, ()), z.2.2.2, ()), ((), (), ()))) (fun y => (y.1.2.1.1, y.1.2.1.2.1, y.1.2.1.2.2.1, y.1.2.2.1)) (fun _ => rfl)
noncomputable def f_spec_ggGroups_6 : Nat → Int → Int → List (Int × Int) → List Int → List Int → List Int → Int → Int → List (Int × Int) → Int → Int → Int → Int → Option (Int × Int × List (Int × Int) × List Int × List Int × Int × Int × List (Int × Int) × Int × Int)
  | 0, _, _, _, _, _, _, _, _, _, _, _, _, _ => none
  | k + 1, b1_0, b1_1, b1_2, o2, o3, o4, v5, v9, v26, v27, v28, v61, v62 =>
    if decide (v62 < v61) = true then if (0 : Int) ≤ v62 then if v62 < (↑(List.length o4) : Int) then if (0 : Int) ≤ List.getD o4 (Int.toNat v62) (0 : Int) then if List.getD o4 (Int.toNat v62) (0 : Int) < (↑(List.length b1_2) : Int) then Option.bind (f_spec_ggGear k (Prod.fst (List.getD b1_2 (Int.toNat (List.getD o4 (Int.toNat v62) (0 : Int))) ((0 : Int), (0 : Int))), Prod.snd (List.getD b1_2 (Int.toNat (List.getD o4 (Int.toNat v62) (0 : Int))) ((0 : Int), (0 : Int))))) fun z3 => if z3 = true then if (0 : Int) ≤ List.getD o4 (Int.toNat v62) (0 : Int) then if List.getD o4 (Int.toNat v62) (0 : Int) < (↑(List.length o2) : Int) then if decide (List.getD o2 (Int.toNat (List.getD o4 (Int.toNat v62) (0 : Int))) (0 : Int) < (0 : Int)) = true then if (0 : Int) ≤ List.getD o4 (Int.toNat v62) (0 : Int) then if List.getD o4 (Int.toNat v62) (0 : Int) < (↑(List.length o2) : Int) then if List.length o3 + List.length [List.getD o4 (Int.toNat v62) (0 : Int)] ≤ (140737488355328 / 8 : Nat) then f_spec_ggGroups_6 k b1_0 b1_1 b1_2 (List.set o2 (Int.toNat (List.getD o4 (Int.toNat v62) (0 : Int))) v5) (o3 ++ [List.getD o4 (Int.toNat v62) (0 : Int)]) o4 v5 v9 v26 v27 v28 v61 (wrap64 (v62 + (1 : Int))) else none else none else none else f_spec_ggGroups_6 k b1_0 b1_1 b1_2 o2 o3 o4 v5 v9 v26 v27 v28 v61 (wrap64 (v62 + (1 : Int))) else none else none else f_spec_ggGroups_6 k b1_0 b1_1 b1_2 o2 o3 o4 v5 v9 v26 v27 v28 v61 (wrap64 (v62 + (1 : Int))) else none else none else none else none else some (b1_0, b1_1, b1_2, o2, o3, v5, v9, v26, v27, v28)
noncomputable def f_spec_ggGroups_6i : Spec := Spec.mk [OSh.ro, OSh.box (43 : Nat) [Sh.int IntKind.i64, Sh.int IntKind.i64, Sh.snap (0 : Nat) (Ty.pair (Ty.int IntKind.i64) (Ty.int IntKind.i64))], OSh.row true (3 : Nat) (Ty.int IntKind.i64), OSh.row true (3 : Nat) (Ty.int IntKind.i64), OSh.row true (3 : Nat) (Ty.int IntKind.i64)] [((1 : Nat), TSh.at (Sh.ptr (1 : Nat) (0 : Nat))), ((3 : Nat), TSh.at (Sh.sl (2 : Nat))), ((5 : Nat), TSh.at (Sh.int IntKind.i64)), ((8 : Nat), TSh.at (Sh.sl (3 : Nat))), ((9 : Nat), TSh.at (Sh.int IntKind.i64)), ((26 : Nat), TSh.at (Sh.snap (0 : Nat) (Ty.pair (Ty.int IntKind.i64) (Ty.int IntKind.i64)))), ((27 : Nat), TSh.at (Sh.int IntKind.i64)), ((28 : Nat), TSh.at (Sh.int IntKind.i64)), ((60 : Nat), TSh.at (Sh.sl (4 : Nat))), ((61 : Nat), TSh.at (Sh.int IntKind.i64)), ((62 : Nat), TSh.at (Sh.int IntKind.i64))]
noncomputable def f_spec_ggGroups_6o : Spec := Spec.mk [OSh.ro, OSh.box (43 : Nat) [Sh.int IntKind.i64, Sh.int IntKind.i64, Sh.snap (0 : Nat) (Ty.pair (Ty.int IntKind.i64) (Ty.int IntKind.i64))], OSh.row true (3 : Nat) (Ty.int IntKind.i64), OSh.row true (3 : Nat) (Ty.int IntKind.i64)] [((1 : Nat), TSh.at (Sh.ptr (1 : Nat) (0 : Nat))), ((3 : Nat), TSh.at (Sh.sl (2 : Nat))), ((5 : Nat), TSh.at (Sh.int IntKind.i64)), ((8 : Nat), TSh.at (Sh.sl (3 : Nat))), ((9 : Nat), TSh.at (Sh.int IntKind.i64)), ((26 : Nat), TSh.at (Sh.snap (0 : Nat) (Ty.pair (Ty.int IntKind.i64) (Ty.int IntKind.i64)))), ((27 : Nat), TSh.at (Sh.int IntKind.i64)), ((28 : Nat), TSh.at (Sh.int IntKind.i64))]
noncomputable def f_spec_ggGroups_6D : LoopDef (Tup r_spec_ggGroups × OutD) := .plain f_spec_ggGroups_6i f_spec_ggGroups_6o (Int × Int × List (Int × Int) × List Int × List Int × Int × Int × List (Int × Int) × Int × Int) (fun k x => f_spec_ggGroups_6 k x.1.2.1.1 x.1.2.1.2.1 x.1.2.1.2.2.1 x.1.2.2.1 x.1.2.2.2.1 x.1.2.2.2.2.1 x.2.2.2.1 x.2.2.2.2.2.1 x.2.2.2.2.2.2.1 x.2.2.2.2.2.2.2.1 x.2.2.2.2.2.2.2.2.1 x.2.2.2.2.2.2.2.2.2.2.1 x.2.2.2.2.2.2.2.2.2.2.2.1) (fun z => (((), (z.1, z.2.1, z.2.2.1, ()), z.2.2.2.1, z.2.2.2.2.1, ()), ((), (), z.2.2.2.2.2.1, (), z.2.2.2.2.2.2.1, z.2.2.2.2.2.2.2.1, z.2.2.2.2.2.2.2.2.1, z.2.2.2.2.2.2.2.2.2, ()))) (fun y => (y.1.2.1.1, y.1.2.1.2.1, y.1.2.1.2.2.1, y.1.2.2.1, y.1.2.2.2.1, y.2.2.2.1, y.2.2.2.2.2.1, y.2.2.2.2.2.2.1, y.2.2.2.2.2.2.2.1, y.2.2.2.2.2.2.2.2.1)) (fun _ => rfl)
noncomputable def f_spec_ggGroups_4 : Nat → Int → Int → List (Int × Int) → List Int → List Int → Int → Int → List (Int × Int) → Int → Int → Option (Int × Int × List (Int × Int) × List Int × Int × List (Int × Int) × Int × Int)
  | 0, _, _, _, _, _, _, _, _, _, _ => none
  | k + 1, b1_0, b1_1, b1_2, o2, o3, v5, v9, v26, v27, v28 =>
    if decide (v9 < (↑(List.length o3) : Int)) = true then if (0 : Int) ≤ v9 then if v9 < (↑(List.length o3) : Int) then Option.bind (f_spec_ggNear k (b1_0, b1_1, b1_2) (List.getD o3 (Int.toNat v9) (0 : Int))) fun z2 => Option.bind (f_spec_ggGroups_6 k b1_0 b1_1 b1_2 o2 o3 z2 v5 v9 v26 v27 v28 (↑(List.length z2) : Int) (0 : Int)) fun z4 => f_spec_ggGroups_4 k (Prod.fst z4) (Prod.fst (Prod.snd z4)) (Prod.fst (Prod.snd (Prod.snd z4))) (Prod.fst (Prod.snd (Prod.snd (Prod.snd z4)))) (Prod.fst (Prod.snd (Prod.snd (Prod.snd (Prod.snd z4))))) (Prod.fst (Prod.snd (Prod.snd (Prod.snd (Prod.snd (Prod.snd z4)))))) (wrap64 (Prod.fst (Prod.snd (Prod.snd (Prod.snd (Prod.snd (Prod.snd (Prod.snd z4)))))) + (1 : Int))) (Prod.fst (Prod.snd (Prod.snd (Prod.snd (Prod.snd (Prod.snd (Prod.snd (Prod.snd z4)))))))) (Prod.fst (Prod.snd (Prod.snd (Prod.snd (Prod.snd (Prod.snd (Prod.snd (Prod.snd (Prod.snd z4))))))))) (Prod.snd (Prod.snd (Prod.snd (Prod.snd (Prod.snd (Prod.snd (Prod.snd (Prod.snd (Prod.snd z4))))))))) else none else none else some (b1_0, b1_1, b1_2, o2, v5, v26, v27, v28)
noncomputable def f_spec_ggGroups_4i : Spec := Spec.mk [OSh.ro, OSh.box (43 : Nat) [Sh.int IntKind.i64, Sh.int IntKind.i64, Sh.snap (0 : Nat) (Ty.pair (Ty.int IntKind.i64) (Ty.int IntKind.i64))], OSh.row true (3 : Nat) (Ty.int IntKind.i64), OSh.row true (3 : Nat) (Ty.int IntKind.i64)] [((1 : Nat), TSh.at (Sh.ptr (1 : Nat) (0 : Nat))), ((3 : Nat), TSh.at (Sh.sl (2 : Nat))), ((5 : Nat), TSh.at (Sh.int IntKind.i64)), ((8 : Nat), TSh.at (Sh.sl (3 : Nat))), ((9 : Nat), TSh.at (Sh.int IntKind.i64)), ((26 : Nat), TSh.at (Sh.snap (0 : Nat) (Ty.pair (Ty.int IntKind.i64) (Ty.int IntKind.i64)))), ((27 : Nat), TSh.at (Sh.int IntKind.i64)), ((28 : Nat), TSh.at (Sh.int IntKind.i64))]
noncomputable def f_spec_ggGroups_4o : Spec := Spec.mk [OSh.ro, OSh.box (43 : Nat) [Sh.int IntKind.i64, Sh.int IntKind.i64, Sh.snap (0 : Nat) (Ty.pair (Ty.int IntKind.i64) (Ty.int IntKind.i64))], OSh.row true (3 : Nat) (Ty.int IntKind.i64)] [((1 : Nat), TSh.at (Sh.ptr (1 : Nat) (0 : Nat))), ((3 : Nat), TSh.at (Sh.sl (2 : Nat))), ((5 : Nat), TSh.at (Sh.int IntKind.i64)), ((26 : Nat), TSh.at (Sh.snap (0 : Nat) (Ty.pair (Ty.int IntKind.i64) (Ty.int IntKind.i64)))), ((27 : Nat), TSh.at (Sh.int IntKind.i64)), ((28 : Nat), TSh.at (Sh.int IntKind.i64))]
noncomputable def f_spec_ggGroups_4D : LoopDef (Tup r_spec_ggGroups × OutD) := .plain f_spec_ggGroups_4i f_spec_ggGroups_4o (Int × Int × List (Int × Int) × List Int × Int × List (Int × Int) × Int × Int) (fun k x => f_spec_ggGroups_4 k x.1.2.1.1 x.1.2.1.2.1 x.1.2.1.2.2.1 x.1.2.2.1 x.1.2.2.2.1 x.2.2.2.1 x.2.2.2.2.2.1 x.2.2.2.2.2.2.1 x.2.2.2.2.2.2.2.1 x.2.2.2.2.2.2.2.2.1) (fun z => (((), (z.1, z.2.1, z.2.2.1, ()), z.2.2.2.1, ()), ((), (), z.2.2.2.2.1, z.2.2.2.2.2.1, z.2.2.2.2.2.2.1, z.2.2.2.2.2.2.2, ()))) (fun y => (y.1.2.1.1, y.1.2.1.2.1, y.1.2.1.2.2.1, y.1.2.2.1, y.2.2.2.1, y.2.2.2.2.1, y.2.2.2.2.2.1, y.2.2.2.2.2.2.1)) (fun _ => rfl)
noncomputable def f_spec_ggGroups_2 : Nat → Int → Int → List (Int × Int) → List Int → Int → List (Int × Int) → Int → Int → Option (List Int)
  | 0, _, _, _, _, _, _, _, _ => none
  | k + 1, b1_0, b1_1, b1_2, o2, v5, v26, v27, v28 =>
    if decide (v28 < v27) = true then if (0 : Int) ≤ v28 then if v28 < (↑(List.length v26) : Int) then Option.bind (f_spec_ggGear k (Prod.fst (List.getD v26 (Int.toNat v28) ((0 : Int), (0 : Int))), Prod.snd (List.getD v26 (Int.toNat v28) ((0 : Int), (0 : Int))))) fun z1 => if (!z1) = true then f_spec_ggGroups_2 k b1_0 b1_1 b1_2 o2 v5 v26 v27 (wrap64 (v28 + (1 : Int))) else if (0 : Int) ≤ v28 then if v28 < (↑(List.length o2) : Int) then if decide (List.getD o2 (Int.toNat v28) (0 : Int) ≥ (0 : Int)) = true then f_spec_ggGroups_2 k b1_0 b1_1 b1_2 o2 v5 v26 v27 (wrap64 (v28 + (1 : Int))) else if (0 : Int) ≤ v28 then if v28 < (↑(List.length o2) : Int) then Option.bind (f_spec_ggGroups_4 k b1_0 b1_1 b1_2 (List.set o2 (Int.toNat v28) v5) [v28] v5 (0 : Int) v26 v27 v28) fun z5 => f_spec_ggGroups_2 k (Prod.fst z5) (Prod.fst (Prod.snd z5)) (Prod.fst (Prod.snd (Prod.snd z5))) (Prod.fst (Prod.snd (Prod.snd (Prod.snd z5)))) (wrap64 (Prod.fst (Prod.snd (Prod.snd (Prod.snd (Prod.snd z5)))) + (1 : Int))) (Prod.fst (Prod.snd (Prod.snd (Prod.snd (Prod.snd (Prod.snd z5)))))) (Prod.fst (Prod.snd (Prod.snd (Prod.snd (Prod.snd (Prod.snd (Prod.snd z5))))))) (wrap64 (Prod.snd (Prod.snd (Prod.snd (Prod.snd (Prod.snd (Prod.snd (Prod.snd z5)))))) + (1 : Int))) else none else none else none else none else none else none else some o2
noncomputable def f_spec_ggGroups_2i : Spec := Spec.mk [OSh.ro, OSh.box (43 : Nat) [Sh.int IntKind.i64, Sh.int IntKind.i64, Sh.snap (0 : Nat) (Ty.pair (Ty.int IntKind.i64) (Ty.int IntKind.i64))], OSh.row true (3 : Nat) (Ty.int IntKind.i64)] [((1 : Nat), TSh.at (Sh.ptr (1 : Nat) (0 : Nat))), ((3 : Nat), TSh.at (Sh.sl (2 : Nat))), ((5 : Nat), TSh.at (Sh.int IntKind.i64)), ((26 : Nat), TSh.at (Sh.snap (0 : Nat) (Ty.pair (Ty.int IntKind.i64) (Ty.int IntKind.i64)))), ((27 : Nat), TSh.at (Sh.int IntKind.i64)), ((28 : Nat), TSh.at (Sh.int IntKind.i64))]
noncomputable def f_spec_ggGroups_2o : Spec := Spec.mk [OSh.ro, OSh.row true (3 : Nat) (Ty.int IntKind.i64)] [((3 : Nat), TSh.at (Sh.sl (1 : Nat)))]
noncomputable def f_spec_ggGroups_2D : LoopDef (Tup r_spec_ggGroups × OutD) := .plain f_spec_ggGroups_2i f_spec_ggGroups_2o (List Int) (fun k x => f_spec_ggGroups_2 k x.1.2.1.1 x.1.2.1.2.1 x.1.2.1.2.2.1 x.1.2.2.1 x.2.2.2.1 x.2.2.2.2.1 x.2.2.2.2.2.1 x.2.2.2.2.2.2.1) (fun z => (((), z, ()), ((), ()))) (fun y => (y.1.2.1)) (fun _ => rfl)
noncomputable def f_spec_ggGroups : Nat → Int × Int × List (Int × Int) → Option (List Int)
  | 0, _ => none
  | k + 1, p0 =>
    if Int.toNat (↑(List.length (Prod.snd (Prod.snd p0))) : Int) * (8 : Nat) ≤ (281474976710656 : Nat) then Option.bind (f_spec_ggGroups_0 k (Prod.fst p0) (Prod.fst (Prod.snd p0)) (Prod.snd (Prod.snd p0)) (List.replicate (Int.toNat (↑(List.length (Prod.snd (Prod.snd p0))) : Int)) (0 : Int)) (↑(List.length (List.replicate (Int.toNat (↑(List.length (Prod.snd (Prod.snd p0))) : Int)) (0 : Int))) : Int) (0 : Int)) fun z0 => Option.bind (f_spec_ggGroups_2 k (Prod.fst z0) (Prod.fst (Prod.snd z0)) (Prod.fst (Prod.snd (Prod.snd z0))) (Prod.snd (Prod.snd (Prod.snd z0))) (0 : Int) (Prod.fst (Prod.snd (Prod.snd z0))) (↑(List.length (Prod.fst (Prod.snd (Prod.snd z0)))) : Int) (0 : Int)) fun z6 => some z6 else none
noncomputable def d_spec_ggGroups : FnDef := .of q_spec_ggGroups r_spec_ggGroups (List Int) (fun k x => f_spec_ggGroups k x.1) to_spec_ggGroups of_spec_ggGroups to_of_spec_ggGroups
noncomputable def c_spec_ggGroups : Code := Tryd.f68.body.getD .skip
noncomputable def x_spec_ggGroups : Ctx (Tup r_spec_ggGroups × OutD) := { T := T, G := [(81, d_spec_ggGear.E), (82, d_spec_ggNear.E)], mvs := [], no := 0, n := 92, res := resOf T q_spec_ggGroups r_spec_ggGroups Tryd.f68.results.toList, loops := [(0, f_spec_ggGroups_0D.E), (6, f_spec_ggGroups_6D.E), (4, f_spec_ggGroups_4D.E), (2, f_spec_ggGroups_2D.E)], regs := [], conds := [] }
theorem g_spec_ggGroups (k : Nat) : EnvOK Tryd.prog k x_spec_ggGroups.G := (EnvOK.cons (s_spec_ggGear k) (EnvOK.cons (s_spec_ggNear k) (EnvOK.nil mixed)))
noncomputable def f_spec_ggGroups_0B : Code := (findLoop 0 c_spec_ggGroups).getD .skip
theorem f_spec_ggGroups_0h (k : Nat) (x : f_spec_ggGroups_0i.D) : f_spec_ggGroups_0D.lp (k + 1) x = loopK x_spec_ggGroups f_spec_ggGroups_0D 0 f_spec_ggGroups_0B k x := by kernel_rfl
theorem f_spec_ggGroups_0l (k : Nat) : LOK Tryd.prog x_spec_ggGroups k f_spec_ggGroups_0B := LOK.by [] (by kernel_rfl) AllOK.nil
theorem f_spec_ggGroups_0z (x : f_spec_ggGroups_0i.D) : f_spec_ggGroups_0D.lp 0 x = none := by kernel_rfl
theorem f_spec_ggGroups_0ok (k : Nat) : EOK Tryd.prog x_spec_ggGroups k f_spec_ggGroups_0D.E (.block 0 (.loop f_spec_ggGroups_0B)) := loop_ok T_ok g_spec_ggGroups f_spec_ggGroups_0z f_spec_ggGroups_0h f_spec_ggGroups_0l k
noncomputable def f_spec_ggGroups_6B : Code := (findLoop 6 c_spec_ggGroups).getD .skip
theorem f_spec_ggGroups_6h (k : Nat) (x : f_spec_ggGroups_6i.D) : f_spec_ggGroups_6D.lp (k + 1) x = loopK x_spec_ggGroups f_spec_ggGroups_6D 6 f_spec_ggGroups_6B k x := by kernel_rfl
theorem f_spec_ggGroups_6l (k : Nat) : LOK Tryd.prog x_spec_ggGroups k f_spec_ggGroups_6B := LOK.by [] (by kernel_rfl) AllOK.nil
theorem f_spec_ggGroups_6z (x : f_spec_ggGroups_6i.D) : f_spec_ggGroups_6D.lp 0 x = none := by kernel_rfl
theorem f_spec_ggGroups_6ok (k : Nat) : EOK Tryd.prog x_spec_ggGroups k f_spec_ggGroups_6D.E (.block 6 (.loop f_spec_ggGroups_6B)) := loop_ok T_ok g_spec_ggGroups f_spec_ggGroups_6z f_spec_ggGroups_6h f_spec_ggGroups_6l k
noncomputable def f_spec_ggGroups_4B : Code := (findLoop 4 c_spec_ggGroups).getD .skip
theorem f_spec_ggGroups_4h (k : Nat) (x : f_spec_ggGroups_4i.D) : f_spec_ggGroups_4D.lp (k + 1) x = loopK x_spec_ggGroups f_spec_ggGroups_4D 4 f_spec_ggGroups_4B k x := by kernel_rfl
theorem f_spec_ggGroups_4l (k : Nat) : LOK Tryd.prog x_spec_ggGroups k f_spec_ggGroups_4B := LOK.by [(f_spec_ggGroups_6D.E, .block 6 (.loop f_spec_ggGroups_6B))] (by kernel_rfl) (AllOK.cons (f_spec_ggGroups_6ok k) AllOK.nil)
theorem f_spec_ggGroups_4z (x : f_spec_ggGroups_4i.D) : f_spec_ggGroups_4D.lp 0 x = none := by kernel_rfl
theorem f_spec_ggGroups_4ok (k : Nat) : EOK Tryd.prog x_spec_ggGroups k f_spec_ggGroups_4D.E (.block 4 (.loop f_spec_ggGroups_4B)) := loop_ok T_ok g_spec_ggGroups f_spec_ggGroups_4z f_spec_ggGroups_4h f_spec_ggGroups_4l k
noncomputable def f_spec_ggGroups_2B : Code := (findLoop 2 c_spec_ggGroups).getD .skip
theorem f_spec_ggGroups_2h (k : Nat) (x : f_spec_ggGroups_2i.D) : f_spec_ggGroups_2D.lp (k + 1) x = loopK x_spec_ggGroups f_spec_ggGroups_2D 2 f_spec_ggGroups_2B k x := by kernel_rfl
theorem f_spec_ggGroups_2l (k : Nat) : LOK Tryd.prog x_spec_ggGroups k f_spec_ggGroups_2B := LOK.by [(f_spec_ggGroups_4D.E, .block 4 (.loop f_spec_ggGroups_4B))] (by kernel_rfl) (AllOK.cons (f_spec_ggGroups_4ok k) AllOK.nil)
theorem f_spec_ggGroups_2z (x : f_spec_ggGroups_2i.D) : f_spec_ggGroups_2D.lp 0 x = none := by kernel_rfl
theorem f_spec_ggGroups_2ok (k : Nat) : EOK Tryd.prog x_spec_ggGroups k f_spec_ggGroups_2D.E (.block 2 (.loop f_spec_ggGroups_2B)) := loop_ok T_ok g_spec_ggGroups f_spec_ggGroups_2z f_spec_ggGroups_2h f_spec_ggGroups_2l k
theorem h_spec_ggGroups (k : Nat) (x : Tup d_spec_ggGroups.ps) : d_spec_ggGroups.f (k + 1) x = fnK d_spec_ggGroups x_spec_ggGroups c_spec_ggGroups k x := by kernel_rfl
theorem z_spec_ggGroups (x : Tup d_spec_ggGroups.ps) : d_spec_ggGroups.f 0 x = none := by kernel_rfl
theorem l_spec_ggGroups (k : Nat) : LOK Tryd.prog x_spec_ggGroups k c_spec_ggGroups := LOK.by [(f_spec_ggGroups_0D.E, .block 0 (.loop f_spec_ggGroups_0B)), (f_spec_ggGroups_2D.E, .block 2 (.loop f_spec_ggGroups_2B))] (by kernel_rfl) (AllOK.cons (f_spec_ggGroups_0ok k) (AllOK.cons (f_spec_ggGroups_2ok k) AllOK.nil))
theorem s_spec_ggGroups (k : Nat) : SoundAt Tryd.prog k 68 d_spec_ggGroups.E := @fn_all Tryd.prog d_spec_ggGroups x_spec_ggGroups 68 Tryd.f68 c_spec_ggGroups (by kernel_rfl) (by kernel_rfl) (by kernel_rfl) Tryd.func68 (by kernel_rfl) (by kernel_rfl) (by kernel_rfl) T_ok g_spec_ggGroups l_spec_ggGroups z_spec_ggGroups h_spec_ggGroups k
/-! function 70 -/
noncomputable def r_impl_validCells : List PK := [PK.mk Ty.bool false none false none]
noncomputable def q_impl_validCells : List PK := [PK.mk (Ty.slice (78 : Nat) (Ty.pair (Ty.int IntKind.i64) (Ty.int IntKind.i64))) false none false none]
noncomputable def to_impl_validCells (r : Bool) : Tup r_impl_validCells × OutD := ((r, ()), none)
noncomputable def of_impl_validCells : Tup r_impl_validCells × OutD → Option (Bool)
  | (a, none) => some (a.1)
  | _ => none
theorem to_of_impl_validCells : ∀ b r, of_impl_validCells b = some r → to_impl_validCells r = b := by
  rintro ⟨a, o⟩ r h
  cases o with
  | none => injection h with h; subst h; rfl
  | some _ => cases h
noncomputable def f_impl_validCells_0 : Nat → List (Int × Int) → Int → Int → Option (LR Unit Bool)
  | 0, _, _, _ => none
  | k + 1, v8, v9, v10 =>
    if decide (v10 < v9) = true then if (0 : Int) ≤ v10 then if v10 < (↑(List.length v8) : Int) then Option.bind (f_impl_IsCell k (Prod.fst (List.getD v8 (Int.toNat v10) ((0 : Int), (0 : Int))), Prod.snd (List.getD v8 (Int.toNat v10) ((0 : Int), (0 : Int))))) fun z0 => if (!z0) = true then some (LR.ret false) else f_impl_validCells_0 k v8 v9 (wrap64 (v10 + (1 : Int))) else none else none else some (LR.go ())
noncomputable def f_impl_validCells_0i : Spec := Spec.mk [OSh.ro] [((8 : Nat), TSh.at (Sh.snap (0 : Nat) (Ty.pair (Ty.int IntKind.i64) (Ty.int IntKind.i64)))), ((9 : Nat), TSh.at (Sh.int IntKind.i64)), ((10 : Nat), TSh.at (Sh.int IntKind.i64))]
noncomputable def f_impl_validCells_0o : Spec := Spec.mk [OSh.ro] []
noncomputable def f_impl_validCells_0D : LoopDef (Tup r_impl_validCells × OutD) := .rets f_impl_validCells_0i f_impl_validCells_0o (Unit) (Bool) (fun k x => f_impl_validCells_0 k x.2.1 x.2.2.1 x.2.2.2.1) (fun z => (((), ()), (()))) (fun y => ()) (fun _ => rfl) to_impl_validCells of_impl_validCells to_of_impl_validCells
noncomputable def f_impl_validCells : Nat → List (Int × Int) → Option Bool
  | 0, _ => none
  | k + 1, p0 =>
    if decide ((↑(List.length p0) : Int) > (90 : Int)) = true then some false else Option.bind (f_impl_validCells_0 k p0 (↑(List.length p0) : Int) (0 : Int)) fun z1 => LR.on z1 (fun y1 => some true) fun r1 => some r1
noncomputable def d_impl_validCells : FnDef := .of q_impl_validCells r_impl_validCells (Bool) (fun k x => f_impl_validCells k x.1) to_impl_validCells of_impl_validCells to_of_impl_validCells
noncomputable def c_impl_validCells : Code := Tryd.f70.body.getD .skip
noncomputable def x_impl_validCells : Ctx (Tup r_impl_validCells × OutD) := { T := T, G := [(87, d_impl_IsCell.E)], mvs := [], no := 0, n := 18, res := resOf T q_impl_validCells r_impl_validCells Tryd.f70.results.toList, loops := [(0, f_impl_validCells_0D.E)], regs := [], conds := [] }
theorem g_impl_validCells (k : Nat) : EnvOK Tryd.prog k x_impl_validCells.G := (EnvOK.cons (s_impl_IsCell k) (EnvOK.nil mixed))
noncomputable def f_impl_validCells_0B : Code := (findLoop 0 c_impl_validCells).getD .skip
theorem f_impl_validCells_0h (k : Nat) (x : f_impl_validCells_0i.D) : f_impl_validCells_0D.lp (k + 1) x = loopK x_impl_validCells f_impl_validCells_0D 0 f_impl_validCells_0B k x := by kernel_rfl
theorem f_impl_validCells_0l (k : Nat) : LOK Tryd.prog x_impl_validCells k f_impl_validCells_0B := LOK.by [] (by kernel_rfl) AllOK.nil
theorem f_impl_validCells_0z (x : f_impl_validCells_0i.D) : f_impl_validCells_0D.lp 0 x = none := by kernel_rfl
theorem f_impl_validCells_0ok (k : Nat) : EOK Tryd.prog x_impl_validCells k f_impl_validCells_0D.E (.block 0 (.loop f_impl_validCells_0B)) := loop_ok T_ok g_impl_validCells f_impl_validCells_0z f_impl_validCells_0h f_impl_validCells_0l k
theorem h_impl_validCells (k : Nat) (x : Tup d_impl_validCells.ps) : d_impl_validCells.f (k + 1) x = fnK d_impl_validCells x_impl_validCells c_impl_validCells k x := by kernel_rfl
theorem z_impl_validCells (x : Tup d_impl_validCells.ps) : d_impl_validCells.f 0 x = none := by kernel_rfl
theorem l_impl_validCells (k : Nat) : LOK Tryd.prog x_impl_validCells k c_impl_validCells := LOK.by [(f_impl_validCells_0D.E, .block 0 (.loop f_impl_validCells_0B))] (by kernel_rfl) (AllOK.cons (f_impl_validCells_0ok k) AllOK.nil)
theorem s_impl_validCells (k : Nat) : SoundAt Tryd.prog k 70 d_impl_validCells.E := @fn_all Tryd.prog d_impl_validCells x_impl_validCells 70 Tryd.f70 c_impl_validCells (by kernel_rfl) (by kernel_rfl) (by kernel_rfl) Tryd.func70 (by kernel_rfl) (by kernel_rfl) (by kernel_rfl) T_ok g_impl_validCells l_impl_validCells z_impl_validCells h_impl_validCells k
/-! function 71 -/
noncomputable def r_impl_IsTurning : List PK := [PK.mk Ty.bool false none false none]
noncomputable def q_impl_IsTurning : List PK := [PK.mk (Ty.pair (Ty.int IntKind.i64) (Ty.int IntKind.i64)) true none false none]
noncomputable def to_impl_IsTurning (r : Bool) : Tup r_impl_IsTurning × OutD := ((r, ()), none)
noncomputable def of_impl_IsTurning : Tup r_impl_IsTurning × OutD → Option (Bool)
  | (a, none) => some (a.1)
  | _ => none
theorem to_of_impl_IsTurning : ∀ b r, of_impl_IsTurning b = some r → to_impl_IsTurning r = b := by
  rintro ⟨a, o⟩ r h
  cases o with
  | none => injection h with h; subst h; rfl
  | some _ => cases h
noncomputable def f_impl_IsTurning : Nat → Int × Int → Option Bool
  | 0, _ => none
  | k + 1, p0 =>
    Option.bind (f_impl_IsCell k (Prod.fst p0, Prod.snd p0)) fun z0 => if z0 = true then if decide (Prod.fst p0 = (3 : Int)) = true then some true else some (decide (Prod.fst p0 = (6 : Int))) else some false
noncomputable def d_impl_IsTurning : FnDef := .of q_impl_IsTurning r_impl_IsTurning (Bool) (fun k x => f_impl_IsTurning k x.1) to_impl_IsTurning of_impl_IsTurning to_of_impl_IsTurning
noncomputable def c_impl_IsTurning : Code := Tryd.f71.body.getD .skip
noncomputable def x_impl_IsTurning : Ctx (Tup r_impl_IsTurning × OutD) := { T := T, G := [(87, d_impl_IsCell.E)], mvs := [], no := 0, n := 15, res := resOf T q_impl_IsTurning r_impl_IsTurning Tryd.f71.results.toList, loops := [], regs := [], conds := [] }
theorem g_impl_IsTurning (k : Nat) : EnvOK Tryd.prog k x_impl_IsTurning.G := (EnvOK.cons (s_impl_IsCell k) (EnvOK.nil mixed))
theorem h_impl_IsTurning (k : Nat) (x : Tup d_impl_IsTurning.ps) : d_impl_IsTurning.f (k + 1) x = fnK d_impl_IsTurning x_impl_IsTurning c_impl_IsTurning k x := by kernel_rfl
theorem z_impl_IsTurning (x : Tup d_impl_IsTurning.ps) : d_impl_IsTurning.f 0 x = none := by kernel_rfl
theorem l_impl_IsTurning (k : Nat) : LOK Tryd.prog x_impl_IsTurning k c_impl_IsTurning := LOK.by [] (by kernel_rfl) AllOK.nil
theorem s_impl_IsTurning (k : Nat) : SoundAt Tryd.prog k 71 d_impl_IsTurning.E := @fn_all Tryd.prog d_impl_IsTurning x_impl_IsTurning 71 Tryd.f71 c_impl_IsTurning (by kernel_rfl) (by kernel_rfl) (by kernel_rfl) Tryd.func71 (by kernel_rfl) (by kernel_rfl) (by kernel_rfl) T_ok g_impl_IsTurning l_impl_IsTurning z_impl_IsTurning h_impl_IsTurning k
/-! function 73 -/
noncomputable def r_impl_groupNumbers : List PK := [PK.mk (Ty.slice (3 : Nat) (Ty.int IntKind.i64)) false none false none]
noncomputable def q_impl_groupNumbers : List PK := [PK.mk (Ty.pair (Ty.int IntKind.i64) (Ty.pair (Ty.int IntKind.i64) (Ty.slice (78 : Nat) (Ty.pair (Ty.int IntKind.i64) (Ty.int IntKind.i64))))) true none false none]
noncomputable def to_impl_groupNumbers (r : List Int) : Tup r_impl_groupNumbers × OutD := ((r, ()), none)
noncomputable def of_impl_groupNumbers : Tup r_impl_groupNumbers × OutD → Option (List Int)
  | (a, none) => some (a.1)
  | _ => none
theorem to_of_impl_groupNumbers : ∀ b r, of_impl_groupNumbers b = some r → to_impl_groupNumbers r = b := by
  rintro ⟨a, o⟩ r h
  cases o with
  | none => injection h with h; subst h; rfl
  | some _ => cases h
noncomputable def f_impl_groupNumbers_0 : Nat → Int → Int → List (Int × Int) → List Int → Int → Int → Option (Int × Int × List (Int × Int) × List Int)
  | 0, _, _, _, _, _, _ => none
  | k + 1, b1_0, b1_1, b1_2, o2, v17, v18 =>
    if decide (v18 < v17) = true then if (0 : Int) ≤ v18 then if v18 < (↑(List.length o2) : Int) then f_impl_groupNumbers_0 k b1_0 b1_1 b1_2 (List.set o2 (Int.toNat v18) (-1 : Int)) v17 (wrap64 (v18 + (1 : Int))) else none else none else some (b1_0, b1_1, b1_2, o2)
noncomputable def f_impl_groupNumbers_0i : Spec := Spec.mk [OSh.ro, OSh.box (43 : Nat) [Sh.int IntKind.i64, Sh.int IntKind.i64, Sh.snap (0 : Nat) (Ty.pair (Ty.int IntKind.i64) (Ty.int IntKind.i64))], OSh.row true (3 : Nat) (Ty.int IntKind.i64)] [((1 : Nat), TSh.at (Sh.ptr (1 : Nat) (0 : Nat))), ((3 : Nat), TSh.at (Sh.sl (2 : Nat))), ((17 : Nat), TSh.at (Sh.int IntKind.i64)), ((18 : Nat), TSh.at (Sh.int IntKind.i64))]
noncomputable def f_impl_groupNumbers_0o : Spec := Spec.mk [OSh.ro, OSh.box (43 : Nat) [Sh.int IntKind.i64, Sh.int IntKind.i64, Sh.snap (0 : Nat) (Ty.pair (Ty.int IntKind.i64) (Ty.int IntKind.i64))], OSh.row true (3 : Nat) (Ty.int IntKind.i64)] [((1 : Nat), TSh.at (Sh.ptr (1 : Nat) (0 : Nat))), ((3 : Nat), TSh.at (Sh.sl (2 : Nat)))]
noncomputable def f_impl_groupNumbers_0D : LoopDef (Tup r_impl_groupNumbers × OutD) := .plain f_impl_groupNumbers_0i f_impl_groupNumbers_0o (Int × Int × List (Int × Int) × List Int) (fun k x => f_impl_groupNumbers_0 k x.1.2.1.1 x.1.2.1.2.1 x.1.2.1.2.2.1 x.1.2.2.1 x.2.2.2.1 x.2.2.2.2.1) (fun z => (((), (z.1, z.2.1, z.2.2.1, ()), z.2.2.2, ()), ((), (), ()))) (fun y => (y.1.2.1.1, y.1.2.1.2.1, y.1.2.1.2.2.1, y.1.2.2.1)) (fun _ => rfl)
noncomputable def f_impl_groupNumbers_6 : Nat → Int → Int → List (Int × Int) → List Int → List Int → List Int → Int → List (Int × Int) → Int → Int → Int → Int → Option (Int × Int × List (Int × Int) × List Int × List Int × Int × List (Int × Int) × Int × Int)
  | 0, _, _, _, _, _, _, _, _, _, _, _, _ => none
  | k + 1, b1_0, b1_1, b1_2, o2, o3, o4, v5, v26, v27, v28, v60, v61 =>
    if decide (v61 < v60) = true then if (0 : Int) ≤ v61 then if v61 < (↑(List.length o4) : Int) then if (0 : Int) ≤ List.getD o4 (Int.toNat v61) (0 : Int) then if List.getD o4 (Int.toNat v61) (0 : Int) < (↑(List.length b1_2) : Int) then Option.bind (f_impl_isGeared k (Prod.fst (List.getD b1_2 (Int.toNat (List.getD o4 (Int.toNat v61) (0 : Int))) ((0 : Int), (0 : Int))), Prod.snd (List.getD b1_2 (Int.toNat (List.getD o4 (Int.toNat v61) (0 : Int))) ((0 : Int), (0 : Int))))) fun z3 => if z3 = true then if (0 : Int) ≤ List.getD o4 (Int.toNat v61) (0 : Int) then if List.getD o4 (Int.toNat v61) (0 : Int) < (↑(List.length o2) : Int) then if decide (List.getD o2 (Int.toNat (List.getD o4 (Int.toNat v61) (0 : Int))) (0 : Int) < (0 : Int)) = true then if (0 : Int) ≤ List.getD o4 (Int.toNat v61) (0 : Int) then if List.getD o4 (Int.toNat v61) (0 : Int) < (↑(List.length o2) : Int) then if List.length o3 + List.length [List.getD o4 (Int.toNat v61) (0 : Int)] ≤ (140737488355328 / 8 : Nat) then f_impl_groupNumbers_6 k b1_0 b1_1 b1_2 (List.set o2 (Int.toNat (List.getD o4 (Int.toNat v61) (0 : Int))) v5) (o3 ++ [List.getD o4 (Int.toNat v61) (0 : Int)]) o4 v5 v26 v27 v28 v60 (wrap64 (v61 + (1 : Int))) else none else none else none else f_impl_groupNumbers_6 k b1_0 b1_1 b1_2 o2 o3 o4 v5 v26 v27 v28 v60 (wrap64 (v61 + (1 : Int))) else none else none else f_impl_groupNumbers_6 k b1_0 b1_1 b1_2 o2 o3 o4 v5 v26 v27 v28 v60 (wrap64 (v61 + (1 : Int))) else none else none else none else none else some (b1_0, b1_1, b1_2, o2, o3, v5, v26, v27, v28)
noncomputable def f_impl_groupNumbers_6i : Spec := Spec.mk [OSh.ro, OSh.box (43 : Nat) [Sh.int IntKind.i64, Sh.int IntKind.i64, Sh.snap (0 : Nat) (Ty.pair (Ty.int IntKind.i64) (Ty.int IntKind.i64))], OSh.row true (3 : Nat) (Ty.int IntKind.i64), OSh.row true (3 : Nat) (Ty.int IntKind.i64), OSh.row true (3 : Nat) (Ty.int IntKind.i64)] [((1 : Nat), TSh.at (Sh.ptr (1 : Nat) (0 : Nat))), ((3 : Nat), TSh.at (Sh.sl (2 : Nat))), ((5 : Nat), TSh.at (Sh.int IntKind.i64)), ((8 : Nat), TSh.at (Sh.sl (3 : Nat))), ((26 : Nat), TSh.at (Sh.snap (0 : Nat) (Ty.pair (Ty.int IntKind.i64) (Ty.int IntKind.i64)))), ((27 : Nat), TSh.at (Sh.int IntKind.i64)), ((28 : Nat), TSh.at (Sh.int IntKind.i64)), ((59 : Nat), TSh.at (Sh.sl (4 : Nat))), ((60 : Nat), TSh.at (Sh.int IntKind.i64)), ((61 : Nat), TSh.at (Sh.int IntKind.i64))]
noncomputable def f_impl_groupNumbers_6o : Spec := Spec.mk [OSh.ro, OSh.box (43 : Nat) [Sh.int IntKind.i64, Sh.int IntKind.i64, Sh.snap (0 : Nat) (Ty.pair (Ty.int IntKind.i64) (Ty.int IntKind.i64))], OSh.row true (3 : Nat) (Ty.int IntKind.i64), OSh.row true (3 : Nat) (Ty.int IntKind.i64)] [((1 : Nat), TSh.at (Sh.ptr (1 : Nat) (0 : Nat))), ((3 : Nat), TSh.at (Sh.sl (2 : Nat))), ((5 : Nat), TSh.at (Sh.int IntKind.i64)), ((8 : Nat), TSh.at (Sh.sl (3 : Nat))), ((26 : Nat), TSh.at (Sh.snap (0 : Nat) (Ty.pair (Ty.int IntKind.i64) (Ty.int IntKind.i64)))), ((27 : Nat), TSh.at (Sh.int IntKind.i64)), ((28 : Nat), TSh.at (Sh.int IntKind.i64))]
noncomputable def f_impl_groupNumbers_6D : LoopDef (Tup r_impl_groupNumbers × OutD) := .plain f_impl_groupNumbers_6i f_impl_groupNumbers_6o (Int × Int × List (Int × Int) × List Int × List Int × Int × List (Int × Int) × Int × Int) (fun k x => f_impl_groupNumbers_6 k x.1.2.1.1 x.1.2.1.2.1 x.1.2.1.2.2.1 x.1.2.2.1 x.1.2.2.2.1 x.1.2.2.2.2.1 x.2.2.2.1 x.2.2.2.2.2.1 x.2.2.2.2.2.2.1 x.2.2.2.2.2.2.2.1 x.2.2.2.2.2.2.2.2.2.1 x.2.2.2.2.2.2.2.2.2.2.1) (fun z => (((), (z.1, z.2.1, z.2.2.1, ()), z.2.2.2.1, z.2.2.2.2.1, ()), ((), (), z.2.2.2.2.2.1, (), z.2.2.2.2.2.2.1, z.2.2.2.2.2.2.2.1, z.2.2.2.2.2.2.2.2, ()))) (fun y => (y.1.2.1.1, y.1.2.1.2.1, y.1.2.1.2.2.1, y.1.2.2.1, y.1.2.2.2.1, y.2.2.2.1, y.2.2.2.2.2.1, y.2.2.2.2.2.2.1, y.2.2.2.2.2.2.2.1)) (fun _ => rfl)
noncomputable def f_impl_groupNumbers_4 : Nat → Int → Int → List (Int × Int) → List Int → List Int → Int → List (Int × Int) → Int → Int → Option (Int × Int × List (Int × Int) × List Int × Int × List (Int × Int) × Int × Int)
  | 0, _, _, _, _, _, _, _, _, _ => none
  | k + 1, b1_0, b1_1, b1_2, o2, o3, v5, v26, v27, v28 =>
    if decide ((↑(List.length o3) : Int) > (0 : Int)) = true then if (0 : Int) < (↑(List.length o3) : Int) then if (1 : Int) ≤ (↑(List.length o3) : Int) then if (↑(List.length o3) : Int) ≤ (↑(List.length o3) : Int) then Option.bind (f_impl_besideOf k (b1_0, b1_1, b1_2) (List.getD o3 (Int.toNat (0 : Int)) (0 : Int))) fun z2 => Option.bind (f_impl_groupNumbers_6 k b1_0 b1_1 b1_2 o2 (List.drop (Int.toNat (1 : Int)) o3) z2 v5 v26 v27 v28 (↑(List.length z2) : Int) (0 : Int)) fun z4 => f_impl_groupNumbers_4 k (Prod.fst z4) (Prod.fst (Prod.snd z4)) (Prod.fst (Prod.snd (Prod.snd z4))) (Prod.fst (Prod.snd (Prod.snd (Prod.snd z4)))) (Prod.fst (Prod.snd (Prod.snd (Prod.snd (Prod.snd z4))))) (Prod.fst (Prod.snd (Prod.snd (Prod.snd (Prod.snd (Prod.snd z4)))))) (Prod.fst (Prod.snd (Prod.snd (Prod.snd (Prod.snd (Prod.snd (Prod.snd z4))))))) (Prod.fst (Prod.snd (Prod.snd (Prod.snd (Prod.snd (Prod.snd (Prod.snd (Prod.snd z4)))))))) (Prod.snd (Prod.snd (Prod.snd (Prod.snd (Prod.snd (Prod.snd (Prod.snd (Prod.snd z4)))))))) else none else none else none else some (b1_0, b1_1, b1_2, o2, v5, v26, v27, v28)
noncomputable def f_impl_groupNumbers_4i : Spec := Spec.mk [OSh.ro, OSh.box (43 : Nat) [Sh.int IntKind.i64, Sh.int IntKind.i64, Sh.snap (0 : Nat) (Ty.pair (Ty.int IntKind.i64) (Ty.int IntKind.i64))], OSh.row true (3 : Nat) (Ty.int IntKind.i64), OSh.row true (3 : Nat) (Ty.int IntKind.i64)] [((1 : Nat), TSh.at (Sh.ptr (1 : Nat) (0 : Nat))), ((3 : Nat), TSh.at (Sh.sl (2 : Nat))), ((5 : Nat), TSh.at (Sh.int IntKind.i64)), ((8 : Nat), TSh.at (Sh.sl (3 : Nat))), ((26 : Nat), TSh.at (Sh.snap (0 : Nat) (Ty.pair (Ty.int IntKind.i64) (Ty.int IntKind.i64)))), ((27 : Nat), TSh.at (Sh.int IntKind.i64)), ((28 : Nat), TSh.at (Sh.int IntKind.i64))]
noncomputable def f_impl_groupNumbers_4o : Spec := Spec.mk [OSh.ro, OSh.box (43 : Nat) [Sh.int IntKind.i64, Sh.int IntKind.i64, Sh.snap (0 : Nat) (Ty.pair (Ty.int IntKind.i64) (Ty.int IntKind.i64))], OSh.row true (3 : Nat) (Ty.int IntKind.i64)] [((1 : Nat), TSh.at (Sh.ptr (1 : Nat) (0 : Nat))), ((3 : Nat), TSh.at (Sh.sl (2 : Nat))), ((5 : Nat), TSh.at (Sh.int IntKind.i64)), ((26 : Nat), TSh.at (Sh.snap (0 : Nat) (Ty.pair (Ty.int IntKind.i64) (Ty.int IntKind.i64)))), ((27 : Nat), TSh.at (Sh.int IntKind.i64)), ((28 : Nat), TSh.at (Sh.int IntKind.i64))]
noncomputable def f_impl_groupNumbers_4D : LoopDef (Tup r_impl_groupNumbers × OutD) := .plain f_impl_groupNumbers_4i f_impl_groupNumbers_4o (Int × Int × List (Int × Int) × List Int × Int × List (Int × Int) × Int × Int) (fun k x => f_impl_groupNumbers_4 k x.1.2.1.1 x.1.2.1.2.1 x.1.2.1.2.2.1 x.1.2.2.1 x.1.2.2.2.1 x.2.2.2.1 x.2.2.2.2.2.1 x.2.2.2.2.2.2.1 x.2.2.2.2.2.2.2.1) (fun z => (((), (z.1, z.2.1, z.2.2.1, ()), z.2.2.2.1, ()), ((), (), z.2.2.2.2.1, z.2.2.2.2.2.1, z.2.2.2.2.2.2.1, z.2.2.2.2.2.2.2, ()))) (fun y => (y.1.2.1.1, y.1.2.1.2.1, y.1.2.1.2.2.1, y.1.2.2.1, y.2.2.2.1, y.2.2.2.2.1, y.2.2.2.2.2.1, y.2.2.2.2.2.2.1)) (fun _ => rfl)
noncomputable def f_impl_groupNumbers_2 : Nat → Int → Int → List (Int × Int) → List Int → Int → List (Int × Int) → Int → Int → Option (List Int)
  | 0, _, _, _, _, _, _, _, _ => none
  | k + 1, b1_0, b1_1, b1_2, o2, v5, v26, v27, v28 =>
    if decide (v28 < v27) = true then if (0 : Int) ≤ v28 then if v28 < (↑(List.length v26) : Int) then Option.bind (f_impl_isGeared k (Prod.fst (List.getD v26 (Int.toNat v28) ((0 : Int), (0 : Int))), Prod.snd (List.getD v26 (Int.toNat v28) ((0 : Int), (0 : Int))))) fun z1 => if (!z1) = true then f_impl_groupNumbers_2 k b1_0 b1_1 b1_2 o2 v5 v26 v27 (wrap64 (v28 + (1 : Int))) else if (0 : Int) ≤ v28 then if v28 < (↑(List.length o2) : Int) then if decide (List.getD o2 (Int.toNat v28) (0 : Int) ≥ (0 : Int)) = true then f_impl_groupNumbers_2 k b1_0 b1_1 b1_2 o2 v5 v26 v27 (wrap64 (v28 + (1 : Int))) else if (0 : Int) ≤ v28 then if v28 < (↑(List.length o2) : Int) then Option.bind (f_impl_groupNumbers_4 k b1_0 b1_1 b1_2 (List.set o2 (Int.toNat v28) v5) [v28] v5 v26 v27 v28) fun z5 => f_impl_groupNumbers_2 k (Prod.fst z5) (Prod.fst (Prod.snd z5)) (Prod.fst (Prod.snd (Prod.snd z5))) (Prod.fst (Prod.snd (Prod.snd (Prod.snd z5)))) (wrap64 (Prod.fst (Prod.snd (Prod.snd (Prod.snd (Prod.snd z5)))) + (1 : Int))) (Prod.fst (Prod.snd (Prod.snd (Prod.snd (Prod.snd (Prod.snd z5)))))) (Prod.fst (Prod.snd (Prod.snd (Prod.snd (Prod.snd (Prod.snd (Prod.snd z5))))))) (wrap64 (Prod.snd (Prod.snd (Prod.snd (Prod.snd (Prod.snd (Prod.snd (Prod.snd z5)))))) + (1 : Int))) else none else none else none else none else none else none else some o2
noncomputable def f_impl_groupNumbers_2i : Spec := Spec.mk [OSh.ro, OSh.box (43 : Nat) [Sh.int IntKind.i64, Sh.int IntKind.i64, Sh.snap (0 : Nat) (Ty.pair (Ty.int IntKind.i64) (Ty.int IntKind.i64))], OSh.row true (3 : Nat) (Ty.int IntKind.i64)] [((1 : Nat), TSh.at (Sh.ptr (1 : Nat) (0 : Nat))), ((3 : Nat), TSh.at (Sh.sl (2 : Nat))), ((5 : Nat), TSh.at (Sh.int IntKind.i64)), ((26 : Nat), TSh.at (Sh.snap (0 : Nat) (Ty.pair (Ty.int IntKind.i64) (Ty.int IntKind.i64)))), ((27 : Nat), TSh.at (Sh.int IntKind.i64)), ((28 : Nat), TSh.at (Sh.int IntKind.i64))]
noncomputable def f_impl_groupNumbers_2o : Spec := Spec.mk [OSh.ro, OSh.row true (3 : Nat) (Ty.int IntKind.i64)] [((3 : Nat), TSh.at (Sh.sl (1 : Nat)))]
noncomputable def f_impl_groupNumbers_2D : LoopDef (Tup r_impl_groupNumbers × OutD) := .plain f_impl_groupNumbers_2i f_impl_groupNumbers_2o (List Int) (fun k x => f_impl_groupNumbers_2 k x.1.2.1.1 x.1.2.1.2.1 x.1.2.1.2.2.1 x.1.2.2.1 x.2.2.2.1 x.2.2.2.2.1 x.2.2.2.2.2.1 x.2.2.2.2.2.2.1) (fun z => (((), z, ()), ((), ()))) (fun y => (y.1.2.1)) (fun _ => rfl)
noncomputable def f_impl_groupNumbers : Nat → Int × Int × List (Int × Int) → Option (List Int)
  | 0, _ => none
  | k + 1, p0 =>
    if Int.toNat (↑(List.length (Prod.snd (Prod.snd p0))) : Int) * (8 : Nat) ≤ (281474976710656 : Nat) then Option.bind (f_impl_groupNumbers_0 k (Prod.fst p0) (Prod.fst (Prod.snd p0)) (Prod.snd (Prod.snd p0)) (List.replicate (Int.toNat (↑(List.length (Prod.snd (Prod.snd p0))) : Int)) (0 : Int)) (↑(List.length (List.replicate (Int.toNat (↑(List.length (Prod.snd (Prod.snd p0))) : Int)) (0 : Int))) : Int) (0 : Int)) fun z0 => Option.bind (f_impl_groupNumbers_2 k (Prod.fst z0) (Prod.fst (Prod.snd z0)) (Prod.fst (Prod.snd (Prod.snd z0))) (Prod.snd (Prod.snd (Prod.snd z0))) (0 : Int) (Prod.fst (Prod.snd (Prod.snd z0))) (↑(List.length (Prod.fst (Prod.snd (Prod.snd z0)))) : Int) (0 : Int)) fun z6 => some z6 else none
noncomputable def d_impl_groupNumbers : FnDef := .of q_impl_groupNumbers r_impl_groupNumbers (List Int) (fun k x => f_impl_groupNumbers k x.1) to_impl_groupNumbers of_impl_groupNumbers to_of_impl_groupNumbers
noncomputable def c_impl_groupNumbers : Code := Tryd.f73.body.getD .skip
noncomputable def x_impl_groupNumbers : Ctx (Tup r_impl_groupNumbers × OutD) := { T := T, G := [(88, d_impl_isGeared.E), (89, d_impl_besideOf.E)], mvs := [56], no := 0, n := 91, res := resOf T q_impl_groupNumbers r_impl_groupNumbers Tryd.f73.results.toList, loops := [(0, f_impl_groupNumbers_0D.E), (6, f_impl_groupNumbers_6D.E), (4, f_impl_groupNumbers_4D.E), (2, f_impl_groupNumbers_2D.E)], regs := [], conds := [] }
theorem g_impl_groupNumbers (k : Nat) : EnvOK Tryd.prog k x_impl_groupNumbers.G := (EnvOK.cons (s_impl_isGeared k) (EnvOK.cons (s_impl_besideOf k) (EnvOK.nil mixed)))
noncomputable def f_impl_groupNumbers_0B : Code := (findLoop 0 c_impl_groupNumbers).getD .skip
theorem f_impl_groupNumbers_0h (k : Nat) (x : f_impl_groupNumbers_0i.D) : f_impl_groupNumbers_0D.lp (k + 1) x = loopK x_impl_groupNumbers f_impl_groupNumbers_0D 0 f_impl_groupNumbers_0B k x := by kernel_rfl
theorem f_impl_groupNumbers_0l (k : Nat) : LOK Tryd.prog x_impl_groupNumbers k f_impl_groupNumbers_0B := LOK.by [] (by kernel_rfl) AllOK.nil
theorem f_impl_groupNumbers_0z (x : f_impl_groupNumbers_0i.D) : f_impl_groupNumbers_0D.lp 0 x = none := by kernel_rfl
theorem f_impl_groupNumbers_0ok (k : Nat) : EOK Tryd.prog x_impl_groupNumbers k f_impl_groupNumbers_0D.E (.block 0 (.loop f_impl_groupNumbers_0B)) := loop_ok T_ok g_impl_groupNumbers f_impl_groupNumbers_0z f_impl_groupNumbers_0h f_impl_groupNumbers_0l k
noncomputable def f_impl_groupNumbers_6B : Code := (findLoop 6 c_impl_groupNumbers).getD .skip
theorem f_impl_groupNumbers_6h (k : Nat) (x : f_impl_groupNumbers_6i.D) : f_impl_groupNumbers_6D.lp (k + 1) x = loopK x_impl_groupNumbers f_impl_groupNumbers_6D 6 f_impl_groupNumbers_6B k x := by kernel_rfl
theorem f_impl_groupNumbers_6l (k : Nat) : LOK Tryd.prog x_impl_groupNumbers k f_impl_groupNumbers_6B := LOK.by [] (by kernel_rfl) AllOK.nil
theorem f_impl_groupNumbers_6z (x : f_impl_groupNumbers_6i.D) : f_impl_groupNumbers_6D.lp 0 x = none := by kernel_rfl
theorem f_impl_groupNumbers_6ok (k : Nat) : EOK Tryd.prog x_impl_groupNumbers k f_impl_groupNumbers_6D.E (.block 6 (.loop f_impl_groupNumbers_6B)) := loop_ok T_ok g_impl_groupNumbers f_impl_groupNumbers_6z f_impl_groupNumbers_6h f_impl_groupNumbers_6l k
noncomputable def f_impl_groupNumbers_4B : Code := (findLoop 4 c_impl_groupNumbers).getD .skip
theorem f_impl_groupNumbers_4h (k : Nat) (x : f_impl_groupNumbers_4i.D) : f_impl_groupNumbers_4D.lp (k + 1) x = loopK x_impl_groupNumbers f_impl_groupNumbers_4D 4 f_impl_groupNumbers_4B k x := by kernel_rfl
theorem f_impl_groupNumbers_4l (k : Nat) : LOK Tryd.prog x_impl_groupNumbers k f_impl_groupNumbers_4B := LOK.by [(f_impl_groupNumbers_6D.E, .block 6 (.loop f_impl_groupNumbers_6B))] (by kernel_rfl) (AllOK.cons (f_impl_groupNumbers_6ok k) AllOK.nil)
theorem f_impl_groupNumbers_4z (x : f_impl_groupNumbers_4i.D) : f_impl_groupNumbers_4D.lp 0 x = none := by kernel_rfl
theorem f_impl_groupNumbers_4ok (k : Nat) : EOK Tryd.prog x_impl_groupNumbers k f_impl_groupNumbers_4D.E (.block 4 (.loop f_impl_groupNumbers_4B)) := loop_ok T_ok g_impl_groupNumbers f_impl_groupNumbers_4z f_impl_groupNumbers_4h f_impl_groupNumbers_4l k
noncomputable def f_impl_groupNumbers_2B : Code := (findLoop 2 c_impl_groupNumbers).getD .skip
theorem f_impl_groupNumbers_2h (k : Nat) (x : f_impl_groupNumbers_2i.D) : f_impl_groupNumbers_2D.lp (k + 1) x = loopK x_impl_groupNumbers f_impl_groupNumbers_2D 2 f_impl_groupNumbers_2B k x := by kernel_rfl
theorem f_impl_groupNumbers_2l (k : Nat) : LOK Tryd.prog x_impl_groupNumbers k f_impl_groupNumbers_2B := LOK.by [(f_impl_groupNumbers_4D.E, .block 4 (.loop f_impl_groupNumbers_4B))] (by kernel_rfl) (AllOK.cons (f_impl_groupNumbers_4ok k) AllOK.nil)
theorem f_impl_groupNumbers_2z (x : f_impl_groupNumbers_2i.D) : f_impl_groupNumbers_2D.lp 0 x = none := by kernel_rfl
theorem f_impl_groupNumbers_2ok (k : Nat) : EOK Tryd.prog x_impl_groupNumbers k f_impl_groupNumbers_2D.E (.block 2 (.loop f_impl_groupNumbers_2B)) := loop_ok T_ok g_impl_groupNumbers f_impl_groupNumbers_2z f_impl_groupNumbers_2h f_impl_groupNumbers_2l k
theorem h_impl_groupNumbers (k : Nat) (x : Tup d_impl_groupNumbers.ps) : d_impl_groupNumbers.f (k + 1) x = fnK d_impl_groupNumbers x_impl_groupNumbers c_impl_groupNumbers k x := by kernel_rfl
theorem z_impl_groupNumbers (x : Tup d_impl_groupNumbers.ps) : d_impl_groupNumbers.f 0 x = none := by kernel_rfl
theorem l_impl_groupNumbers (k : Nat) : LOK Tryd.prog x_impl_groupNumbers k c_impl_groupNumbers := LOK.by [(f_impl_groupNumbers_0D.E, .block 0 (.loop f_impl_groupNumbers_0B)), (f_impl_groupNumbers_2D.E, .block 2 (.loop f_impl_groupNumbers_2B))] (by kernel_rfl) (AllOK.cons (f_impl_groupNumbers_0ok k) (AllOK.cons (f_impl_groupNumbers_2ok k) AllOK.nil))
theorem s_impl_groupNumbers (k : Nat) : SoundAt Tryd.prog k 73 d_impl_groupNumbers.E := @fn_all Tryd.prog d_impl_groupNumbers x_impl_groupNumbers 73 Tryd.f73 c_impl_groupNumbers (by kernel_rfl) (by kernel_rfl) (by kernel_rfl) Tryd.func73 (by kernel_rfl) (by kernel_rfl) (by kernel_rfl) T_ok g_impl_groupNumbers l_impl_groupNumbers z_impl_groupNumbers h_impl_groupNumbers k
/-! function 86 -/
noncomputable def r_spec_flPass : List PK := []
noncomputable def q_spec_flPass : List PK := [PK.mk (Ty.pair (Ty.int IntKind.i64) (Ty.pair (Ty.int IntKind.i64) (Ty.slice (78 : Nat) (Ty.pair (Ty.int IntKind.i64) (Ty.int IntKind.i64))))) true (some ((2 : Nat), (78 : Nat), Ty.pair (Ty.int IntKind.i64) (Ty.int IntKind.i64))) false none, PK.mk (Ty.slice (3 : Nat) (Ty.int IntKind.i64)) false none false none, PK.mk (Ty.int IntKind.i64) false none false none]
noncomputable def to_spec_flPass (r : List (Int × Int)) : Tup r_spec_flPass × OutD := ((()), some ⟨Ty.pair (Ty.int IntKind.i64) (Ty.int IntKind.i64), r⟩)
noncomputable def of_spec_flPass : Tup r_spec_flPass × OutD → Option (List (Int × Int))
  | (a, some ⟨u, ys⟩) => if h : u = Ty.pair (Ty.int IntKind.i64) (Ty.int IntKind.i64) then some (castU h ys) else none
  | _ => none
theorem to_of_spec_flPass : ∀ b r, of_spec_flPass b = some r → to_spec_flPass r = b := by
  rintro ⟨a, o⟩ r h
  cases o with
  | none => cases h
  | some s =>
    obtain ⟨u, ys⟩ := s
    simp only [of_spec_flPass] at h
    split at h
    · rename_i hu; subst hu; injection h with h; subst h; rfl
    · cases h
noncomputable def f_spec_flPass_1 : Nat → List (Int × Int) → Int → Int → List Int → Int → Int → Int → Option (List (Int × Int))
  | 0, _, _, _, _, _, _, _ => none
  | k + 1, o1, b2_0, b2_1, v1, v2, v28, v29 =>
    if decide (v29 < v28) = true then if (0 : Int) ≤ v29 then if v29 < (↑(List.length o1) : Int) then if decide (Prod.fst (List.getD o1 (Int.toNat v29) ((0 : Int), (0 : Int))) = (6 : Int)) = true then if (0 : Int) ≤ v29 then if v29 < (↑(List.length v1) : Int) then if (0 : Int) ≤ v2 then if v2 < (↑(List.length v1) : Int) then if decide (List.getD v1 (Int.toNat v29) (0 : Int) = List.getD v1 (Int.toNat v2) (0 : Int)) = true then Option.bind (f_spec_paTurn k (Prod.fst (List.getD o1 (Int.toNat v29) ((0 : Int), (0 : Int))), Prod.snd (List.getD o1 (Int.toNat v29) ((0 : Int), (0 : Int))))) fun z1 => if (0 : Int) ≤ v29 then if v29 < (↑(List.length o1) : Int) then f_spec_flPass_1 k (List.set o1 (Int.toNat v29) (Prod.fst z1, Prod.snd z1)) b2_0 b2_1 v1 v2 v28 (wrap64 (v29 + (1 : Int))) else none else none else f_spec_flPass_1 k o1 b2_0 b2_1 v1 v2 v28 (wrap64 (v29 + (1 : Int))) else none else none else none else none else f_spec_flPass_1 k o1 b2_0 b2_1 v1 v2 v28 (wrap64 (v29 + (1 : Int))) else none else none else some o1
noncomputable def f_spec_flPass_1i : Spec := Spec.mk [OSh.ro, OSh.row false (78 : Nat) (Ty.pair (Ty.int IntKind.i64) (Ty.int IntKind.i64)), OSh.box (43 : Nat) [Sh.int IntKind.i64, Sh.int IntKind.i64, Sh.sl (1 : Nat)]] [((1 : Nat), TSh.at (Sh.snap (0 : Nat) (Ty.int IntKind.i64))), ((2 : Nat), TSh.at (Sh.int IntKind.i64)), ((3 : Nat), TSh.at (Sh.ptr (2 : Nat) (0 : Nat))), ((27 : Nat), TSh.at (Sh.sl (1 : Nat))), ((28 : Nat), TSh.at (Sh.int IntKind.i64)), ((29 : Nat), TSh.at (Sh.int IntKind.i64))]
noncomputable def f_spec_flPass_1o : Spec := Spec.mk [OSh.ro, OSh.row false (78 : Nat) (Ty.pair (Ty.int IntKind.i64) (Ty.int IntKind.i64))] []
noncomputable def f_spec_flPass_1D : LoopDef (Tup r_spec_flPass × OutD) := .plain f_spec_flPass_1i f_spec_flPass_1o (List (Int × Int)) (fun k x => f_spec_flPass_1 k x.1.2.1 x.1.2.2.1.1 x.1.2.2.1.2.1 x.2.1 x.2.2.1 x.2.2.2.2.2.1 x.2.2.2.2.2.2.1) (fun z => (((), z, ()), (()))) (fun y => (y.1.2.1)) (fun _ => rfl)
noncomputable def f_spec_flPass : Nat → Int × Int × List (Int × Int) → List Int → Int → Option (List (Int × Int))
  | 0, _, _, _ => none
  | k + 1, p0, p1, p2 =>
    if (0 : Int) ≤ p2 then if p2 < (↑(List.length (Prod.snd (Prod.snd p0))) : Int) then if decide (Prod.fst (List.getD (Prod.snd (Prod.snd p0)) (Int.toNat p2) ((0 : Int), (0 : Int))) = (3 : Int)) = true then Option.bind (f_spec_paTurn k (Prod.fst (List.getD (Prod.snd (Prod.snd p0)) (Int.toNat p2) ((0 : Int), (0 : Int))), Prod.snd (List.getD (Prod.snd (Prod.snd p0)) (Int.toNat p2) ((0 : Int), (0 : Int))))) fun z0 => if (0 : Int) ≤ p2 then if p2 < (↑(List.length (Prod.snd (Prod.snd p0))) : Int) then some (List.set (Prod.snd (Prod.snd p0)) (Int.toNat p2) (Prod.fst z0, Prod.snd z0)) else none else none else if decide (Prod.fst (List.getD (Prod.snd (Prod.snd p0)) (Int.toNat p2) ((0 : Int), (0 : Int))) = (6 : Int)) = true then Option.bind (f_spec_flPass_1 k (Prod.snd (Prod.snd p0)) (Prod.fst p0) (Prod.fst (Prod.snd p0)) p1 p2 (↑(List.length (Prod.snd (Prod.snd p0))) : Int) (0 : Int)) fun z2 => some z2 else some (Prod.snd (Prod.snd p0)) else none else none
noncomputable def d_spec_flPass : FnDef := .of q_spec_flPass r_spec_flPass (List (Int × Int)) (fun k x => f_spec_flPass k x.1 x.2.1 x.2.2.1) to_spec_flPass of_spec_flPass to_of_spec_flPass
noncomputable def c_spec_flPass : Code := Tryd.f86.body.getD .skip
noncomputable def x_spec_flPass : Ctx (Tup r_spec_flPass × OutD) := { T := T, G := [(94, d_spec_paTurn.E)], mvs := [], no := 1, n := 55, res := resOf T q_spec_flPass r_spec_flPass Tryd.f86.results.toList, loops := [(1, f_spec_flPass_1D.E)], regs := [], conds := [] }
theorem g_spec_flPass (k : Nat) : EnvOK Tryd.prog k x_spec_flPass.G := (EnvOK.cons (s_spec_paTurn k) (EnvOK.nil mixed))
noncomputable def f_spec_flPass_1B : Code := (findLoop 1 c_spec_flPass).getD .skip
theorem f_spec_flPass_1h (k : Nat) (x : f_spec_flPass_1i.D) : f_spec_flPass_1D.lp (k + 1) x = loopK x_spec_flPass f_spec_flPass_1D 1 f_spec_flPass_1B k x := by kernel_rfl
theorem f_spec_flPass_1l (k : Nat) : LOK Tryd.prog x_spec_flPass k f_spec_flPass_1B := LOK.by [] (by kernel_rfl) AllOK.nil
theorem f_spec_flPass_1z (x : f_spec_flPass_1i.D) : f_spec_flPass_1D.lp 0 x = none := by kernel_rfl
theorem f_spec_flPass_1ok (k : Nat) : EOK Tryd.prog x_spec_flPass k f_spec_flPass_1D.E (.block 1 (.loop f_spec_flPass_1B)) := loop_ok T_ok g_spec_flPass f_spec_flPass_1z f_spec_flPass_1h f_spec_flPass_1l k
theorem h_spec_flPass (k : Nat) (x : Tup d_spec_flPass.ps) : d_spec_flPass.f (k + 1) x = fnK d_spec_flPass x_spec_flPass c_spec_flPass k x := by kernel_rfl
theorem z_spec_flPass (x : Tup d_spec_flPass.ps) : d_spec_flPass.f 0 x = none := by kernel_rfl
theorem l_spec_flPass (k : Nat) : LOK Tryd.prog x_spec_flPass k c_spec_flPass := LOK.by [(f_spec_flPass_1D.E, .block 1 (.loop f_spec_flPass_1B))] (by kernel_rfl) (AllOK.cons (f_spec_flPass_1ok k) AllOK.nil)
theorem s_spec_flPass (k : Nat) : SoundAt Tryd.prog k 86 d_spec_flPass.E := @fn_all Tryd.prog d_spec_flPass x_spec_flPass 86 Tryd.f86 c_spec_flPass (by kernel_rfl) (by kernel_rfl) (by kernel_rfl) Tryd.func86 (by kernel_rfl) (by kernel_rfl) (by kernel_rfl) T_ok g_spec_flPass l_spec_flPass z_spec_flPass h_spec_flPass k
/-! function 90 -/
noncomputable def r_impl_GoesTo : List PK := [PK.mk (Ty.int IntKind.i64) false none false none, PK.mk Ty.bool false none false none]
noncomputable def q_impl_GoesTo : List PK := [PK.mk (Ty.pair (Ty.int IntKind.i64) (Ty.int IntKind.i64)) true none false none, PK.mk (Ty.int IntKind.i64) false none false none]
noncomputable def to_impl_GoesTo (r : Int × Bool) : Tup r_impl_GoesTo × OutD := ((r.1, r.2, ()), none)
noncomputable def of_impl_GoesTo : Tup r_impl_GoesTo × OutD → Option (Int × Bool)
  | (a, none) => some (a.1, a.2.1)
  | _ => none
theorem to_of_impl_GoesTo : ∀ b r, of_impl_GoesTo b = some r → to_impl_GoesTo r = b := by
  rintro ⟨a, o⟩ r h
  cases o with
  | none => injection h with h; subst h; rfl
  | some _ => cases h
noncomputable def f_impl_GoesTo : Nat → Int × Int → Int → Option (Int × Bool)
  | 0, _, _ => none
  | k + 1, p0, p1 =>
    Option.bind (f_impl_IsCell k (Prod.fst p0, Prod.snd p0)) fun z0 => if (!z0) = true then some ((0 : Int), false) else if decide (p1 < (-1 : Int)) = true then some ((0 : Int), false) else if decide (p1 > (1 : Int)) = true then some ((0 : Int), false) else if decide (Prod.fst p0 = (5 : Int)) = true then some ((0 : Int), false) else if decide (Prod.fst p0 = (1 : Int)) = true then some ((-1 : Int), true) else if decide (Prod.fst p0 = (2 : Int)) = true then some ((1 : Int), true) else if decide (Prod.fst p0 = (3 : Int)) = true then some (wrap64 (wrap64 ((2 : Int) * Prod.snd p0) - (1 : Int)), true) else if decide (Prod.fst p0 = (6 : Int)) = true then some (wrap64 (wrap64 ((2 : Int) * Prod.snd p0) - (1 : Int)), true) else if decide (Prod.fst p0 = (4 : Int)) = true then some (wrap64 ((0 : Int) - p1), true) else some ((0 : Int), true)
noncomputable def d_impl_GoesTo : FnDef := .of q_impl_GoesTo r_impl_GoesTo (Int × Bool) (fun k x => f_impl_GoesTo k x.1 x.2.1) to_impl_GoesTo of_impl_GoesTo to_of_impl_GoesTo
noncomputable def c_impl_GoesTo : Code := Tryd.f90.body.getD .skip
noncomputable def x_impl_GoesTo : Ctx (Tup r_impl_GoesTo × OutD) := { T := T, G := [(87, d_impl_IsCell.E)], mvs := [], no := 0, n := 39, res := resOf T q_impl_GoesTo r_impl_GoesTo Tryd.f90.results.toList, loops := [], regs := [], conds := [] }
theorem g_impl_GoesTo (k : Nat) : EnvOK Tryd.prog k x_impl_GoesTo.G := (EnvOK.cons (s_impl_IsCell k) (EnvOK.nil mixed))
theorem h_impl_GoesTo (k : Nat) (x : Tup d_impl_GoesTo.ps) : d_impl_GoesTo.f (k + 1) x = fnK d_impl_GoesTo x_impl_GoesTo c_impl_GoesTo k x := by kernel_rfl
theorem z_impl_GoesTo (x : Tup d_impl_GoesTo.ps) : d_impl_GoesTo.f 0 x = none := by kernel_rfl
theorem l_impl_GoesTo (k : Nat) : LOK Tryd.prog x_impl_GoesTo k c_impl_GoesTo := LOK.by [] (by kernel_rfl) AllOK.nil
theorem s_impl_GoesTo (k : Nat) : SoundAt Tryd.prog k 90 d_impl_GoesTo.E := @fn_all Tryd.prog d_impl_GoesTo x_impl_GoesTo 90 Tryd.f90 c_impl_GoesTo (by kernel_rfl) (by kernel_rfl) (by kernel_rfl) Tryd.func90 (by kernel_rfl) (by kernel_rfl) (by kernel_rfl) T_ok g_impl_GoesTo l_impl_GoesTo z_impl_GoesTo h_impl_GoesTo k
end
end Go.Proofs.YtkmbhhgibgocpaaDoor.Vs

set_option maxRecDepth 100000
set_option maxHeartbeats 2000000
set_option linter.unusedVariables false
set_option linter.unusedSimpArgs false
namespace Go.Proofs.YtkmbhhgibgocpaaDoor.Vs
open Go.RowKit
noncomputable section
/-! function 6 -/
/-! function 9 -/
/-! function 15 -/
noncomputable def r_laws_toBoard : List PK := [PK.mk (Ty.pair (Ty.int IntKind.i64) (Ty.pair (Ty.int IntKind.i64) (Ty.slice (78 : Nat) (Ty.pair (Ty.int IntKind.i64) (Ty.int IntKind.i64))))) true none false none]
noncomputable def q_laws_toBoard : List PK := [PK.mk (Ty.pair (Ty.int IntKind.i64) (Ty.pair (Ty.int IntKind.i64) (Ty.slice (80 : Nat) (Ty.pair (Ty.int IntKind.i64) (Ty.int IntKind.i64))))) true none false none]
noncomputable def to_laws_toBoard (r : Int × Int × List (Int × Int)) : Tup r_laws_toBoard × OutD := ((r, ()), none)
noncomputable def of_laws_toBoard : Tup r_laws_toBoard × OutD → Option (Int × Int × List (Int × Int))
  | (a, none) => some (a.1)
  | _ => none
theorem to_of_laws_toBoard : ∀ b r, of_laws_toBoard b = some r → to_laws_toBoard r = b := by
  rintro ⟨a, o⟩ r h
  cases o with
  | none => injection h with h; subst h; rfl
  | some _ => cases h
noncomputable def f_laws_toBoard : Nat → Int × Int × List (Int × Int) → Option (Int × Int × List (Int × Int))
  | 0, _ => none
  | k + 1, p0 =>
    Option.bind (f_laws_toCellS k (Prod.snd (Prod.snd p0))) fun z0 => some (Prod.fst p0, Prod.fst (Prod.snd p0), z0)
noncomputable def d_laws_toBoard : FnDef := .of q_laws_toBoard r_laws_toBoard (Int × Int × List (Int × Int)) (fun k x => f_laws_toBoard k x.1) to_laws_toBoard of_laws_toBoard to_of_laws_toBoard
noncomputable def c_laws_toBoard : Code := Tryd.f15.body.getD .skip
noncomputable def x_laws_toBoard : Ctx (Tup r_laws_toBoard × OutD) := { T := T, G := [(32, d_laws_toCellS.E)], mvs := [], no := 0, n := 15, res := resOf T q_laws_toBoard r_laws_toBoard Tryd.f15.results.toList, loops := [], regs := [], conds := [] }
theorem g_laws_toBoard (k : Nat) : EnvOK Tryd.prog k x_laws_toBoard.G := (EnvOK.cons (s_laws_toCellS k) (EnvOK.nil mixed))
theorem h_laws_toBoard (k : Nat) (x : Tup d_laws_toBoard.ps) : d_laws_toBoard.f (k + 1) x = fnK d_laws_toBoard x_laws_toBoard c_laws_toBoard k x := by kernel_rfl
theorem z_laws_toBoard (x : Tup d_laws_toBoard.ps) : d_laws_toBoard.f 0 x = none := by kernel_rfl
theorem l_laws_toBoard (k : Nat) : LOK Tryd.prog x_laws_toBoard k c_laws_toBoard := LOK.by [] (by kernel_rfl) AllOK.nil
theorem s_laws_toBoard (k : Nat) : SoundAt Tryd.prog k 15 d_laws_toBoard.E := @fn_all Tryd.prog d_laws_toBoard x_laws_toBoard 15 Tryd.f15 c_laws_toBoard (by kernel_rfl) (by kernel_rfl) (by kernel_rfl) Tryd.func15 (by kernel_rfl) (by kernel_rfl) (by kernel_rfl) T_ok g_laws_toBoard l_laws_toBoard z_laws_toBoard h_laws_toBoard k
/-! function 19 -/
noncomputable def r_laws_eqBoard : List PK := [PK.mk Ty.bool false none false none]
noncomputable def q_laws_eqBoard : List PK := [PK.mk (Ty.pair (Ty.int IntKind.i64) (Ty.pair (Ty.int IntKind.i64) (Ty.slice (78 : Nat) (Ty.pair (Ty.int IntKind.i64) (Ty.int IntKind.i64))))) true none false none, PK.mk (Ty.pair (Ty.int IntKind.i64) (Ty.pair (Ty.int IntKind.i64) (Ty.slice (78 : Nat) (Ty.pair (Ty.int IntKind.i64) (Ty.int IntKind.i64))))) true none false none]
noncomputable def to_laws_eqBoard (r : Bool) : Tup r_laws_eqBoard × OutD := ((r, ()), none)
noncomputable def of_laws_eqBoard : Tup r_laws_eqBoard × OutD → Option (Bool)
  | (a, none) => some (a.1)
  | _ => none
theorem to_of_laws_eqBoard : ∀ b r, of_laws_eqBoard b = some r → to_laws_eqBoard r = b := by
  rintro ⟨a, o⟩ r h
  cases o with
  | none => injection h with h; subst h; rfl
  | some _ => cases h
noncomputable def f_laws_eqBoard : Nat → Int × Int × List (Int × Int) → Int × Int × List (Int × Int) → Option Bool
  | 0, _, _ => none
  | k + 1, p0, p1 =>
    if decide (Prod.fst p0 ≠ Prod.fst p1) = true then some false else if decide (Prod.fst (Prod.snd p0) ≠ Prod.fst (Prod.snd p1)) = true then some false else Option.bind (f_laws_eqCellS k (Prod.snd (Prod.snd p0)) (Prod.snd (Prod.snd p1))) fun z0 => if (!z0) = true then some false else some true
noncomputable def d_laws_eqBoard : FnDef := .of q_laws_eqBoard r_laws_eqBoard (Bool) (fun k x => f_laws_eqBoard k x.1 x.2.1) to_laws_eqBoard of_laws_eqBoard to_of_laws_eqBoard
noncomputable def c_laws_eqBoard : Code := Tryd.f19.body.getD .skip
noncomputable def x_laws_eqBoard : Ctx (Tup r_laws_eqBoard × OutD) := { T := T, G := [(36, d_laws_eqCellS.E)], mvs := [], no := 0, n := 21, res := resOf T q_laws_eqBoard r_laws_eqBoard Tryd.f19.results.toList, loops := [], regs := [], conds := [] }
theorem g_laws_eqBoard (k : Nat) : EnvOK Tryd.prog k x_laws_eqBoard.G := (EnvOK.cons (s_laws_eqCellS k) (EnvOK.nil mixed))
theorem h_laws_eqBoard (k : Nat) (x : Tup d_laws_eqBoard.ps) : d_laws_eqBoard.f (k + 1) x = fnK d_laws_eqBoard x_laws_eqBoard c_laws_eqBoard k x := by kernel_rfl
theorem z_laws_eqBoard (x : Tup d_laws_eqBoard.ps) : d_laws_eqBoard.f 0 x = none := by kernel_rfl
theorem l_laws_eqBoard (k : Nat) : LOK Tryd.prog x_laws_eqBoard k c_laws_eqBoard := LOK.by [] (by kernel_rfl) AllOK.nil
theorem s_laws_eqBoard (k : Nat) : SoundAt Tryd.prog k 19 d_laws_eqBoard.E := @fn_all Tryd.prog d_laws_eqBoard x_laws_eqBoard 19 Tryd.f19 c_laws_eqBoard (by kernel_rfl) (by kernel_rfl) (by kernel_rfl) Tryd.func19 (by kernel_rfl) (by kernel_rfl) (by kernel_rfl) T_ok g_laws_eqBoard l_laws_eqBoard z_laws_eqBoard h_laws_eqBoard k
/-! function 28 -/
/-! function 40 -/
noncomputable def r_internal_strconv_Itoa : List PK := [PK.mk Ty.str false none false none]
noncomputable def q_internal_strconv_Itoa : List PK := [PK.mk (Ty.int IntKind.i64) false none false none]
noncomputable def to_internal_strconv_Itoa (r : ByteArray) : Tup r_internal_strconv_Itoa × OutD := ((r, ()), none)
noncomputable def of_internal_strconv_Itoa : Tup r_internal_strconv_Itoa × OutD → Option (ByteArray)
  | (a, none) => some (a.1)
  | _ => none
theorem to_of_internal_strconv_Itoa : ∀ b r, of_internal_strconv_Itoa b = some r → to_internal_strconv_Itoa r = b := by
  rintro ⟨a, o⟩ r h
  cases o with
  | none => injection h with h; subst h; rfl
  | some _ => cases h
noncomputable def f_internal_strconv_Itoa : Nat → Int → Option ByteArray
  | 0, _ => none
  | k + 1, p0 =>
    Option.bind (f_internal_strconv_FormatInt k p0 (10 : Int)) fun z0 => some z0
noncomputable def d_internal_strconv_Itoa : FnDef := .of q_internal_strconv_Itoa r_internal_strconv_Itoa (ByteArray) (fun k x => f_internal_strconv_Itoa k x.1) to_internal_strconv_Itoa of_internal_strconv_Itoa to_of_internal_strconv_Itoa
noncomputable def c_internal_strconv_Itoa : Code := Tryd.f40.body.getD .skip
noncomputable def x_internal_strconv_Itoa : Ctx (Tup r_internal_strconv_Itoa × OutD) := { T := T, G := [(51, d_internal_strconv_FormatInt.E)], mvs := [], no := 0, n := 5, res := resOf T q_internal_strconv_Itoa r_internal_strconv_Itoa Tryd.f40.results.toList, loops := [], regs := [], conds := [] }
theorem g_internal_strconv_Itoa (k : Nat) : EnvOK Tryd.prog k x_internal_strconv_Itoa.G := (EnvOK.cons (s_internal_strconv_FormatInt k) (EnvOK.nil mixed))
theorem h_internal_strconv_Itoa (k : Nat) (x : Tup d_internal_strconv_Itoa.ps) : d_internal_strconv_Itoa.f (k + 1) x = fnK d_internal_strconv_Itoa x_internal_strconv_Itoa c_internal_strconv_Itoa k x := by kernel_rfl
theorem z_internal_strconv_Itoa (x : Tup d_internal_strconv_Itoa.ps) : d_internal_strconv_Itoa.f 0 x = none := by kernel_rfl
theorem l_internal_strconv_Itoa (k : Nat) : LOK Tryd.prog x_internal_strconv_Itoa k c_internal_strconv_Itoa := LOK.by [] (by kernel_rfl) AllOK.nil
theorem s_internal_strconv_Itoa (k : Nat) : SoundAt Tryd.prog k 40 d_internal_strconv_Itoa.E := @fn_all Tryd.prog d_internal_strconv_Itoa x_internal_strconv_Itoa 40 Tryd.f40 c_internal_strconv_Itoa (by kernel_rfl) (by kernel_rfl) (by kernel_rfl) Tryd.func40 (by kernel_rfl) (by kernel_rfl) (by kernel_rfl) T_ok g_internal_strconv_Itoa l_internal_strconv_Itoa z_internal_strconv_Itoa h_internal_strconv_Itoa k
/-! function 44 -/
noncomputable def r_spec_faPossible : List PK := [PK.mk (Ty.slice (26 : Nat) (Ty.pair (Ty.int IntKind.i64) (Ty.pair (Ty.int IntKind.i64) (Ty.int IntKind.i64)))) false none false none]
noncomputable def q_spec_faPossible : List PK := [PK.mk (Ty.pair (Ty.int IntKind.i64) (Ty.pair (Ty.int IntKind.i64) (Ty.slice (78 : Nat) (Ty.pair (Ty.int IntKind.i64) (Ty.int IntKind.i64))))) true none false none]
noncomputable def to_spec_faPossible (r : List (Int × Int × Int)) : Tup r_spec_faPossible × OutD := ((r, ()), none)
noncomputable def of_spec_faPossible : Tup r_spec_faPossible × OutD → Option (List (Int × Int × Int))
  | (a, none) => some (a.1)
  | _ => none
theorem to_of_spec_faPossible : ∀ b r, of_spec_faPossible b = some r → to_spec_faPossible r = b := by
  rintro ⟨a, o⟩ r h
  cases o with
  | none => injection h with h; subst h; rfl
  | some _ => cases h
noncomputable def f_spec_faPossible_2 : Nat → Int → Int → List (Int × Int) → List (Int × Int × Int) → Int → Int → Int → Int → List (Int × Int) → Int → Int → Option (Int × Int × List (Int × Int) × List (Int × Int × Int) × List (Int × Int) × Int × Int)
  | 0, _, _, _, _, _, _, _, _, _, _, _ => none
  | k + 1, b1_0, b1_1, b1_2, o2, b3_0, b3_1, v4, v6, v8, v9, v10 =>
    if decide (v6 ≤ (3 : Int)) = true then Option.bind (f_spec_faFits k (b3_0, b3_1) v6) fun z0 => if z0 = true then if b1_1 = (0 : Int) then none else if b1_1 = (0 : Int) then none else if List.length o2 + List.length [(v6, wrap64 (Int.tdiv v4 b1_1), Int.tmod v4 b1_1)] ≤ (140737488355328 / 24 : Nat) then f_spec_faPossible_2 k b1_0 b1_1 b1_2 (o2 ++ [(v6, wrap64 (Int.tdiv v4 b1_1), Int.tmod v4 b1_1)]) b3_0 b3_1 v4 (wrap64 (v6 + (1 : Int))) v8 v9 v10 else none else f_spec_faPossible_2 k b1_0 b1_1 b1_2 o2 b3_0 b3_1 v4 (wrap64 (v6 + (1 : Int))) v8 v9 v10 else some (b1_0, b1_1, b1_2, o2, v8, v9, v10)
noncomputable def f_spec_faPossible_2i : Spec := Spec.mk [OSh.ro, OSh.box (43 : Nat) [Sh.int IntKind.i64, Sh.int IntKind.i64, Sh.snap (0 : Nat) (Ty.pair (Ty.int IntKind.i64) (Ty.int IntKind.i64))], OSh.row true (26 : Nat) (Ty.pair (Ty.int IntKind.i64) (Ty.pair (Ty.int IntKind.i64) (Ty.int IntKind.i64))), OSh.box (78 : Nat) [Sh.int IntKind.i64, Sh.int IntKind.i64]] [((1 : Nat), TSh.at (Sh.ptr (1 : Nat) (0 : Nat))), ((3 : Nat), TSh.at (Sh.sl (2 : Nat))), ((4 : Nat), TSh.at (Sh.int IntKind.i64)), ((5 : Nat), TSh.at (Sh.ptr (3 : Nat) (0 : Nat))), ((6 : Nat), TSh.at (Sh.int IntKind.i64)), ((8 : Nat), TSh.at (Sh.snap (0 : Nat) (Ty.pair (Ty.int IntKind.i64) (Ty.int IntKind.i64)))), ((9 : Nat), TSh.at (Sh.int IntKind.i64)), ((10 : Nat), TSh.at (Sh.int IntKind.i64))]
noncomputable def f_spec_faPossible_2o : Spec := Spec.mk [OSh.ro, OSh.box (43 : Nat) [Sh.int IntKind.i64, Sh.int IntKind.i64, Sh.snap (0 : Nat) (Ty.pair (Ty.int IntKind.i64) (Ty.int IntKind.i64))], OSh.row true (26 : Nat) (Ty.pair (Ty.int IntKind.i64) (Ty.pair (Ty.int IntKind.i64) (Ty.int IntKind.i64)))] [((1 : Nat), TSh.at (Sh.ptr (1 : Nat) (0 : Nat))), ((3 : Nat), TSh.at (Sh.sl (2 : Nat))), ((8 : Nat), TSh.at (Sh.snap (0 : Nat) (Ty.pair (Ty.int IntKind.i64) (Ty.int IntKind.i64)))), ((9 : Nat), TSh.at (Sh.int IntKind.i64)), ((10 : Nat), TSh.at (Sh.int IntKind.i64))]
noncomputable def f_spec_faPossible_2D : LoopDef (Tup r_spec_faPossible × OutD) := .plain f_spec_faPossible_2i f_spec_faPossible_2o (Int × Int × List (Int × Int) × List (Int × Int × Int) × List (Int × Int) × Int × Int) (fun k x => f_spec_faPossible_2 k x.1.2.1.1 x.1.2.1.2.1 x.1.2.1.2.2.1 x.1.2.2.1 x.1.2.2.2.1.1 x.1.2.2.2.1.2.1 x.2.2.2.1 x.2.2.2.2.2.1 x.2.2.2.2.2.2.1 x.2.2.2.2.2.2.2.1 x.2.2.2.2.2.2.2.2.1) (fun z => (((), (z.1, z.2.1, z.2.2.1, ()), z.2.2.2.1, ()), ((), (), z.2.2.2.2.1, z.2.2.2.2.2.1, z.2.2.2.2.2.2, ()))) (fun y => (y.1.2.1.1, y.1.2.1.2.1, y.1.2.1.2.2.1, y.1.2.2.1, y.2.2.2.1, y.2.2.2.2.1, y.2.2.2.2.2.1)) (fun _ => rfl)
noncomputable def f_spec_faPossible_0 : Nat → Int → Int → List (Int × Int) → List (Int × Int × Int) → List (Int × Int) → Int → Int → Option (List (Int × Int × Int))
  | 0, _, _, _, _, _, _, _ => none
  | k + 1, b1_0, b1_1, b1_2, o2, v8, v9, v10 =>
    if decide (v10 < v9) = true then if (0 : Int) ≤ v10 then if v10 < (↑(List.length v8) : Int) then Option.bind (f_spec_faPossible_2 k b1_0 b1_1 b1_2 o2 (Prod.fst (List.getD v8 (Int.toNat v10) ((0 : Int), (0 : Int)))) (Prod.snd (List.getD v8 (Int.toNat v10) ((0 : Int), (0 : Int)))) v10 (1 : Int) v8 v9 v10) fun z1 => f_spec_faPossible_0 k (Prod.fst z1) (Prod.fst (Prod.snd z1)) (Prod.fst (Prod.snd (Prod.snd z1))) (Prod.fst (Prod.snd (Prod.snd (Prod.snd z1)))) (Prod.fst (Prod.snd (Prod.snd (Prod.snd (Prod.snd z1))))) (Prod.fst (Prod.snd (Prod.snd (Prod.snd (Prod.snd (Prod.snd z1)))))) (wrap64 (Prod.snd (Prod.snd (Prod.snd (Prod.snd (Prod.snd (Prod.snd z1))))) + (1 : Int))) else none else none else some o2
noncomputable def f_spec_faPossible_0i : Spec := Spec.mk [OSh.ro, OSh.box (43 : Nat) [Sh.int IntKind.i64, Sh.int IntKind.i64, Sh.snap (0 : Nat) (Ty.pair (Ty.int IntKind.i64) (Ty.int IntKind.i64))], OSh.row true (26 : Nat) (Ty.pair (Ty.int IntKind.i64) (Ty.pair (Ty.int IntKind.i64) (Ty.int IntKind.i64)))] [((1 : Nat), TSh.at (Sh.ptr (1 : Nat) (0 : Nat))), ((3 : Nat), TSh.at (Sh.sl (2 : Nat))), ((8 : Nat), TSh.at (Sh.snap (0 : Nat) (Ty.pair (Ty.int IntKind.i64) (Ty.int IntKind.i64)))), ((9 : Nat), TSh.at (Sh.int IntKind.i64)), ((10 : Nat), TSh.at (Sh.int IntKind.i64))]
noncomputable def f_spec_faPossible_0o : Spec := Spec.mk [OSh.ro, OSh.row true (26 : Nat) (Ty.pair (Ty.int IntKind.i64) (Ty.pair (Ty.int IntKind.i64) (Ty.int IntKind.i64)))] [((3 : Nat), TSh.at (Sh.sl (1 : Nat)))]
noncomputable def f_spec_faPossible_0D : LoopDef (Tup r_spec_faPossible × OutD) := .plain f_spec_faPossible_0i f_spec_faPossible_0o (List (Int × Int × Int)) (fun k x => f_spec_faPossible_0 k x.1.2.1.1 x.1.2.1.2.1 x.1.2.1.2.2.1 x.1.2.2.1 x.2.2.2.1 x.2.2.2.2.1 x.2.2.2.2.2.1) (fun z => (((), z, ()), ((), ()))) (fun y => (y.1.2.1)) (fun _ => rfl)
noncomputable def f_spec_faPossible : Nat → Int × Int × List (Int × Int) → Option (List (Int × Int × Int))
  | 0, _ => none
  | k + 1, p0 =>
    Option.bind (f_spec_faPossible_0 k (Prod.fst p0) (Prod.fst (Prod.snd p0)) (Prod.snd (Prod.snd p0)) [] (Prod.snd (Prod.snd p0)) (↑(List.length (Prod.snd (Prod.snd p0))) : Int) (0 : Int)) fun z2 => some z2
noncomputable def d_spec_faPossible : FnDef := .of q_spec_faPossible r_spec_faPossible (List (Int × Int × Int)) (fun k x => f_spec_faPossible k x.1) to_spec_faPossible of_spec_faPossible to_of_spec_faPossible
noncomputable def c_spec_faPossible : Code := Tryd.f44.body.getD .skip
noncomputable def x_spec_faPossible : Ctx (Tup r_spec_faPossible × OutD) := { T := T, G := [(54, d_spec_faFits.E)], mvs := [], no := 0, n := 37, res := resOf T q_spec_faPossible r_spec_faPossible Tryd.f44.results.toList, loops := [(2, f_spec_faPossible_2D.E), (0, f_spec_faPossible_0D.E)], regs := [], conds := [] }
theorem g_spec_faPossible (k : Nat) : EnvOK Tryd.prog k x_spec_faPossible.G := (EnvOK.cons (s_spec_faFits k) (EnvOK.nil mixed))
noncomputable def f_spec_faPossible_2B : Code := (findLoop 2 c_spec_faPossible).getD .skip
theorem f_spec_faPossible_2h (k : Nat) (x : f_spec_faPossible_2i.D) : f_spec_faPossible_2D.lp (k + 1) x = loopK x_spec_faPossible f_spec_faPossible_2D 2 f_spec_faPossible_2B k x := by kernel_rfl
theorem f_spec_faPossible_2l (k : Nat) : LOK Tryd.prog x_spec_faPossible k f_spec_faPossible_2B := LOK.by [] (by kernel_rfl) AllOK.nil
theorem f_spec_faPossible_2z (x : f_spec_faPossible_2i.D) : f_spec_faPossible_2D.lp 0 x = none := by kernel_rfl
theorem f_spec_faPossible_2ok (k : Nat) : EOK Tryd.prog x_spec_faPossible k f_spec_faPossible_2D.E (.block 2 (.loop f_spec_faPossible_2B)) := loop_ok T_ok g_spec_faPossible f_spec_faPossible_2z f_spec_faPossible_2h f_spec_faPossible_2l k
noncomputable def f_spec_faPossible_0B : Code := (findLoop 0 c_spec_faPossible).getD .skip
theorem f_spec_faPossible_0h (k : Nat) (x : f_spec_faPossible_0i.D) : f_spec_faPossible_0D.lp (k + 1) x = loopK x_spec_faPossible f_spec_faPossible_0D 0 f_spec_faPossible_0B k x := by kernel_rfl
theorem f_spec_faPossible_0l (k : Nat) : LOK Tryd.prog x_spec_faPossible k f_spec_faPossible_0B := LOK.by [(f_spec_faPossible_2D.E, .block 2 (.loop f_spec_faPossible_2B))] (by kernel_rfl) (AllOK.cons (f_spec_faPossible_2ok k) AllOK.nil)
theorem f_spec_faPossible_0z (x : f_spec_faPossible_0i.D) : f_spec_faPossible_0D.lp 0 x = none := by kernel_rfl
theorem f_spec_faPossible_0ok (k : Nat) : EOK Tryd.prog x_spec_faPossible k f_spec_faPossible_0D.E (.block 0 (.loop f_spec_faPossible_0B)) := loop_ok T_ok g_spec_faPossible f_spec_faPossible_0z f_spec_faPossible_0h f_spec_faPossible_0l k
theorem h_spec_faPossible (k : Nat) (x : Tup d_spec_faPossible.ps) : d_spec_faPossible.f (k + 1) x = fnK d_spec_faPossible x_spec_faPossible c_spec_faPossible k x := by kernel_rfl
theorem z_spec_faPossible (x : Tup d_spec_faPossible.ps) : d_spec_faPossible.f 0 x = none := by kernel_rfl
theorem l_spec_faPossible (k : Nat) : LOK Tryd.prog x_spec_faPossible k c_spec_faPossible := LOK.by [(f_spec_faPossible_0D.E, .block 0 (.loop f_spec_faPossible_0B))] (by kernel_rfl) (AllOK.cons (f_spec_faPossible_0ok k) AllOK.nil)
theorem s_spec_faPossible (k : Nat) : SoundAt Tryd.prog k 44 d_spec_faPossible.E := @fn_all Tryd.prog d_spec_faPossible x_spec_faPossible 44 Tryd.f44 c_spec_faPossible (by kernel_rfl) (by kernel_rfl) (by kernel_rfl) Tryd.func44 (by kernel_rfl) (by kernel_rfl) (by kernel_rfl) T_ok g_spec_faPossible l_spec_faPossible z_spec_faPossible h_spec_faPossible k
/-! function 53 -/
noncomputable def r_spec_boGood : List PK := [PK.mk Ty.bool false none false none]
noncomputable def q_spec_boGood : List PK := [PK.mk (Ty.pair (Ty.int IntKind.i64) (Ty.pair (Ty.int IntKind.i64) (Ty.slice (78 : Nat) (Ty.pair (Ty.int IntKind.i64) (Ty.int IntKind.i64))))) true none false none]
noncomputable def to_spec_boGood (r : Bool) : Tup r_spec_boGood × OutD := ((r, ()), none)
noncomputable def of_spec_boGood : Tup r_spec_boGood × OutD → Option (Bool)
  | (a, none) => some (a.1)
  | _ => none
theorem to_of_spec_boGood : ∀ b r, of_spec_boGood b = some r → to_spec_boGood r = b := by
  rintro ⟨a, o⟩ r h
  cases o with
  | none => injection h with h; subst h; rfl
  | some _ => cases h
noncomputable def f_spec_boGood_0 : Nat → List (Int × Int) → Int → Int → Option (LR Unit Bool)
  | 0, _, _, _ => none
  | k + 1, v27, v28, v29 =>
    if decide (v29 < v28) = true then if (0 : Int) ≤ v29 then if v29 < (↑(List.length v27) : Int) then Option.bind (f_spec_paGood k (Prod.fst (List.getD v27 (Int.toNat v29) ((0 : Int), (0 : Int))), Prod.snd (List.getD v27 (Int.toNat v29) ((0 : Int), (0 : Int))))) fun z2 => if (!z2) = true then some (LR.ret false) else f_spec_boGood_0 k v27 v28 (wrap64 (v29 + (1 : Int))) else none else none else some (LR.go ())
noncomputable def f_spec_boGood_0i : Spec := Spec.mk [OSh.ro] [((27 : Nat), TSh.at (Sh.snap (0 : Nat) (Ty.pair (Ty.int IntKind.i64) (Ty.int IntKind.i64)))), ((28 : Nat), TSh.at (Sh.int IntKind.i64)), ((29 : Nat), TSh.at (Sh.int IntKind.i64))]
noncomputable def f_spec_boGood_0o : Spec := Spec.mk [OSh.ro] []
noncomputable def f_spec_boGood_0D : LoopDef (Tup r_spec_boGood × OutD) := .rets f_spec_boGood_0i f_spec_boGood_0o (Unit) (Bool) (fun k x => f_spec_boGood_0 k x.2.1 x.2.2.1 x.2.2.2.1) (fun z => (((), ()), (()))) (fun y => ()) (fun _ => rfl) to_spec_boGood of_spec_boGood to_of_spec_boGood
noncomputable def f_spec_boGood : Nat → Int × Int × List (Int × Int) → Option Bool
  | 0, _ => none
  | k + 1, p0 =>
    Option.bind (f_spec_l1In k (Prod.fst p0) (1 : Int) (10 : Int)) fun z0 => if (!z0) = true then some false else Option.bind (f_spec_l1In k (Prod.fst (Prod.snd p0)) (1 : Int) (9 : Int)) fun z1 => if (!z1) = true then some false else if decide ((↑(List.length (Prod.snd (Prod.snd p0))) : Int) ≠ wrap64 (Prod.fst p0 * Prod.fst (Prod.snd p0))) = true then some false else Option.bind (f_spec_boGood_0 k (Prod.snd (Prod.snd p0)) (↑(List.length (Prod.snd (Prod.snd p0))) : Int) (0 : Int)) fun z3 => LR.on z3 (fun y3 => some true) fun r3 => some r3
noncomputable def d_spec_boGood : FnDef := .of q_spec_boGood r_spec_boGood (Bool) (fun k x => f_spec_boGood k x.1) to_spec_boGood of_spec_boGood to_of_spec_boGood
noncomputable def c_spec_boGood : Code := Tryd.f53.body.getD .skip
noncomputable def x_spec_boGood : Ctx (Tup r_spec_boGood × OutD) := { T := T, G := [(38, d_spec_l1In.E), (65, d_spec_paGood.E)], mvs := [], no := 0, n := 37, res := resOf T q_spec_boGood r_spec_boGood Tryd.f53.results.toList, loops := [(0, f_spec_boGood_0D.E)], regs := [], conds := [] }
theorem g_spec_boGood (k : Nat) : EnvOK Tryd.prog k x_spec_boGood.G := (EnvOK.cons (s_spec_l1In k) (EnvOK.cons (s_spec_paGood k) (EnvOK.nil mixed)))
noncomputable def f_spec_boGood_0B : Code := (findLoop 0 c_spec_boGood).getD .skip
theorem f_spec_boGood_0h (k : Nat) (x : f_spec_boGood_0i.D) : f_spec_boGood_0D.lp (k + 1) x = loopK x_spec_boGood f_spec_boGood_0D 0 f_spec_boGood_0B k x := by kernel_rfl
theorem f_spec_boGood_0l (k : Nat) : LOK Tryd.prog x_spec_boGood k f_spec_boGood_0B := LOK.by [] (by kernel_rfl) AllOK.nil
theorem f_spec_boGood_0z (x : f_spec_boGood_0i.D) : f_spec_boGood_0D.lp 0 x = none := by kernel_rfl
theorem f_spec_boGood_0ok (k : Nat) : EOK Tryd.prog x_spec_boGood k f_spec_boGood_0D.E (.block 0 (.loop f_spec_boGood_0B)) := loop_ok T_ok g_spec_boGood f_spec_boGood_0z f_spec_boGood_0h f_spec_boGood_0l k
theorem h_spec_boGood (k : Nat) (x : Tup d_spec_boGood.ps) : d_spec_boGood.f (k + 1) x = fnK d_spec_boGood x_spec_boGood c_spec_boGood k x := by kernel_rfl
theorem z_spec_boGood (x : Tup d_spec_boGood.ps) : d_spec_boGood.f 0 x = none := by kernel_rfl
theorem l_spec_boGood (k : Nat) : LOK Tryd.prog x_spec_boGood k c_spec_boGood := LOK.by [(f_spec_boGood_0D.E, .block 0 (.loop f_spec_boGood_0B))] (by kernel_rfl) (AllOK.cons (f_spec_boGood_0ok k) AllOK.nil)
theorem s_spec_boGood (k : Nat) : SoundAt Tryd.prog k 53 d_spec_boGood.E := @fn_all Tryd.prog d_spec_boGood x_spec_boGood 53 Tryd.f53 c_spec_boGood (by kernel_rfl) (by kernel_rfl) (by kernel_rfl) Tryd.func53 (by kernel_rfl) (by kernel_rfl) (by kernel_rfl) T_ok g_spec_boGood l_spec_boGood z_spec_boGood h_spec_boGood k
/-! function 57 -/
noncomputable def r_impl_IsBoard : List PK := [PK.mk Ty.bool false none false none]
noncomputable def q_impl_IsBoard : List PK := [PK.mk (Ty.pair (Ty.int IntKind.i64) (Ty.pair (Ty.int IntKind.i64) (Ty.slice (78 : Nat) (Ty.pair (Ty.int IntKind.i64) (Ty.int IntKind.i64))))) true none false none]
noncomputable def to_impl_IsBoard (r : Bool) : Tup r_impl_IsBoard × OutD := ((r, ()), none)
noncomputable def of_impl_IsBoard : Tup r_impl_IsBoard × OutD → Option (Bool)
  | (a, none) => some (a.1)
  | _ => none
theorem to_of_impl_IsBoard : ∀ b r, of_impl_IsBoard b = some r → to_impl_IsBoard r = b := by
  rintro ⟨a, o⟩ r h
  cases o with
  | none => injection h with h; subst h; rfl
  | some _ => cases h
noncomputable def f_impl_IsBoard : Nat → Int × Int × List (Int × Int) → Option Bool
  | 0, _ => none
  | k + 1, p0 =>
    if decide (Prod.fst p0 ≥ (1 : Int)) = true then if decide (Prod.fst p0 ≤ (10 : Int)) = true then if decide (Prod.fst (Prod.snd p0) ≥ (1 : Int)) = true then if decide (Prod.fst (Prod.snd p0) ≤ (9 : Int)) = true then if decide ((↑(List.length (Prod.snd (Prod.snd p0))) : Int) = wrap64 (Prod.fst p0 * Prod.fst (Prod.snd p0))) = true then Option.bind (f_impl_validCells k (Prod.snd (Prod.snd p0))) fun z0 => some z0 else some false else some false else some false else some false else some false
noncomputable def d_impl_IsBoard : FnDef := .of q_impl_IsBoard r_impl_IsBoard (Bool) (fun k x => f_impl_IsBoard k x.1) to_impl_IsBoard of_impl_IsBoard to_of_impl_IsBoard
noncomputable def c_impl_IsBoard : Code := Tryd.f57.body.getD .skip
noncomputable def x_impl_IsBoard : Ctx (Tup r_impl_IsBoard × OutD) := { T := T, G := [(70, d_impl_validCells.E)], mvs := [], no := 0, n := 37, res := resOf T q_impl_IsBoard r_impl_IsBoard Tryd.f57.results.toList, loops := [], regs := [], conds := [] }
theorem g_impl_IsBoard (k : Nat) : EnvOK Tryd.prog k x_impl_IsBoard.G := (EnvOK.cons (s_impl_validCells k) (EnvOK.nil mixed))
theorem h_impl_IsBoard (k : Nat) (x : Tup d_impl_IsBoard.ps) : d_impl_IsBoard.f (k + 1) x = fnK d_impl_IsBoard x_impl_IsBoard c_impl_IsBoard k x := by kernel_rfl
theorem z_impl_IsBoard (x : Tup d_impl_IsBoard.ps) : d_impl_IsBoard.f 0 x = none := by kernel_rfl
theorem l_impl_IsBoard (k : Nat) : LOK Tryd.prog x_impl_IsBoard k c_impl_IsBoard := LOK.by [] (by kernel_rfl) AllOK.nil
theorem s_impl_IsBoard (k : Nat) : SoundAt Tryd.prog k 57 d_impl_IsBoard.E := @fn_all Tryd.prog d_impl_IsBoard x_impl_IsBoard 57 Tryd.f57 c_impl_IsBoard (by kernel_rfl) (by kernel_rfl) (by kernel_rfl) Tryd.func57 (by kernel_rfl) (by kernel_rfl) (by kernel_rfl) T_ok g_impl_IsBoard l_impl_IsBoard z_impl_IsBoard h_impl_IsBoard k
/-! function 58 -/
noncomputable def r_impl_canHave : List PK := [PK.mk Ty.bool false none false none]
noncomputable def q_impl_canHave : List PK := [PK.mk (Ty.pair (Ty.int IntKind.i64) (Ty.int IntKind.i64)) true none false none, PK.mk (Ty.int IntKind.i64) false none false none]
noncomputable def to_impl_canHave (r : Bool) : Tup r_impl_canHave × OutD := ((r, ()), none)
noncomputable def of_impl_canHave : Tup r_impl_canHave × OutD → Option (Bool)
  | (a, none) => some (a.1)
  | _ => none
theorem to_of_impl_canHave : ∀ b r, of_impl_canHave b = some r → to_impl_canHave r = b := by
  rintro ⟨a, o⟩ r h
  cases o with
  | none => injection h with h; subst h; rfl
  | some _ => cases h
noncomputable def f_impl_canHave : Nat → Int × Int → Int → Option Bool
  | 0, _, _ => none
  | k + 1, p0, p1 =>
    if decide (p1 = (1 : Int)) = true then Option.bind (f_impl_IsTurning k (Prod.fst p0, Prod.snd p0)) fun z0 => some z0 else if decide (p1 = (2 : Int)) = true then some true else if decide (p1 = (3 : Int)) = true then Option.bind (f_impl_IsTurning k (Prod.fst p0, Prod.snd p0)) fun z1 => if z1 = true then some true else if decide (Prod.fst p0 = (1 : Int)) = true then some true else some (decide (Prod.fst p0 = (2 : Int))) else some false
noncomputable def d_impl_canHave : FnDef := .of q_impl_canHave r_impl_canHave (Bool) (fun k x => f_impl_canHave k x.1 x.2.1) to_impl_canHave of_impl_canHave to_of_impl_canHave
noncomputable def c_impl_canHave : Code := Tryd.f58.body.getD .skip
noncomputable def x_impl_canHave : Ctx (Tup r_impl_canHave × OutD) := { T := T, G := [(71, d_impl_IsTurning.E)], mvs := [], no := 0, n := 26, res := resOf T q_impl_canHave r_impl_canHave Tryd.f58.results.toList, loops := [], regs := [], conds := [] }
theorem g_impl_canHave (k : Nat) : EnvOK Tryd.prog k x_impl_canHave.G := (EnvOK.cons (s_impl_IsTurning k) (EnvOK.nil mixed))
theorem h_impl_canHave (k : Nat) (x : Tup d_impl_canHave.ps) : d_impl_canHave.f (k + 1) x = fnK d_impl_canHave x_impl_canHave c_impl_canHave k x := by kernel_rfl
theorem z_impl_canHave (x : Tup d_impl_canHave.ps) : d_impl_canHave.f 0 x = none := by kernel_rfl
theorem l_impl_canHave (k : Nat) : LOK Tryd.prog x_impl_canHave k c_impl_canHave := LOK.by [] (by kernel_rfl) AllOK.nil
theorem s_impl_canHave (k : Nat) : SoundAt Tryd.prog k 58 d_impl_canHave.E := @fn_all Tryd.prog d_impl_canHave x_impl_canHave 58 Tryd.f58 c_impl_canHave (by kernel_rfl) (by kernel_rfl) (by kernel_rfl) Tryd.func58 (by kernel_rfl) (by kernel_rfl) (by kernel_rfl) T_ok g_impl_canHave l_impl_canHave z_impl_canHave h_impl_canHave k
/-! function 69 -/
noncomputable def r_spec_faGo : List PK := [PK.mk (Ty.pair (Ty.int IntKind.i64) (Ty.pair (Ty.int IntKind.i64) (Ty.int IntKind.i64))) true none false none, PK.mk (Ty.pair (Ty.int IntKind.i64) (Ty.pair (Ty.int IntKind.i64) (Ty.slice (78 : Nat) (Ty.pair (Ty.int IntKind.i64) (Ty.int IntKind.i64))))) true none false none]
noncomputable def q_spec_faGo : List PK := [PK.mk (Ty.pair (Ty.int IntKind.i64) (Ty.pair (Ty.int IntKind.i64) (Ty.slice (78 : Nat) (Ty.pair (Ty.int IntKind.i64) (Ty.int IntKind.i64))))) true none false none, PK.mk (Ty.slice (3 : Nat) (Ty.int IntKind.i64)) false none false none, PK.mk (Ty.slice (26 : Nat) (Ty.pair (Ty.int IntKind.i64) (Ty.pair (Ty.int IntKind.i64) (Ty.int IntKind.i64)))) false none false none, PK.mk (Ty.int IntKind.i64) false none false none]
noncomputable def to_spec_faGo (r : (Int × Int × Int) × Int × Int × List (Int × Int)) : Tup r_spec_faGo × OutD := ((r.1, r.2, ()), none)
noncomputable def of_spec_faGo : Tup r_spec_faGo × OutD → Option ((Int × Int × Int) × Int × Int × List (Int × Int))
  | (a, none) => some (a.1, a.2.1)
  | _ => none
theorem to_of_spec_faGo : ∀ b r, of_spec_faGo b = some r → to_spec_faGo r = b := by
  rintro ⟨a, o⟩ r h
  cases o with
  | none => injection h with h; subst h; rfl
  | some _ => cases h
noncomputable def f_spec_faGo_g9 : Nat → Int → Int → Int → Int → Int → List (Int × Int) → Int → Int → List (Int × Int) → Int → Int → Option (Int × Int × Int × Int × Int × List (Int × Int)) := fun k b1_0 b1_1 b1_2 b2_0 b2_1 o3 b4_0 b4_1 o5 v3 v12 =>
    some ((3 : Int), v12, v3, b4_0, b4_1, o5)
noncomputable def f_spec_faGo_g9A : Nat → Int → Int → Int → Int → Int → List (Int × Int) → Int → Int → List (Int × Int) → Int → Int → Option (List (Int × Int × Int × Int × Int × List (Int × Int))) := fun k b1_0 b1_1 b1_2 b2_0 b2_1 o3 b4_0 b4_1 o5 v3 v12 =>
    joinL (some [((3 : Int), v12, v3, b4_0, b4_1, o5)]) (some [((3 : Int), v12, v3, b4_0, b4_1, o5)])
noncomputable def f_spec_faGo_g9i : Spec := Spec.mk [OSh.ro, OSh.box (67 : Nat) [Sh.int IntKind.i64, Sh.int IntKind.i64, Sh.int IntKind.i64], OSh.box (43 : Nat) [Sh.int IntKind.i64, Sh.int IntKind.i64, Sh.sl (3 : Nat)], OSh.row true (78 : Nat) (Ty.pair (Ty.int IntKind.i64) (Ty.int IntKind.i64)), OSh.box (43 : Nat) [Sh.int IntKind.i64, Sh.int IntKind.i64, Sh.sl (5 : Nat)], OSh.row true (78 : Nat) (Ty.pair (Ty.int IntKind.i64) (Ty.int IntKind.i64))] [((3 : Nat), TSh.at (Sh.int IntKind.i64)), ((8 : Nat), TSh.at (Sh.ptr (1 : Nat) (0 : Nat))), ((9 : Nat), TSh.at (Sh.ptr (2 : Nat) (0 : Nat))), ((10 : Nat), TSh.at (Sh.ptr (4 : Nat) (0 : Nat))), ((12 : Nat), TSh.at (Sh.int IntKind.i64))]
noncomputable def f_spec_faGo_g9o : Spec := Spec.mk [OSh.ro, OSh.box (67 : Nat) [Sh.int IntKind.i64, Sh.int IntKind.i64, Sh.int IntKind.i64], OSh.box (43 : Nat) [Sh.int IntKind.i64, Sh.int IntKind.i64, Sh.sl (3 : Nat)], OSh.row true (78 : Nat) (Ty.pair (Ty.int IntKind.i64) (Ty.int IntKind.i64))] [((8 : Nat), TSh.at (Sh.ptr (1 : Nat) (0 : Nat))), ((9 : Nat), TSh.at (Sh.ptr (2 : Nat) (0 : Nat)))]
noncomputable def f_spec_faGo_g9D : LoopDef (Tup r_spec_faGo × OutD) := .plain f_spec_faGo_g9i f_spec_faGo_g9o (Int × Int × Int × Int × Int × List (Int × Int)) (fun k x => f_spec_faGo_g9 k x.1.2.1.1 x.1.2.1.2.1 x.1.2.1.2.2.1 x.1.2.2.1.1 x.1.2.2.1.2.1 x.1.2.2.2.1 x.1.2.2.2.2.1.1 x.1.2.2.2.2.1.2.1 x.1.2.2.2.2.2.1 x.2.1 x.2.2.2.2.2.1) (fun z => (((), (z.1, z.2.1, z.2.2.1, ()), (z.2.2.2.1, z.2.2.2.2.1, (), ()), z.2.2.2.2.2, ()), ((), (), ()))) (fun y => (y.1.2.1.1, y.1.2.1.2.1, y.1.2.1.2.2.1, y.1.2.2.1.1, y.1.2.2.1.2.1, y.1.2.2.2.1)) (fun _ => rfl)
theorem f_spec_faGo_g9j (k : Nat) (b1_0 : Int) (b1_1 : Int) (b1_2 : Int) (b2_0 : Int) (b2_1 : Int) (o3 : List (Int × Int)) (b4_0 : Int) (b4_1 : Int) (o5 : List (Int × Int)) (v3 : Int) (v12 : Int) : f_spec_faGo_g9A k b1_0 b1_1 b1_2 b2_0 b2_1 o3 b4_0 b4_1 o5 v3 v12 = repl 2 (f_spec_faGo_g9 k b1_0 b1_1 b1_2 b2_0 b2_1 o3 b4_0 b4_1 o5 v3 v12) := by
  first
  | (simp only [f_spec_faGo_g9A, f_spec_faGo_g9, repl_some, repl_ite, repl_ite0, repl_ite1, repl_bind, joinL_repl, if_true]; done)
  | (simp only [f_spec_faGo_g9A, f_spec_faGo_g9, repl_some, repl_ite, repl_ite0, repl_ite1, repl_bind, joinL_repl, if_true]; simp only [joinL_grdl, joinL_grdr, repl_grd, joinL_repl]; simp only [grd_and]; exact grd_congr ⟨fun h => by simp only [h, and_self], fun h => by simp only [h, and_self]⟩)
noncomputable def f_spec_faGo_g11 : Nat → Int → Int → Int → Int → Int → List (Int × Int) → Int → Int → List (Int × Int) → Int → Int → Option (Int × Int × Int × Int × Int × List (Int × Int)) := fun k b1_0 b1_1 b1_2 b2_0 b2_1 o3 b4_0 b4_1 o5 v3 v12 =>
    some ((2 : Int), v12, v3, b4_0, b4_1, o5)
noncomputable def f_spec_faGo_g11A : Nat → Int → Int → Int → Int → Int → List (Int × Int) → Int → Int → List (Int × Int) → Int → Int → Option (List (Int × Int × Int × Int × Int × List (Int × Int))) := fun k b1_0 b1_1 b1_2 b2_0 b2_1 o3 b4_0 b4_1 o5 v3 v12 =>
    joinL (some [((2 : Int), v12, v3, b4_0, b4_1, o5)]) (some [((2 : Int), v12, v3, b4_0, b4_1, o5)])
noncomputable def f_spec_faGo_g11i : Spec := Spec.mk [OSh.ro, OSh.box (67 : Nat) [Sh.int IntKind.i64, Sh.int IntKind.i64, Sh.int IntKind.i64], OSh.box (43 : Nat) [Sh.int IntKind.i64, Sh.int IntKind.i64, Sh.sl (3 : Nat)], OSh.row true (78 : Nat) (Ty.pair (Ty.int IntKind.i64) (Ty.int IntKind.i64)), OSh.box (43 : Nat) [Sh.int IntKind.i64, Sh.int IntKind.i64, Sh.sl (5 : Nat)], OSh.row true (78 : Nat) (Ty.pair (Ty.int IntKind.i64) (Ty.int IntKind.i64))] [((3 : Nat), TSh.at (Sh.int IntKind.i64)), ((8 : Nat), TSh.at (Sh.ptr (1 : Nat) (0 : Nat))), ((9 : Nat), TSh.at (Sh.ptr (2 : Nat) (0 : Nat))), ((10 : Nat), TSh.at (Sh.ptr (4 : Nat) (0 : Nat))), ((12 : Nat), TSh.at (Sh.int IntKind.i64))]
noncomputable def f_spec_faGo_g11o : Spec := Spec.mk [OSh.ro, OSh.box (67 : Nat) [Sh.int IntKind.i64, Sh.int IntKind.i64, Sh.int IntKind.i64], OSh.box (43 : Nat) [Sh.int IntKind.i64, Sh.int IntKind.i64, Sh.sl (3 : Nat)], OSh.row true (78 : Nat) (Ty.pair (Ty.int IntKind.i64) (Ty.int IntKind.i64))] [((8 : Nat), TSh.at (Sh.ptr (1 : Nat) (0 : Nat))), ((9 : Nat), TSh.at (Sh.ptr (2 : Nat) (0 : Nat)))]
noncomputable def f_spec_faGo_g11D : LoopDef (Tup r_spec_faGo × OutD) := .plain f_spec_faGo_g11i f_spec_faGo_g11o (Int × Int × Int × Int × Int × List (Int × Int)) (fun k x => f_spec_faGo_g11 k x.1.2.1.1 x.1.2.1.2.1 x.1.2.1.2.2.1 x.1.2.2.1.1 x.1.2.2.1.2.1 x.1.2.2.2.1 x.1.2.2.2.2.1.1 x.1.2.2.2.2.1.2.1 x.1.2.2.2.2.2.1 x.2.1 x.2.2.2.2.2.1) (fun z => (((), (z.1, z.2.1, z.2.2.1, ()), (z.2.2.2.1, z.2.2.2.2.1, (), ()), z.2.2.2.2.2, ()), ((), (), ()))) (fun y => (y.1.2.1.1, y.1.2.1.2.1, y.1.2.1.2.2.1, y.1.2.2.1.1, y.1.2.2.1.2.1, y.1.2.2.2.1)) (fun _ => rfl)
theorem f_spec_faGo_g11j (k : Nat) (b1_0 : Int) (b1_1 : Int) (b1_2 : Int) (b2_0 : Int) (b2_1 : Int) (o3 : List (Int × Int)) (b4_0 : Int) (b4_1 : Int) (o5 : List (Int × Int)) (v3 : Int) (v12 : Int) : f_spec_faGo_g11A k b1_0 b1_1 b1_2 b2_0 b2_1 o3 b4_0 b4_1 o5 v3 v12 = repl 2 (f_spec_faGo_g11 k b1_0 b1_1 b1_2 b2_0 b2_1 o3 b4_0 b4_1 o5 v3 v12) := by
  first
  | (simp only [f_spec_faGo_g11A, f_spec_faGo_g11, repl_some, repl_ite, repl_ite0, repl_ite1, repl_bind, joinL_repl, if_true]; done)
  | (simp only [f_spec_faGo_g11A, f_spec_faGo_g11, repl_some, repl_ite, repl_ite0, repl_ite1, repl_bind, joinL_repl, if_true]; simp only [joinL_grdl, joinL_grdr, repl_grd, joinL_repl]; simp only [grd_and]; exact grd_congr ⟨fun h => by simp only [h, and_self], fun h => by simp only [h, and_self]⟩)
noncomputable def f_spec_faGo_j52 : Nat → Int → Int → List (Int × Int) → Int → Int → Int → Int → Int → List (Int × Int) → Int → Int → List (Int × Int) → List Int → List (Int × Int × Int) → Int → Int → Int → Bool → Option (Int × Int × List (Int × Int) × Int × Int × Int × Int × Int × List (Int × Int) × Int × Int × List (Int × Int) × List Int × List (Int × Int × Int) × Int × Int × Int) := fun k b1_0 b1_1 b1_2 b2_0 b2_1 b2_2 b3_0 b3_1 o4 b5_0 b5_1 o6 v1 v2 v3 v12 v15 v52 =>
    if v52 = true then some (b1_0, b1_1, b1_2, b2_0, b2_1, b2_2, b3_0, b3_1, o4, b5_0, b5_1, o6, v1, v2, v3, v12, wrap64 ((0 : Int) - v15)) else some (b1_0, b1_1, b1_2, b2_0, b2_1, b2_2, b3_0, b3_1, o4, b5_0, b5_1, o6, v1, v2, v3, v12, v15)
noncomputable def f_spec_faGo_j52i : Spec := Spec.mk [OSh.ro, OSh.box (43 : Nat) [Sh.int IntKind.i64, Sh.int IntKind.i64, Sh.snap (0 : Nat) (Ty.pair (Ty.int IntKind.i64) (Ty.int IntKind.i64))], OSh.box (67 : Nat) [Sh.int IntKind.i64, Sh.int IntKind.i64, Sh.int IntKind.i64], OSh.box (43 : Nat) [Sh.int IntKind.i64, Sh.int IntKind.i64, Sh.sl (4 : Nat)], OSh.row true (78 : Nat) (Ty.pair (Ty.int IntKind.i64) (Ty.int IntKind.i64)), OSh.box (43 : Nat) [Sh.int IntKind.i64, Sh.int IntKind.i64, Sh.sl (6 : Nat)], OSh.row true (78 : Nat) (Ty.pair (Ty.int IntKind.i64) (Ty.int IntKind.i64))] [((1 : Nat), TSh.at (Sh.snap (0 : Nat) (Ty.int IntKind.i64))), ((2 : Nat), TSh.at (Sh.snap (0 : Nat) (Ty.pair (Ty.int IntKind.i64) (Ty.pair (Ty.int IntKind.i64) (Ty.int IntKind.i64))))), ((3 : Nat), TSh.at (Sh.int IntKind.i64)), ((4 : Nat), TSh.at (Sh.ptr (1 : Nat) (0 : Nat))), ((8 : Nat), TSh.at (Sh.ptr (2 : Nat) (0 : Nat))), ((9 : Nat), TSh.at (Sh.ptr (3 : Nat) (0 : Nat))), ((10 : Nat), TSh.at (Sh.ptr (5 : Nat) (0 : Nat))), ((12 : Nat), TSh.at (Sh.int IntKind.i64)), ((15 : Nat), TSh.at (Sh.int IntKind.i64)), ((52 : Nat), TSh.at Sh.bool)]
noncomputable def f_spec_faGo_j52o : Spec := Spec.mk [OSh.ro, OSh.box (43 : Nat) [Sh.int IntKind.i64, Sh.int IntKind.i64, Sh.snap (0 : Nat) (Ty.pair (Ty.int IntKind.i64) (Ty.int IntKind.i64))], OSh.box (67 : Nat) [Sh.int IntKind.i64, Sh.int IntKind.i64, Sh.int IntKind.i64], OSh.box (43 : Nat) [Sh.int IntKind.i64, Sh.int IntKind.i64, Sh.sl (4 : Nat)], OSh.row true (78 : Nat) (Ty.pair (Ty.int IntKind.i64) (Ty.int IntKind.i64)), OSh.box (43 : Nat) [Sh.int IntKind.i64, Sh.int IntKind.i64, Sh.sl (6 : Nat)], OSh.row true (78 : Nat) (Ty.pair (Ty.int IntKind.i64) (Ty.int IntKind.i64))] [((1 : Nat), TSh.at (Sh.snap (0 : Nat) (Ty.int IntKind.i64))), ((2 : Nat), TSh.at (Sh.snap (0 : Nat) (Ty.pair (Ty.int IntKind.i64) (Ty.pair (Ty.int IntKind.i64) (Ty.int IntKind.i64))))), ((3 : Nat), TSh.at (Sh.int IntKind.i64)), ((4 : Nat), TSh.at (Sh.ptr (1 : Nat) (0 : Nat))), ((8 : Nat), TSh.at (Sh.ptr (2 : Nat) (0 : Nat))), ((9 : Nat), TSh.at (Sh.ptr (3 : Nat) (0 : Nat))), ((10 : Nat), TSh.at (Sh.ptr (5 : Nat) (0 : Nat))), ((12 : Nat), TSh.at (Sh.int IntKind.i64)), ((15 : Nat), TSh.at (Sh.int IntKind.i64))]
noncomputable def f_spec_faGo_j52D : LoopDef (Tup r_spec_faGo × OutD) := .plain f_spec_faGo_j52i f_spec_faGo_j52o (Int × Int × List (Int × Int) × Int × Int × Int × Int × Int × List (Int × Int) × Int × Int × List (Int × Int) × List Int × List (Int × Int × Int) × Int × Int × Int) (fun k x => f_spec_faGo_j52 k x.1.2.1.1 x.1.2.1.2.1 x.1.2.1.2.2.1 x.1.2.2.1.1 x.1.2.2.1.2.1 x.1.2.2.1.2.2.1 x.1.2.2.2.1.1 x.1.2.2.2.1.2.1 x.1.2.2.2.2.1 x.1.2.2.2.2.2.1.1 x.1.2.2.2.2.2.1.2.1 x.1.2.2.2.2.2.2.1 x.2.1 x.2.2.1 x.2.2.2.1 x.2.2.2.2.2.2.2.2.1 x.2.2.2.2.2.2.2.2.2.1 x.2.2.2.2.2.2.2.2.2.2.1) (fun z => (((), (z.1, z.2.1, z.2.2.1, ()), (z.2.2.2.1, z.2.2.2.2.1, z.2.2.2.2.2.1, ()), (z.2.2.2.2.2.2.1, z.2.2.2.2.2.2.2.1, (), ()), z.2.2.2.2.2.2.2.2.1, (z.2.2.2.2.2.2.2.2.2.1, z.2.2.2.2.2.2.2.2.2.2.1, (), ()), z.2.2.2.2.2.2.2.2.2.2.2.1, ()), (z.2.2.2.2.2.2.2.2.2.2.2.2.1, z.2.2.2.2.2.2.2.2.2.2.2.2.2.1, z.2.2.2.2.2.2.2.2.2.2.2.2.2.2.1, (), (), (), (), z.2.2.2.2.2.2.2.2.2.2.2.2.2.2.2.1, z.2.2.2.2.2.2.2.2.2.2.2.2.2.2.2.2, ()))) (fun y => (y.1.2.1.1, y.1.2.1.2.1, y.1.2.1.2.2.1, y.1.2.2.1.1, y.1.2.2.1.2.1, y.1.2.2.1.2.2.1, y.1.2.2.2.1.1, y.1.2.2.2.1.2.1, y.1.2.2.2.2.1, y.1.2.2.2.2.2.1.1, y.1.2.2.2.2.2.1.2.1, y.1.2.2.2.2.2.2.1, y.2.1, y.2.2.1, y.2.2.2.1, y.2.2.2.2.2.2.2.2.1, y.2.2.2.2.2.2.2.2.2.1)) (fun _ => rfl)
noncomputable def f_spec_faGo_2 : Nat → Int → Int → List (Int × Int) → Int → Int → Int → Int → Int → List (Int × Int) → Int → Int → List (Int × Int) → List Int → List (Int × Int × Int) → Int → Int → Int → List (Int × Int × Int) → Int → Int → Option (Int × Int × List (Int × Int) × Int × Int × Int × Int × Int × List (Int × Int) × Int × Int × List (Int × Int) × List Int × List (Int × Int × Int) × Int × Int × Int)
  | 0, _, _, _, _, _, _, _, _, _, _, _, _, _, _, _, _, _, _, _, _ => none
  | k + 1, b1_0, b1_1, b1_2, b2_0, b2_1, b2_2, b3_0, b3_1, o4, b5_0, b5_1, o6, v1, v2, v3, v12, v15, v64, v65, v66 =>
    if decide (v66 < v65) = true then if (0 : Int) ≤ v66 then if v66 < (↑(List.length v64) : Int) then if decide (Prod.fst (List.getD v64 (Int.toNat v66) ((0 : Int), (0 : Int), (0 : Int))) = (1 : Int)) = true then if (0 : Int) ≤ wrap64 (wrap64 (Prod.fst (Prod.snd (List.getD v64 (Int.toNat v66) ((0 : Int), (0 : Int), (0 : Int)))) * b1_1) + Prod.snd (Prod.snd (List.getD v64 (Int.toNat v66) ((0 : Int), (0 : Int), (0 : Int))))) then if wrap64 (wrap64 (Prod.fst (Prod.snd (List.getD v64 (Int.toNat v66) ((0 : Int), (0 : Int), (0 : Int)))) * b1_1) + Prod.snd (Prod.snd (List.getD v64 (Int.toNat v66) ((0 : Int), (0 : Int), (0 : Int))))) < (↑(List.length b1_2) : Int) then if (0 : Int) ≤ wrap64 (wrap64 (Prod.fst (Prod.snd (List.getD v64 (Int.toNat v66) ((0 : Int), (0 : Int), (0 : Int)))) * b1_1) + Prod.snd (Prod.snd (List.getD v64 (Int.toNat v66) ((0 : Int), (0 : Int), (0 : Int))))) then if wrap64 (wrap64 (Prod.fst (Prod.snd (List.getD v64 (Int.toNat v66) ((0 : Int), (0 : Int), (0 : Int)))) * b1_1) + Prod.snd (Prod.snd (List.getD v64 (Int.toNat v66) ((0 : Int), (0 : Int), (0 : Int))))) < (↑(List.length o6) : Int) then f_spec_faGo_2 k b1_0 b1_1 b1_2 b2_0 b2_1 b2_2 b3_0 b3_1 o4 b5_0 b5_1 (List.set o6 (Int.toNat (wrap64 (wrap64 (Prod.fst (Prod.snd (List.getD v64 (Int.toNat v66) ((0 : Int), (0 : Int), (0 : Int)))) * b1_1) + Prod.snd (Prod.snd (List.getD v64 (Int.toNat v66) ((0 : Int), (0 : Int), (0 : Int))))))) (Prod.fst (List.getD b1_2 (Int.toNat (wrap64 (wrap64 (Prod.fst (Prod.snd (List.getD v64 (Int.toNat v66) ((0 : Int), (0 : Int), (0 : Int)))) * b1_1) + Prod.snd (Prod.snd (List.getD v64 (Int.toNat v66) ((0 : Int), (0 : Int), (0 : Int))))))) ((0 : Int), (0 : Int))), Prod.snd (List.getD b1_2 (Int.toNat (wrap64 (wrap64 (Prod.fst (Prod.snd (List.getD v64 (Int.toNat v66) ((0 : Int), (0 : Int), (0 : Int)))) * b1_1) + Prod.snd (Prod.snd (List.getD v64 (Int.toNat v66) ((0 : Int), (0 : Int), (0 : Int))))))) ((0 : Int), (0 : Int))))) v1 v2 v3 v12 v15 v64 v65 (wrap64 (v66 + (1 : Int))) else none else none else none else none else f_spec_faGo_2 k b1_0 b1_1 b1_2 b2_0 b2_1 b2_2 b3_0 b3_1 o4 b5_0 b5_1 o6 v1 v2 v3 v12 v15 v64 v65 (wrap64 (v66 + (1 : Int))) else none else none else some (b1_0, b1_1, b1_2, b2_0, b2_1, b2_2, b3_0, b3_1, o4, b5_0, b5_1, o6, v1, v2, v3, v12, v15)
noncomputable def f_spec_faGo_2i : Spec := Spec.mk [OSh.ro, OSh.box (43 : Nat) [Sh.int IntKind.i64, Sh.int IntKind.i64, Sh.snap (0 : Nat) (Ty.pair (Ty.int IntKind.i64) (Ty.int IntKind.i64))], OSh.box (67 : Nat) [Sh.int IntKind.i64, Sh.int IntKind.i64, Sh.int IntKind.i64], OSh.box (43 : Nat) [Sh.int IntKind.i64, Sh.int IntKind.i64, Sh.sl (4 : Nat)], OSh.row true (78 : Nat) (Ty.pair (Ty.int IntKind.i64) (Ty.int IntKind.i64)), OSh.box (43 : Nat) [Sh.int IntKind.i64, Sh.int IntKind.i64, Sh.sl (6 : Nat)], OSh.row true (78 : Nat) (Ty.pair (Ty.int IntKind.i64) (Ty.int IntKind.i64))] [((1 : Nat), TSh.at (Sh.snap (0 : Nat) (Ty.int IntKind.i64))), ((2 : Nat), TSh.at (Sh.snap (0 : Nat) (Ty.pair (Ty.int IntKind.i64) (Ty.pair (Ty.int IntKind.i64) (Ty.int IntKind.i64))))), ((3 : Nat), TSh.at (Sh.int IntKind.i64)), ((4 : Nat), TSh.at (Sh.ptr (1 : Nat) (0 : Nat))), ((8 : Nat), TSh.at (Sh.ptr (2 : Nat) (0 : Nat))), ((9 : Nat), TSh.at (Sh.ptr (3 : Nat) (0 : Nat))), ((10 : Nat), TSh.at (Sh.ptr (5 : Nat) (0 : Nat))), ((12 : Nat), TSh.at (Sh.int IntKind.i64)), ((15 : Nat), TSh.at (Sh.int IntKind.i64)), ((64 : Nat), TSh.at (Sh.snap (0 : Nat) (Ty.pair (Ty.int IntKind.i64) (Ty.pair (Ty.int IntKind.i64) (Ty.int IntKind.i64))))), ((65 : Nat), TSh.at (Sh.int IntKind.i64)), ((66 : Nat), TSh.at (Sh.int IntKind.i64))]
noncomputable def f_spec_faGo_2o : Spec := Spec.mk [OSh.ro, OSh.box (43 : Nat) [Sh.int IntKind.i64, Sh.int IntKind.i64, Sh.snap (0 : Nat) (Ty.pair (Ty.int IntKind.i64) (Ty.int IntKind.i64))], OSh.box (67 : Nat) [Sh.int IntKind.i64, Sh.int IntKind.i64, Sh.int IntKind.i64], OSh.box (43 : Nat) [Sh.int IntKind.i64, Sh.int IntKind.i64, Sh.sl (4 : Nat)], OSh.row true (78 : Nat) (Ty.pair (Ty.int IntKind.i64) (Ty.int IntKind.i64)), OSh.box (43 : Nat) [Sh.int IntKind.i64, Sh.int IntKind.i64, Sh.sl (6 : Nat)], OSh.row true (78 : Nat) (Ty.pair (Ty.int IntKind.i64) (Ty.int IntKind.i64))] [((1 : Nat), TSh.at (Sh.snap (0 : Nat) (Ty.int IntKind.i64))), ((2 : Nat), TSh.at (Sh.snap (0 : Nat) (Ty.pair (Ty.int IntKind.i64) (Ty.pair (Ty.int IntKind.i64) (Ty.int IntKind.i64))))), ((3 : Nat), TSh.at (Sh.int IntKind.i64)), ((4 : Nat), TSh.at (Sh.ptr (1 : Nat) (0 : Nat))), ((8 : Nat), TSh.at (Sh.ptr (2 : Nat) (0 : Nat))), ((9 : Nat), TSh.at (Sh.ptr (3 : Nat) (0 : Nat))), ((10 : Nat), TSh.at (Sh.ptr (5 : Nat) (0 : Nat))), ((12 : Nat), TSh.at (Sh.int IntKind.i64)), ((15 : Nat), TSh.at (Sh.int IntKind.i64))]
noncomputable def f_spec_faGo_2D : LoopDef (Tup r_spec_faGo × OutD) := .plain f_spec_faGo_2i f_spec_faGo_2o (Int × Int × List (Int × Int) × Int × Int × Int × Int × Int × List (Int × Int) × Int × Int × List (Int × Int) × List Int × List (Int × Int × Int) × Int × Int × Int) (fun k x => f_spec_faGo_2 k x.1.2.1.1 x.1.2.1.2.1 x.1.2.1.2.2.1 x.1.2.2.1.1 x.1.2.2.1.2.1 x.1.2.2.1.2.2.1 x.1.2.2.2.1.1 x.1.2.2.2.1.2.1 x.1.2.2.2.2.1 x.1.2.2.2.2.2.1.1 x.1.2.2.2.2.2.1.2.1 x.1.2.2.2.2.2.2.1 x.2.1 x.2.2.1 x.2.2.2.1 x.2.2.2.2.2.2.2.2.1 x.2.2.2.2.2.2.2.2.2.1 x.2.2.2.2.2.2.2.2.2.2.1 x.2.2.2.2.2.2.2.2.2.2.2.1 x.2.2.2.2.2.2.2.2.2.2.2.2.1) (fun z => (((), (z.1, z.2.1, z.2.2.1, ()), (z.2.2.2.1, z.2.2.2.2.1, z.2.2.2.2.2.1, ()), (z.2.2.2.2.2.2.1, z.2.2.2.2.2.2.2.1, (), ()), z.2.2.2.2.2.2.2.2.1, (z.2.2.2.2.2.2.2.2.2.1, z.2.2.2.2.2.2.2.2.2.2.1, (), ()), z.2.2.2.2.2.2.2.2.2.2.2.1, ()), (z.2.2.2.2.2.2.2.2.2.2.2.2.1, z.2.2.2.2.2.2.2.2.2.2.2.2.2.1, z.2.2.2.2.2.2.2.2.2.2.2.2.2.2.1, (), (), (), (), z.2.2.2.2.2.2.2.2.2.2.2.2.2.2.2.1, z.2.2.2.2.2.2.2.2.2.2.2.2.2.2.2.2, ()))) (fun y => (y.1.2.1.1, y.1.2.1.2.1, y.1.2.1.2.2.1, y.1.2.2.1.1, y.1.2.2.1.2.1, y.1.2.2.1.2.2.1, y.1.2.2.2.1.1, y.1.2.2.2.1.2.1, y.1.2.2.2.2.1, y.1.2.2.2.2.2.1.1, y.1.2.2.2.2.2.1.2.1, y.1.2.2.2.2.2.2.1, y.2.1, y.2.2.1, y.2.2.2.1, y.2.2.2.2.2.2.2.2.1, y.2.2.2.2.2.2.2.2.2.1)) (fun _ => rfl)
noncomputable def f_spec_faGo_g26 : Nat → Int → Int → Int → Int → Int → List (Int × Int) → Int → Int → List (Int × Int) → Int → Int → Option (Int × Int × Int × Int × Int × List (Int × Int)) := fun k b1_0 b1_1 b1_2 b2_0 b2_1 o3 b4_0 b4_1 o5 v3 v12 =>
    some ((3 : Int), v12, v3, b4_0, b4_1, o5)
noncomputable def f_spec_faGo_g26A : Nat → Int → Int → Int → Int → Int → List (Int × Int) → Int → Int → List (Int × Int) → Int → Int → Option (List (Int × Int × Int × Int × Int × List (Int × Int))) := fun k b1_0 b1_1 b1_2 b2_0 b2_1 o3 b4_0 b4_1 o5 v3 v12 =>
    joinL (some [((3 : Int), v12, v3, b4_0, b4_1, o5)]) (some [((3 : Int), v12, v3, b4_0, b4_1, o5)])
noncomputable def f_spec_faGo_g26i : Spec := Spec.mk [OSh.ro, OSh.box (67 : Nat) [Sh.int IntKind.i64, Sh.int IntKind.i64, Sh.int IntKind.i64], OSh.box (43 : Nat) [Sh.int IntKind.i64, Sh.int IntKind.i64, Sh.sl (3 : Nat)], OSh.row true (78 : Nat) (Ty.pair (Ty.int IntKind.i64) (Ty.int IntKind.i64)), OSh.box (43 : Nat) [Sh.int IntKind.i64, Sh.int IntKind.i64, Sh.sl (5 : Nat)], OSh.row true (78 : Nat) (Ty.pair (Ty.int IntKind.i64) (Ty.int IntKind.i64))] [((3 : Nat), TSh.at (Sh.int IntKind.i64)), ((8 : Nat), TSh.at (Sh.ptr (1 : Nat) (0 : Nat))), ((9 : Nat), TSh.at (Sh.ptr (2 : Nat) (0 : Nat))), ((10 : Nat), TSh.at (Sh.ptr (4 : Nat) (0 : Nat))), ((12 : Nat), TSh.at (Sh.int IntKind.i64))]
noncomputable def f_spec_faGo_g26o : Spec := Spec.mk [OSh.ro, OSh.box (67 : Nat) [Sh.int IntKind.i64, Sh.int IntKind.i64, Sh.int IntKind.i64], OSh.box (43 : Nat) [Sh.int IntKind.i64, Sh.int IntKind.i64, Sh.sl (3 : Nat)], OSh.row true (78 : Nat) (Ty.pair (Ty.int IntKind.i64) (Ty.int IntKind.i64))] [((8 : Nat), TSh.at (Sh.ptr (1 : Nat) (0 : Nat))), ((9 : Nat), TSh.at (Sh.ptr (2 : Nat) (0 : Nat)))]
noncomputable def f_spec_faGo_g26D : LoopDef (Tup r_spec_faGo × OutD) := .plain f_spec_faGo_g26i f_spec_faGo_g26o (Int × Int × Int × Int × Int × List (Int × Int)) (fun k x => f_spec_faGo_g26 k x.1.2.1.1 x.1.2.1.2.1 x.1.2.1.2.2.1 x.1.2.2.1.1 x.1.2.2.1.2.1 x.1.2.2.2.1 x.1.2.2.2.2.1.1 x.1.2.2.2.2.1.2.1 x.1.2.2.2.2.2.1 x.2.1 x.2.2.2.2.2.1) (fun z => (((), (z.1, z.2.1, z.2.2.1, ()), (z.2.2.2.1, z.2.2.2.2.1, (), ()), z.2.2.2.2.2, ()), ((), (), ()))) (fun y => (y.1.2.1.1, y.1.2.1.2.1, y.1.2.1.2.2.1, y.1.2.2.1.1, y.1.2.2.1.2.1, y.1.2.2.2.1)) (fun _ => rfl)
theorem f_spec_faGo_g26j (k : Nat) (b1_0 : Int) (b1_1 : Int) (b1_2 : Int) (b2_0 : Int) (b2_1 : Int) (o3 : List (Int × Int)) (b4_0 : Int) (b4_1 : Int) (o5 : List (Int × Int)) (v3 : Int) (v12 : Int) : f_spec_faGo_g26A k b1_0 b1_1 b1_2 b2_0 b2_1 o3 b4_0 b4_1 o5 v3 v12 = repl 2 (f_spec_faGo_g26 k b1_0 b1_1 b1_2 b2_0 b2_1 o3 b4_0 b4_1 o5 v3 v12) := by
  first
  | (simp only [f_spec_faGo_g26A, f_spec_faGo_g26, repl_some, repl_ite, repl_ite0, repl_ite1, repl_bind, joinL_repl, if_true]; done)
  | (simp only [f_spec_faGo_g26A, f_spec_faGo_g26, repl_some, repl_ite, repl_ite0, repl_ite1, repl_bind, joinL_repl, if_true]; simp only [joinL_grdl, joinL_grdr, repl_grd, joinL_repl]; simp only [grd_and]; exact grd_congr ⟨fun h => by simp only [h, and_self], fun h => by simp only [h, and_self]⟩)
noncomputable def f_spec_faGo_0 : Nat → Int → Int → List (Int × Int) → Int → Int → Int → Int → Int → List (Int × Int) → Int → Int → List (Int × Int) → List Int → List (Int × Int × Int) → Int → Int → Int → Option (LR (Int × Int × List (Int × Int) × Int × Int × Int × Int × Int × List (Int × Int) × Int × Int × List (Int × Int) × Int) ((Int × Int × Int) × Int × Int × List (Int × Int)))
  | 0, _, _, _, _, _, _, _, _, _, _, _, _, _, _, _, _, _ => none
  | k + 1, b1_0, b1_1, b1_2, b2_0, b2_1, b2_2, b3_0, b3_1, o4, b5_0, b5_1, o6, v1, v2, v3, v11, v12 =>
    if decide (v12 < b1_0) = true then Option.bind (f_spec_boAt k (b5_0, b5_1, o6) v12 v3) fun z1 => Option.bind (f_spec_faAt k v2 v12 v3) fun z2 => if decide (z2 = (2 : Int)) = true then Option.bind (f_spec_faGo_g9 k b2_0 b2_1 b2_2 b3_0 b3_1 o4 b5_0 b5_1 o6 v3 v12) fun z3 => some (LR.ret ((Prod.fst z3, Prod.fst (Prod.snd z3), Prod.fst (Prod.snd (Prod.snd z3))), Prod.fst (Prod.snd (Prod.snd (Prod.snd z3))), Prod.fst (Prod.snd (Prod.snd (Prod.snd (Prod.snd z3)))), Prod.snd (Prod.snd (Prod.snd (Prod.snd (Prod.snd z3)))))) else if decide (Prod.fst z1 = (5 : Int)) = true then Option.bind (f_spec_faGo_g11 k b2_0 b2_1 b2_2 b3_0 b3_1 o4 b5_0 b5_1 o6 v3 v12) fun z4 => some (LR.ret ((Prod.fst z4, Prod.fst (Prod.snd z4), Prod.fst (Prod.snd (Prod.snd z4))), Prod.fst (Prod.snd (Prod.snd (Prod.snd z4))), Prod.fst (Prod.snd (Prod.snd (Prod.snd (Prod.snd z4)))), Prod.snd (Prod.snd (Prod.snd (Prod.snd (Prod.snd z4)))))) else Option.bind (f_spec_paGoes k (Prod.fst z1, Prod.snd z1) v11) fun z5 => Option.bind (f_spec_faGo_j52 k b1_0 b1_1 b1_2 b2_0 b2_1 b2_2 b3_0 b3_1 o4 b5_0 b5_1 o6 v1 v2 v3 v12 z5 (decide (z2 = (3 : Int)))) fun z6 => Option.bind (f_spec_flPass k (Prod.fst (Prod.snd (Prod.snd (Prod.snd (Prod.snd (Prod.snd (Prod.snd (Prod.snd (Prod.snd (Prod.snd z6))))))))), Prod.fst (Prod.snd (Prod.snd (Prod.snd (Prod.snd (Prod.snd (Prod.snd (Prod.snd (Prod.snd (Prod.snd (Prod.snd z6)))))))))), Prod.fst (Prod.snd (Prod.snd (Prod.snd (Prod.snd (Prod.snd (Prod.snd (Prod.snd (Prod.snd (Prod.snd (Prod.snd (Prod.snd z6)))))))))))) (Prod.fst (Prod.snd (Prod.snd (Prod.snd (Prod.snd (Prod.snd (Prod.snd (Prod.snd (Prod.snd (Prod.snd (Prod.snd (Prod.snd (Prod.snd z6))))))))))))) (wrap64 (wrap64 (Prod.fst (Prod.snd (Prod.snd (Prod.snd (Prod.snd (Prod.snd (Prod.snd (Prod.snd (Prod.snd (Prod.snd (Prod.snd (Prod.snd (Prod.snd (Prod.snd (Prod.snd (Prod.snd z6))))))))))))))) * Prod.fst (Prod.snd z6)) + Prod.fst (Prod.snd (Prod.snd (Prod.snd (Prod.snd (Prod.snd (Prod.snd (Prod.snd (Prod.snd (Prod.snd (Prod.snd (Prod.snd (Prod.snd (Prod.snd (Prod.snd z6))))))))))))))))) fun z7 => Option.bind (f_spec_faGo_2 k (Prod.fst z6) (Prod.fst (Prod.snd z6)) (Prod.fst (Prod.snd (Prod.snd z6))) (Prod.fst (Prod.snd (Prod.snd (Prod.snd z6)))) (Prod.fst (Prod.snd (Prod.snd (Prod.snd (Prod.snd z6))))) (Prod.fst (Prod.snd (Prod.snd (Prod.snd (Prod.snd (Prod.snd z6)))))) (Prod.fst (Prod.snd (Prod.snd (Prod.snd (Prod.snd (Prod.snd (Prod.snd z6))))))) (Prod.fst (Prod.snd (Prod.snd (Prod.snd (Prod.snd (Prod.snd (Prod.snd (Prod.snd z6)))))))) (Prod.fst (Prod.snd (Prod.snd (Prod.snd (Prod.snd (Prod.snd (Prod.snd (Prod.snd (Prod.snd z6))))))))) (Prod.fst (Prod.snd (Prod.snd (Prod.snd (Prod.snd (Prod.snd (Prod.snd (Prod.snd (Prod.snd (Prod.snd z6)))))))))) (Prod.fst (Prod.snd (Prod.snd (Prod.snd (Prod.snd (Prod.snd (Prod.snd (Prod.snd (Prod.snd (Prod.snd (Prod.snd z6))))))))))) z7 (Prod.fst (Prod.snd (Prod.snd (Prod.snd (Prod.snd (Prod.snd (Prod.snd (Prod.snd (Prod.snd (Prod.snd (Prod.snd (Prod.snd (Prod.snd z6))))))))))))) (Prod.fst (Prod.snd (Prod.snd (Prod.snd (Prod.snd (Prod.snd (Prod.snd (Prod.snd (Prod.snd (Prod.snd (Prod.snd (Prod.snd (Prod.snd (Prod.snd z6)))))))))))))) (Prod.fst (Prod.snd (Prod.snd (Prod.snd (Prod.snd (Prod.snd (Prod.snd (Prod.snd (Prod.snd (Prod.snd (Prod.snd (Prod.snd (Prod.snd (Prod.snd (Prod.snd z6))))))))))))))) (Prod.fst (Prod.snd (Prod.snd (Prod.snd (Prod.snd (Prod.snd (Prod.snd (Prod.snd (Prod.snd (Prod.snd (Prod.snd (Prod.snd (Prod.snd (Prod.snd (Prod.snd (Prod.snd z6)))))))))))))))) (Prod.snd (Prod.snd (Prod.snd (Prod.snd (Prod.snd (Prod.snd (Prod.snd (Prod.snd (Prod.snd (Prod.snd (Prod.snd (Prod.snd (Prod.snd (Prod.snd (Prod.snd (Prod.snd z6)))))))))))))))) (Prod.fst (Prod.snd (Prod.snd (Prod.snd (Prod.snd (Prod.snd (Prod.snd (Prod.snd (Prod.snd (Prod.snd (Prod.snd (Prod.snd (Prod.snd (Prod.snd z6)))))))))))))) (↑(List.length (Prod.fst (Prod.snd (Prod.snd (Prod.snd (Prod.snd (Prod.snd (Prod.snd (Prod.snd (Prod.snd (Prod.snd (Prod.snd (Prod.snd (Prod.snd (Prod.snd z6))))))))))))))) : Int) (0 : Int)) fun z8 => Option.bind (f_spec_l1In k (wrap64 (Prod.fst (Prod.snd (Prod.snd (Prod.snd (Prod.snd (Prod.snd (Prod.snd (Prod.snd (Prod.snd (Prod.snd (Prod.snd (Prod.snd (Prod.snd (Prod.snd (Prod.snd z8)))))))))))))) + Prod.snd (Prod.snd (Prod.snd (Prod.snd (Prod.snd (Prod.snd (Prod.snd (Prod.snd (Prod.snd (Prod.snd (Prod.snd (Prod.snd (Prod.snd (Prod.snd (Prod.snd (Prod.snd z8))))))))))))))))) (0 : Int) (wrap64 (Prod.fst (Prod.snd z8) - (1 : Int)))) fun z9 => if (!z9) = true then Option.bind (f_spec_faGo_g26 k (Prod.fst (Prod.snd (Prod.snd (Prod.snd z8)))) (Prod.fst (Prod.snd (Prod.snd (Prod.snd (Prod.snd z8))))) (Prod.fst (Prod.snd (Prod.snd (Prod.snd (Prod.snd (Prod.snd z8)))))) (Prod.fst (Prod.snd (Prod.snd (Prod.snd (Prod.snd (Prod.snd (Prod.snd z8))))))) (Prod.fst (Prod.snd (Prod.snd (Prod.snd (Prod.snd (Prod.snd (Prod.snd (Prod.snd z8)))))))) (Prod.fst (Prod.snd (Prod.snd (Prod.snd (Prod.snd (Prod.snd (Prod.snd (Prod.snd (Prod.snd z8))))))))) (Prod.fst (Prod.snd (Prod.snd (Prod.snd (Prod.snd (Prod.snd (Prod.snd (Prod.snd (Prod.snd (Prod.snd z8)))))))))) (Prod.fst (Prod.snd (Prod.snd (Prod.snd (Prod.snd (Prod.snd (Prod.snd (Prod.snd (Prod.snd (Prod.snd (Prod.snd z8))))))))))) (Prod.fst (Prod.snd (Prod.snd (Prod.snd (Prod.snd (Prod.snd (Prod.snd (Prod.snd (Prod.snd (Prod.snd (Prod.snd (Prod.snd z8)))))))))))) (wrap64 (Prod.fst (Prod.snd (Prod.snd (Prod.snd (Prod.snd (Prod.snd (Prod.snd (Prod.snd (Prod.snd (Prod.snd (Prod.snd (Prod.snd (Prod.snd (Prod.snd (Prod.snd z8)))))))))))))) + Prod.snd (Prod.snd (Prod.snd (Prod.snd (Prod.snd (Prod.snd (Prod.snd (Prod.snd (Prod.snd (Prod.snd (Prod.snd (Prod.snd (Prod.snd (Prod.snd (Prod.snd (Prod.snd z8))))))))))))))))) (Prod.fst (Prod.snd (Prod.snd (Prod.snd (Prod.snd (Prod.snd (Prod.snd (Prod.snd (Prod.snd (Prod.snd (Prod.snd (Prod.snd (Prod.snd (Prod.snd (Prod.snd (Prod.snd z8))))))))))))))))) fun z10 => some (LR.ret ((Prod.fst z10, Prod.fst (Prod.snd z10), Prod.fst (Prod.snd (Prod.snd z10))), Prod.fst (Prod.snd (Prod.snd (Prod.snd z10))), Prod.fst (Prod.snd (Prod.snd (Prod.snd (Prod.snd z10)))), Prod.snd (Prod.snd (Prod.snd (Prod.snd (Prod.snd z10)))))) else f_spec_faGo_0 k (Prod.fst z8) (Prod.fst (Prod.snd z8)) (Prod.fst (Prod.snd (Prod.snd z8))) (Prod.fst (Prod.snd (Prod.snd (Prod.snd z8)))) (Prod.fst (Prod.snd (Prod.snd (Prod.snd (Prod.snd z8))))) (Prod.fst (Prod.snd (Prod.snd (Prod.snd (Prod.snd (Prod.snd z8)))))) (Prod.fst (Prod.snd (Prod.snd (Prod.snd (Prod.snd (Prod.snd (Prod.snd z8))))))) (Prod.fst (Prod.snd (Prod.snd (Prod.snd (Prod.snd (Prod.snd (Prod.snd (Prod.snd z8)))))))) (Prod.fst (Prod.snd (Prod.snd (Prod.snd (Prod.snd (Prod.snd (Prod.snd (Prod.snd (Prod.snd z8))))))))) (Prod.fst (Prod.snd (Prod.snd (Prod.snd (Prod.snd (Prod.snd (Prod.snd (Prod.snd (Prod.snd (Prod.snd z8)))))))))) (Prod.fst (Prod.snd (Prod.snd (Prod.snd (Prod.snd (Prod.snd (Prod.snd (Prod.snd (Prod.snd (Prod.snd (Prod.snd z8))))))))))) (Prod.fst (Prod.snd (Prod.snd (Prod.snd (Prod.snd (Prod.snd (Prod.snd (Prod.snd (Prod.snd (Prod.snd (Prod.snd (Prod.snd z8)))))))))))) (Prod.fst (Prod.snd (Prod.snd (Prod.snd (Prod.snd (Prod.snd (Prod.snd (Prod.snd (Prod.snd (Prod.snd (Prod.snd (Prod.snd (Prod.snd z8))))))))))))) (Prod.fst (Prod.snd (Prod.snd (Prod.snd (Prod.snd (Prod.snd (Prod.snd (Prod.snd (Prod.snd (Prod.snd (Prod.snd (Prod.snd (Prod.snd (Prod.snd z8)))))))))))))) (wrap64 (Prod.fst (Prod.snd (Prod.snd (Prod.snd (Prod.snd (Prod.snd (Prod.snd (Prod.snd (Prod.snd (Prod.snd (Prod.snd (Prod.snd (Prod.snd (Prod.snd (Prod.snd z8)))))))))))))) + Prod.snd (Prod.snd (Prod.snd (Prod.snd (Prod.snd (Prod.snd (Prod.snd (Prod.snd (Prod.snd (Prod.snd (Prod.snd (Prod.snd (Prod.snd (Prod.snd (Prod.snd (Prod.snd z8))))))))))))))))) (wrap64 ((0 : Int) - Prod.snd (Prod.snd (Prod.snd (Prod.snd (Prod.snd (Prod.snd (Prod.snd (Prod.snd (Prod.snd (Prod.snd (Prod.snd (Prod.snd (Prod.snd (Prod.snd (Prod.snd (Prod.snd z8))))))))))))))))) (wrap64 (Prod.fst (Prod.snd (Prod.snd (Prod.snd (Prod.snd (Prod.snd (Prod.snd (Prod.snd (Prod.snd (Prod.snd (Prod.snd (Prod.snd (Prod.snd (Prod.snd (Prod.snd (Prod.snd z8))))))))))))))) + (1 : Int))) else some (LR.go (b1_0, b1_1, b1_2, b2_0, b2_1, b2_2, b3_0, b3_1, o4, b5_0, b5_1, o6, v3))
noncomputable def f_spec_faGo_0i : Spec := Spec.mk [OSh.ro, OSh.box (43 : Nat) [Sh.int IntKind.i64, Sh.int IntKind.i64, Sh.snap (0 : Nat) (Ty.pair (Ty.int IntKind.i64) (Ty.int IntKind.i64))], OSh.box (67 : Nat) [Sh.int IntKind.i64, Sh.int IntKind.i64, Sh.int IntKind.i64], OSh.box (43 : Nat) [Sh.int IntKind.i64, Sh.int IntKind.i64, Sh.sl (4 : Nat)], OSh.row true (78 : Nat) (Ty.pair (Ty.int IntKind.i64) (Ty.int IntKind.i64)), OSh.box (43 : Nat) [Sh.int IntKind.i64, Sh.int IntKind.i64, Sh.sl (6 : Nat)], OSh.row true (78 : Nat) (Ty.pair (Ty.int IntKind.i64) (Ty.int IntKind.i64))] [((1 : Nat), TSh.at (Sh.snap (0 : Nat) (Ty.int IntKind.i64))), ((2 : Nat), TSh.at (Sh.snap (0 : Nat) (Ty.pair (Ty.int IntKind.i64) (Ty.pair (Ty.int IntKind.i64) (Ty.int IntKind.i64))))), ((3 : Nat), TSh.at (Sh.int IntKind.i64)), ((4 : Nat), TSh.at (Sh.ptr (1 : Nat) (0 : Nat))), ((8 : Nat), TSh.at (Sh.ptr (2 : Nat) (0 : Nat))), ((9 : Nat), TSh.at (Sh.ptr (3 : Nat) (0 : Nat))), ((10 : Nat), TSh.at (Sh.ptr (5 : Nat) (0 : Nat))), ((11 : Nat), TSh.at (Sh.int IntKind.i64)), ((12 : Nat), TSh.at (Sh.int IntKind.i64))]
noncomputable def f_spec_faGo_0o : Spec := Spec.mk [OSh.ro, OSh.box (43 : Nat) [Sh.int IntKind.i64, Sh.int IntKind.i64, Sh.snap (0 : Nat) (Ty.pair (Ty.int IntKind.i64) (Ty.int IntKind.i64))], OSh.box (67 : Nat) [Sh.int IntKind.i64, Sh.int IntKind.i64, Sh.int IntKind.i64], OSh.box (43 : Nat) [Sh.int IntKind.i64, Sh.int IntKind.i64, Sh.sl (4 : Nat)], OSh.row true (78 : Nat) (Ty.pair (Ty.int IntKind.i64) (Ty.int IntKind.i64)), OSh.box (43 : Nat) [Sh.int IntKind.i64, Sh.int IntKind.i64, Sh.sl (6 : Nat)], OSh.row true (78 : Nat) (Ty.pair (Ty.int IntKind.i64) (Ty.int IntKind.i64))] [((3 : Nat), TSh.at (Sh.int IntKind.i64)), ((4 : Nat), TSh.at (Sh.ptr (1 : Nat) (0 : Nat))), ((8 : Nat), TSh.at (Sh.ptr (2 : Nat) (0 : Nat))), ((9 : Nat), TSh.at (Sh.ptr (3 : Nat) (0 : Nat))), ((10 : Nat), TSh.at (Sh.ptr (5 : Nat) (0 : Nat)))]
noncomputable def f_spec_faGo_0D : LoopDef (Tup r_spec_faGo × OutD) := .rets f_spec_faGo_0i f_spec_faGo_0o (Int × Int × List (Int × Int) × Int × Int × Int × Int × Int × List (Int × Int) × Int × Int × List (Int × Int) × Int) ((Int × Int × Int) × Int × Int × List (Int × Int)) (fun k x => f_spec_faGo_0 k x.1.2.1.1 x.1.2.1.2.1 x.1.2.1.2.2.1 x.1.2.2.1.1 x.1.2.2.1.2.1 x.1.2.2.1.2.2.1 x.1.2.2.2.1.1 x.1.2.2.2.1.2.1 x.1.2.2.2.2.1 x.1.2.2.2.2.2.1.1 x.1.2.2.2.2.2.1.2.1 x.1.2.2.2.2.2.2.1 x.2.1 x.2.2.1 x.2.2.2.1 x.2.2.2.2.2.2.2.2.1 x.2.2.2.2.2.2.2.2.2.1) (fun z => (((), (z.1, z.2.1, z.2.2.1, ()), (z.2.2.2.1, z.2.2.2.2.1, z.2.2.2.2.2.1, ()), (z.2.2.2.2.2.2.1, z.2.2.2.2.2.2.2.1, (), ()), z.2.2.2.2.2.2.2.2.1, (z.2.2.2.2.2.2.2.2.2.1, z.2.2.2.2.2.2.2.2.2.2.1, (), ()), z.2.2.2.2.2.2.2.2.2.2.2.1, ()), (z.2.2.2.2.2.2.2.2.2.2.2.2, (), (), (), (), ()))) (fun y => (y.1.2.1.1, y.1.2.1.2.1, y.1.2.1.2.2.1, y.1.2.2.1.1, y.1.2.2.1.2.1, y.1.2.2.1.2.2.1, y.1.2.2.2.1.1, y.1.2.2.2.1.2.1, y.1.2.2.2.2.1, y.1.2.2.2.2.2.1.1, y.1.2.2.2.2.2.1.2.1, y.1.2.2.2.2.2.2.1, y.2.1)) (fun _ => rfl) to_spec_faGo of_spec_faGo to_of_spec_faGo
noncomputable def f_spec_faGo_g27 : Nat → Int → Int → List (Int × Int) → Int → Int → Int → Int → Int → List (Int × Int) → Int → Int → List (Int × Int) → Int → Option (Int × Int × Int × Int × Int × List (Int × Int)) := fun k b1_0 b1_1 b1_2 b2_0 b2_1 b2_2 b3_0 b3_1 o4 b5_0 b5_1 o6 v3 =>
    some ((1 : Int), b1_0, v3, b5_0, b5_1, o6)
noncomputable def f_spec_faGo_g27A : Nat → Int → Int → List (Int × Int) → Int → Int → Int → Int → Int → List (Int × Int) → Int → Int → List (Int × Int) → Int → Option (List (Int × Int × Int × Int × Int × List (Int × Int))) := fun k b1_0 b1_1 b1_2 b2_0 b2_1 b2_2 b3_0 b3_1 o4 b5_0 b5_1 o6 v3 =>
    joinL (some [((1 : Int), b1_0, v3, b5_0, b5_1, o6)]) (some [((1 : Int), b1_0, v3, b5_0, b5_1, o6)])
noncomputable def f_spec_faGo_g27i : Spec := Spec.mk [OSh.ro, OSh.box (43 : Nat) [Sh.int IntKind.i64, Sh.int IntKind.i64, Sh.snap (0 : Nat) (Ty.pair (Ty.int IntKind.i64) (Ty.int IntKind.i64))], OSh.box (67 : Nat) [Sh.int IntKind.i64, Sh.int IntKind.i64, Sh.int IntKind.i64], OSh.box (43 : Nat) [Sh.int IntKind.i64, Sh.int IntKind.i64, Sh.sl (4 : Nat)], OSh.row true (78 : Nat) (Ty.pair (Ty.int IntKind.i64) (Ty.int IntKind.i64)), OSh.box (43 : Nat) [Sh.int IntKind.i64, Sh.int IntKind.i64, Sh.sl (6 : Nat)], OSh.row true (78 : Nat) (Ty.pair (Ty.int IntKind.i64) (Ty.int IntKind.i64))] [((3 : Nat), TSh.at (Sh.int IntKind.i64)), ((4 : Nat), TSh.at (Sh.ptr (1 : Nat) (0 : Nat))), ((8 : Nat), TSh.at (Sh.ptr (2 : Nat) (0 : Nat))), ((9 : Nat), TSh.at (Sh.ptr (3 : Nat) (0 : Nat))), ((10 : Nat), TSh.at (Sh.ptr (5 : Nat) (0 : Nat)))]
noncomputable def f_spec_faGo_g27o : Spec := Spec.mk [OSh.ro, OSh.box (67 : Nat) [Sh.int IntKind.i64, Sh.int IntKind.i64, Sh.int IntKind.i64], OSh.box (43 : Nat) [Sh.int IntKind.i64, Sh.int IntKind.i64, Sh.sl (3 : Nat)], OSh.row true (78 : Nat) (Ty.pair (Ty.int IntKind.i64) (Ty.int IntKind.i64))] [((8 : Nat), TSh.at (Sh.ptr (1 : Nat) (0 : Nat))), ((9 : Nat), TSh.at (Sh.ptr (2 : Nat) (0 : Nat)))]
noncomputable def f_spec_faGo_g27D : LoopDef (Tup r_spec_faGo × OutD) := .plain f_spec_faGo_g27i f_spec_faGo_g27o (Int × Int × Int × Int × Int × List (Int × Int)) (fun k x => f_spec_faGo_g27 k x.1.2.1.1 x.1.2.1.2.1 x.1.2.1.2.2.1 x.1.2.2.1.1 x.1.2.2.1.2.1 x.1.2.2.1.2.2.1 x.1.2.2.2.1.1 x.1.2.2.2.1.2.1 x.1.2.2.2.2.1 x.1.2.2.2.2.2.1.1 x.1.2.2.2.2.2.1.2.1 x.1.2.2.2.2.2.2.1 x.2.1) (fun z => (((), (z.1, z.2.1, z.2.2.1, ()), (z.2.2.2.1, z.2.2.2.2.1, (), ()), z.2.2.2.2.2, ()), ((), (), ()))) (fun y => (y.1.2.1.1, y.1.2.1.2.1, y.1.2.1.2.2.1, y.1.2.2.1.1, y.1.2.2.1.2.1, y.1.2.2.2.1)) (fun _ => rfl)
theorem f_spec_faGo_g27j (k : Nat) (b1_0 : Int) (b1_1 : Int) (b1_2 : List (Int × Int)) (b2_0 : Int) (b2_1 : Int) (b2_2 : Int) (b3_0 : Int) (b3_1 : Int) (o4 : List (Int × Int)) (b5_0 : Int) (b5_1 : Int) (o6 : List (Int × Int)) (v3 : Int) : f_spec_faGo_g27A k b1_0 b1_1 b1_2 b2_0 b2_1 b2_2 b3_0 b3_1 o4 b5_0 b5_1 o6 v3 = repl 2 (f_spec_faGo_g27 k b1_0 b1_1 b1_2 b2_0 b2_1 b2_2 b3_0 b3_1 o4 b5_0 b5_1 o6 v3) := by
  first
  | (simp only [f_spec_faGo_g27A, f_spec_faGo_g27, repl_some, repl_ite, repl_ite0, repl_ite1, repl_bind, joinL_repl, if_true]; done)
  | (simp only [f_spec_faGo_g27A, f_spec_faGo_g27, repl_some, repl_ite, repl_ite0, repl_ite1, repl_bind, joinL_repl, if_true]; simp only [joinL_grdl, joinL_grdr, repl_grd, joinL_repl]; simp only [grd_and]; exact grd_congr ⟨fun h => by simp only [h, and_self], fun h => by simp only [h, and_self]⟩)
noncomputable def f_spec_faGo : Nat → Int × Int × List (Int × Int) → List Int → List (Int × Int × Int) → Int → Option ((Int × Int × Int) × Int × Int × List (Int × Int))
  | 0, _, _, _, _ => none
  | k + 1, p0, p1, p2, p3 =>
    Option.bind (f_spec_boOwn k (Prod.fst p0, Prod.fst (Prod.snd p0), Prod.snd (Prod.snd p0))) fun z0 => Option.bind (f_spec_faGo_0 k (Prod.fst p0) (Prod.fst (Prod.snd p0)) (Prod.snd (Prod.snd p0)) (0 : Int) (0 : Int) (0 : Int) (0 : Int) (0 : Int) [] (Prod.fst z0) (Prod.fst (Prod.snd z0)) (Prod.snd (Prod.snd z0)) p1 p2 p3 (0 : Int) (0 : Int)) fun z11 => LR.on z11 (fun y11 => Option.bind (f_spec_faGo_g27 k (Prod.fst y11) (Prod.fst (Prod.snd y11)) (Prod.fst (Prod.snd (Prod.snd y11))) (Prod.fst (Prod.snd (Prod.snd (Prod.snd y11)))) (Prod.fst (Prod.snd (Prod.snd (Prod.snd (Prod.snd y11))))) (Prod.fst (Prod.snd (Prod.snd (Prod.snd (Prod.snd (Prod.snd y11)))))) (Prod.fst (Prod.snd (Prod.snd (Prod.snd (Prod.snd (Prod.snd (Prod.snd y11))))))) (Prod.fst (Prod.snd (Prod.snd (Prod.snd (Prod.snd (Prod.snd (Prod.snd (Prod.snd y11)))))))) (Prod.fst (Prod.snd (Prod.snd (Prod.snd (Prod.snd (Prod.snd (Prod.snd (Prod.snd (Prod.snd y11))))))))) (Prod.fst (Prod.snd (Prod.snd (Prod.snd (Prod.snd (Prod.snd (Prod.snd (Prod.snd (Prod.snd (Prod.snd y11)))))))))) (Prod.fst (Prod.snd (Prod.snd (Prod.snd (Prod.snd (Prod.snd (Prod.snd (Prod.snd (Prod.snd (Prod.snd (Prod.snd y11))))))))))) (Prod.fst (Prod.snd (Prod.snd (Prod.snd (Prod.snd (Prod.snd (Prod.snd (Prod.snd (Prod.snd (Prod.snd (Prod.snd (Prod.snd y11)))))))))))) (Prod.snd (Prod.snd (Prod.snd (Prod.snd (Prod.snd (Prod.snd (Prod.snd (Prod.snd (Prod.snd (Prod.snd (Prod.snd (Prod.snd y11))))))))))))) fun z12 => some ((Prod.fst z12, Prod.fst (Prod.snd z12), Prod.fst (Prod.snd (Prod.snd z12))), Prod.fst (Prod.snd (Prod.snd (Prod.snd z12))), Prod.fst (Prod.snd (Prod.snd (Prod.snd (Prod.snd z12)))), Prod.snd (Prod.snd (Prod.snd (Prod.snd (Prod.snd z12)))))) fun r11 => some r11
noncomputable def d_spec_faGo : FnDef := .of q_spec_faGo r_spec_faGo ((Int × Int × Int) × Int × Int × List (Int × Int)) (fun k x => f_spec_faGo k x.1 x.2.1 x.2.2.1 x.2.2.2.1) to_spec_faGo of_spec_faGo to_of_spec_faGo
noncomputable def c_spec_faGo : Code := Tryd.f69.body.getD .skip
noncomputable def x_spec_faGo : Ctx (Tup r_spec_faGo × OutD) := { T := T, G := [(67, d_spec_boOwn.E), (83, d_spec_boAt.E), (84, d_spec_faAt.E), (85, d_spec_paGoes.E), (86, d_spec_flPass.E), (38, d_spec_l1In.E)], mvs := [], no := 0, n := 111, res := resOf T q_spec_faGo r_spec_faGo Tryd.f69.results.toList, loops := [(2, f_spec_faGo_2D.E), (0, f_spec_faGo_0D.E)], regs := [(9, f_spec_faGo_g9D.E), (11, f_spec_faGo_g11D.E), (26, f_spec_faGo_g26D.E), (27, f_spec_faGo_g27D.E)], conds := [(52, f_spec_faGo_j52D.E)] }
theorem g_spec_faGo (k : Nat) : EnvOK Tryd.prog k x_spec_faGo.G := (EnvOK.cons (s_spec_boOwn k) (EnvOK.cons (s_spec_boAt k) (EnvOK.cons (s_spec_faAt k) (EnvOK.cons (s_spec_paGoes k) (EnvOK.cons (s_spec_flPass k) (EnvOK.cons (s_spec_l1In k) (EnvOK.nil mixed)))))))
noncomputable def f_spec_faGo_g9O : Array Oper := (findReg 9 c_spec_faGo).getD #[]
theorem f_spec_faGo_g9e (k : Nat) (x : f_spec_faGo_g9i.D) : execD x_spec_faGo.T x_spec_faGo.G x_spec_faGo.mvs k f_spec_faGo_g9O (f_spec_faGo_g9D.inp.st x_spec_faGo.n x) (outK x_spec_faGo f_spec_faGo_g9D) = f_spec_faGo_g9A k x.1.2.1.1 x.1.2.1.2.1 x.1.2.1.2.2.1 x.1.2.2.1.1 x.1.2.2.1.2.1 x.1.2.2.2.1 x.1.2.2.2.2.1.1 x.1.2.2.2.2.1.2.1 x.1.2.2.2.2.2.1 x.2.1 x.2.2.2.2.2.1 := by kernel_rfl
theorem f_spec_faGo_g9ok (k : Nat) : EOK Tryd.prog x_spec_faGo k f_spec_faGo_g9D.E (.region 9 f_spec_faGo_g9O true) := reg_ok (D := f_spec_faGo_g9D) (m := 2) T_ok (g_spec_faGo k) (fun x => (f_spec_faGo_g9e k x).trans (f_spec_faGo_g9j k x.1.2.1.1 x.1.2.1.2.1 x.1.2.1.2.2.1 x.1.2.2.1.1 x.1.2.2.1.2.1 x.1.2.2.2.1 x.1.2.2.2.2.1.1 x.1.2.2.2.2.1.2.1 x.1.2.2.2.2.2.1 x.2.1 x.2.2.2.2.2.1))
noncomputable def f_spec_faGo_g11O : Array Oper := (findReg 11 c_spec_faGo).getD #[]
theorem f_spec_faGo_g11e (k : Nat) (x : f_spec_faGo_g11i.D) : execD x_spec_faGo.T x_spec_faGo.G x_spec_faGo.mvs k f_spec_faGo_g11O (f_spec_faGo_g11D.inp.st x_spec_faGo.n x) (outK x_spec_faGo f_spec_faGo_g11D) = f_spec_faGo_g11A k x.1.2.1.1 x.1.2.1.2.1 x.1.2.1.2.2.1 x.1.2.2.1.1 x.1.2.2.1.2.1 x.1.2.2.2.1 x.1.2.2.2.2.1.1 x.1.2.2.2.2.1.2.1 x.1.2.2.2.2.2.1 x.2.1 x.2.2.2.2.2.1 := by kernel_rfl
theorem f_spec_faGo_g11ok (k : Nat) : EOK Tryd.prog x_spec_faGo k f_spec_faGo_g11D.E (.region 11 f_spec_faGo_g11O true) := reg_ok (D := f_spec_faGo_g11D) (m := 2) T_ok (g_spec_faGo k) (fun x => (f_spec_faGo_g11e k x).trans (f_spec_faGo_g11j k x.1.2.1.1 x.1.2.1.2.1 x.1.2.1.2.2.1 x.1.2.2.1.1 x.1.2.2.1.2.1 x.1.2.2.2.1 x.1.2.2.2.2.1.1 x.1.2.2.2.2.1.2.1 x.1.2.2.2.2.2.1 x.2.1 x.2.2.2.2.2.1))
noncomputable def f_spec_faGo_g26O : Array Oper := (findReg 26 c_spec_faGo).getD #[]
theorem f_spec_faGo_g26e (k : Nat) (x : f_spec_faGo_g26i.D) : execD x_spec_faGo.T x_spec_faGo.G x_spec_faGo.mvs k f_spec_faGo_g26O (f_spec_faGo_g26D.inp.st x_spec_faGo.n x) (outK x_spec_faGo f_spec_faGo_g26D) = f_spec_faGo_g26A k x.1.2.1.1 x.1.2.1.2.1 x.1.2.1.2.2.1 x.1.2.2.1.1 x.1.2.2.1.2.1 x.1.2.2.2.1 x.1.2.2.2.2.1.1 x.1.2.2.2.2.1.2.1 x.1.2.2.2.2.2.1 x.2.1 x.2.2.2.2.2.1 := by kernel_rfl
theorem f_spec_faGo_g26ok (k : Nat) : EOK Tryd.prog x_spec_faGo k f_spec_faGo_g26D.E (.region 26 f_spec_faGo_g26O true) := reg_ok (D := f_spec_faGo_g26D) (m := 2) T_ok (g_spec_faGo k) (fun x => (f_spec_faGo_g26e k x).trans (f_spec_faGo_g26j k x.1.2.1.1 x.1.2.1.2.1 x.1.2.1.2.2.1 x.1.2.2.1.1 x.1.2.2.1.2.1 x.1.2.2.2.1 x.1.2.2.2.2.1.1 x.1.2.2.2.2.1.2.1 x.1.2.2.2.2.2.1 x.2.1 x.2.2.2.2.2.1))
noncomputable def f_spec_faGo_g27O : Array Oper := (findReg 27 c_spec_faGo).getD #[]
theorem f_spec_faGo_g27e (k : Nat) (x : f_spec_faGo_g27i.D) : execD x_spec_faGo.T x_spec_faGo.G x_spec_faGo.mvs k f_spec_faGo_g27O (f_spec_faGo_g27D.inp.st x_spec_faGo.n x) (outK x_spec_faGo f_spec_faGo_g27D) = f_spec_faGo_g27A k x.1.2.1.1 x.1.2.1.2.1 x.1.2.1.2.2.1 x.1.2.2.1.1 x.1.2.2.1.2.1 x.1.2.2.1.2.2.1 x.1.2.2.2.1.1 x.1.2.2.2.1.2.1 x.1.2.2.2.2.1 x.1.2.2.2.2.2.1.1 x.1.2.2.2.2.2.1.2.1 x.1.2.2.2.2.2.2.1 x.2.1 := by kernel_rfl
theorem f_spec_faGo_g27ok (k : Nat) : EOK Tryd.prog x_spec_faGo k f_spec_faGo_g27D.E (.region 27 f_spec_faGo_g27O true) := reg_ok (D := f_spec_faGo_g27D) (m := 2) T_ok (g_spec_faGo k) (fun x => (f_spec_faGo_g27e k x).trans (f_spec_faGo_g27j k x.1.2.1.1 x.1.2.1.2.1 x.1.2.1.2.2.1 x.1.2.2.1.1 x.1.2.2.1.2.1 x.1.2.2.1.2.2.1 x.1.2.2.2.1.1 x.1.2.2.2.1.2.1 x.1.2.2.2.2.1 x.1.2.2.2.2.2.1.1 x.1.2.2.2.2.2.1.2.1 x.1.2.2.2.2.2.2.1 x.2.1))
noncomputable def f_spec_faGo_j52X : Code := ((findCond 52 c_spec_faGo).map (·.1)).getD .skip
noncomputable def f_spec_faGo_j52Y : Code := ((findCond 52 c_spec_faGo).map (·.2)).getD .skip
theorem f_spec_faGo_j52h (k : Nat) (i : f_spec_faGo_j52D.inp.D) : f_spec_faGo_j52D.lp k i = branch (f_spec_faGo_j52D.inp.st x_spec_faGo.n i) (.tmp 52) (fun st => exec x_spec_faGo k f_spec_faGo_j52X st (outK x_spec_faGo f_spec_faGo_j52D) (fun _ _ => none) f_spec_faGo_j52D.mkB) (fun st => exec x_spec_faGo k f_spec_faGo_j52Y st (outK x_spec_faGo f_spec_faGo_j52D) (fun _ _ => none) f_spec_faGo_j52D.mkB) := by kernel_rfl
theorem f_spec_faGo_j52ok (k : Nat) : EOK Tryd.prog x_spec_faGo k f_spec_faGo_j52D.E (.cond (.tmp 52) f_spec_faGo_j52X f_spec_faGo_j52Y) := join_ok (D := f_spec_faGo_j52D) T_ok (g_spec_faGo k) (f_spec_faGo_j52h k) (@LOK.by _ _ _ _ f_spec_faGo_j52X [] (by kernel_rfl) AllOK.nil) (@LOK.by _ _ _ _ f_spec_faGo_j52Y [] (by kernel_rfl) AllOK.nil)
noncomputable def f_spec_faGo_2B : Code := (findLoop 2 c_spec_faGo).getD .skip
theorem f_spec_faGo_2h (k : Nat) (x : f_spec_faGo_2i.D) : f_spec_faGo_2D.lp (k + 1) x = loopK x_spec_faGo f_spec_faGo_2D 2 f_spec_faGo_2B k x := by kernel_rfl
theorem f_spec_faGo_2l (k : Nat) : LOK Tryd.prog x_spec_faGo k f_spec_faGo_2B := LOK.by [] (by kernel_rfl) AllOK.nil
theorem f_spec_faGo_2z (x : f_spec_faGo_2i.D) : f_spec_faGo_2D.lp 0 x = none := by kernel_rfl
theorem f_spec_faGo_2ok (k : Nat) : EOK Tryd.prog x_spec_faGo k f_spec_faGo_2D.E (.block 2 (.loop f_spec_faGo_2B)) := loop_ok T_ok g_spec_faGo f_spec_faGo_2z f_spec_faGo_2h f_spec_faGo_2l k
noncomputable def f_spec_faGo_0B : Code := (findLoop 0 c_spec_faGo).getD .skip
theorem f_spec_faGo_0h (k : Nat) (x : f_spec_faGo_0i.D) : f_spec_faGo_0D.lp (k + 1) x = loopK x_spec_faGo f_spec_faGo_0D 0 f_spec_faGo_0B k x := by kernel_rfl
theorem f_spec_faGo_0l (k : Nat) : LOK Tryd.prog x_spec_faGo k f_spec_faGo_0B := LOK.by [(f_spec_faGo_g9D.E, .region 9 f_spec_faGo_g9O true), (f_spec_faGo_g11D.E, .region 11 f_spec_faGo_g11O true), (f_spec_faGo_j52D.E, .cond (.tmp 52) f_spec_faGo_j52X f_spec_faGo_j52Y), (f_spec_faGo_2D.E, .block 2 (.loop f_spec_faGo_2B)), (f_spec_faGo_g26D.E, .region 26 f_spec_faGo_g26O true)] (by kernel_rfl) (AllOK.cons (f_spec_faGo_g9ok k) (AllOK.cons (f_spec_faGo_g11ok k) (AllOK.cons (f_spec_faGo_j52ok k) (AllOK.cons (f_spec_faGo_2ok k) (AllOK.cons (f_spec_faGo_g26ok k) AllOK.nil)))))
theorem f_spec_faGo_0z (x : f_spec_faGo_0i.D) : f_spec_faGo_0D.lp 0 x = none := by kernel_rfl
theorem f_spec_faGo_0ok (k : Nat) : EOK Tryd.prog x_spec_faGo k f_spec_faGo_0D.E (.block 0 (.loop f_spec_faGo_0B)) := loop_ok T_ok g_spec_faGo f_spec_faGo_0z f_spec_faGo_0h f_spec_faGo_0l k
theorem h_spec_faGo (k : Nat) (x : Tup d_spec_faGo.ps) : d_spec_faGo.f (k + 1) x = fnK d_spec_faGo x_spec_faGo c_spec_faGo k x := by kernel_rfl
theorem z_spec_faGo (x : Tup d_spec_faGo.ps) : d_spec_faGo.f 0 x = none := by kernel_rfl
theorem l_spec_faGo (k : Nat) : LOK Tryd.prog x_spec_faGo k c_spec_faGo := LOK.by [(f_spec_faGo_0D.E, .block 0 (.loop f_spec_faGo_0B)), (f_spec_faGo_g27D.E, .region 27 f_spec_faGo_g27O true)] (by kernel_rfl) (AllOK.cons (f_spec_faGo_0ok k) (AllOK.cons (f_spec_faGo_g27ok k) AllOK.nil))
theorem s_spec_faGo (k : Nat) : SoundAt Tryd.prog k 69 d_spec_faGo.E := @fn_all Tryd.prog d_spec_faGo x_spec_faGo 69 Tryd.f69 c_spec_faGo (by kernel_rfl) (by kernel_rfl) (by kernel_rfl) Tryd.func69 (by kernel_rfl) (by kernel_rfl) (by kernel_rfl) T_ok g_spec_faGo l_spec_faGo z_spec_faGo h_spec_faGo k
/-! function 75 -/
noncomputable def r_impl_faultyDrop : List PK := [PK.mk (Ty.pair (Ty.int IntKind.i64) (Ty.pair (Ty.int IntKind.i64) (Ty.int IntKind.i64))) true none false none]
noncomputable def q_impl_faultyDrop : List PK := [PK.mk (Ty.pair (Ty.int IntKind.i64) (Ty.pair (Ty.int IntKind.i64) (Ty.slice (78 : Nat) (Ty.pair (Ty.int IntKind.i64) (Ty.int IntKind.i64))))) true (some ((2 : Nat), (78 : Nat), Ty.pair (Ty.int IntKind.i64) (Ty.int IntKind.i64))) false none, PK.mk (Ty.slice (3 : Nat) (Ty.int IntKind.i64)) false none false none, PK.mk (Ty.slice (3 : Nat) (Ty.int IntKind.i64)) false none false none, PK.mk (Ty.int IntKind.i64) false none false none]
noncomputable def to_impl_faultyDrop (r : (Int × Int × Int) × List (Int × Int)) : Tup r_impl_faultyDrop × OutD := ((r.1, ()), some ⟨Ty.pair (Ty.int IntKind.i64) (Ty.int IntKind.i64), r.2⟩)
noncomputable def of_impl_faultyDrop : Tup r_impl_faultyDrop × OutD → Option ((Int × Int × Int) × List (Int × Int))
  | (a, some ⟨u, ys⟩) => if h : u = Ty.pair (Ty.int IntKind.i64) (Ty.int IntKind.i64) then some (a.1, castU h ys) else none
  | _ => none
theorem to_of_impl_faultyDrop : ∀ b r, of_impl_faultyDrop b = some r → to_impl_faultyDrop r = b := by
  rintro ⟨a, o⟩ r h
  cases o with
  | none => cases h
  | some s =>
    obtain ⟨u, ys⟩ := s
    simp only [of_impl_faultyDrop] at h
    split at h
    · rename_i hu; subst hu; injection h with h; subst h; rfl
    · cases h
noncomputable def f_impl_faultyDrop_0 : Nat → List (Int × Int) → Int → Int → Int → Int → Int → List Int → List Int → Int → Int → Int → Option (LR (List (Int × Int) × Int × Int × Int × Int × Int × Int) ((Int × Int × Int) × List (Int × Int)))
  | 0, _, _, _, _, _, _, _, _, _, _, _ => none
  | k + 1, o1, b2_0, b2_1, b3_0, b3_1, b3_2, v1, v2, v3, v9, v10 =>
    if decide (v10 < b2_0) = true then if (0 : Int) ≤ wrap64 (wrap64 (v10 * b2_1) + v3) then if wrap64 (wrap64 (v10 * b2_1) + v3) < (↑(List.length v2) : Int) then if decide (List.getD v2 (Int.toNat (wrap64 (wrap64 (v10 * b2_1) + v3))) (0 : Int) = (2 : Int)) = true then some (LR.ret (((3 : Int), v10, v3), o1)) else if (0 : Int) ≤ wrap64 (wrap64 (v10 * b2_1) + v3) then if wrap64 (wrap64 (v10 * b2_1) + v3) < (↑(List.length o1) : Int) then Option.bind (f_impl_GoesTo k (Prod.fst (List.getD o1 (Int.toNat (wrap64 (wrap64 (v10 * b2_1) + v3))) ((0 : Int), (0 : Int))), Prod.snd (List.getD o1 (Int.toNat (wrap64 (wrap64 (v10 * b2_1) + v3))) ((0 : Int), (0 : Int)))) v9) fun z0 => if (!Prod.snd z0) = true then some (LR.ret (((2 : Int), v10, v3), o1)) else if (0 : Int) ≤ wrap64 (wrap64 (v10 * b2_1) + v3) then if wrap64 (wrap64 (v10 * b2_1) + v3) < (↑(List.length v2) : Int) then if decide (List.getD v2 (Int.toNat (wrap64 (wrap64 (v10 * b2_1) + v3))) (0 : Int) = (3 : Int)) = true then if (0 : Int) ≤ wrap64 (wrap64 (v10 * b2_1) + v3) then if wrap64 (wrap64 (v10 * b2_1) + v3) < (↑(List.length o1) : Int) then Option.bind (f_impl_IsTurning k (Prod.fst (List.getD o1 (Int.toNat (wrap64 (wrap64 (v10 * b2_1) + v3))) ((0 : Int), (0 : Int))), Prod.snd (List.getD o1 (Int.toNat (wrap64 (wrap64 (v10 * b2_1) + v3))) ((0 : Int), (0 : Int))))) fun z1 => if z1 = true then Option.bind (f_impl_turnFaulty k (b2_0, b2_1, o1) v1 v2 (wrap64 (wrap64 (v10 * b2_1) + v3))) fun z2 => if decide (wrap64 (v3 + wrap64 ((0 : Int) - Prod.fst z0)) < (0 : Int)) = true then some (LR.ret (((3 : Int), v10, wrap64 (v3 + wrap64 ((0 : Int) - Prod.fst z0))), z2)) else if decide (wrap64 (v3 + wrap64 ((0 : Int) - Prod.fst z0)) ≥ b2_1) = true then some (LR.ret (((3 : Int), v10, wrap64 (v3 + wrap64 ((0 : Int) - Prod.fst z0))), z2)) else f_impl_faultyDrop_0 k z2 b2_0 b2_1 b3_0 b3_1 b3_2 v1 v2 (wrap64 (v3 + wrap64 ((0 : Int) - Prod.fst z0))) (wrap64 ((0 : Int) - wrap64 ((0 : Int) - Prod.fst z0))) (wrap64 (v10 + (1 : Int))) else if decide (wrap64 (v3 + wrap64 ((0 : Int) - Prod.fst z0)) < (0 : Int)) = true then some (LR.ret (((3 : Int), v10, wrap64 (v3 + wrap64 ((0 : Int) - Prod.fst z0))), o1)) else if decide (wrap64 (v3 + wrap64 ((0 : Int) - Prod.fst z0)) ≥ b2_1) = true then some (LR.ret (((3 : Int), v10, wrap64 (v3 + wrap64 ((0 : Int) - Prod.fst z0))), o1)) else f_impl_faultyDrop_0 k o1 b2_0 b2_1 b3_0 b3_1 b3_2 v1 v2 (wrap64 (v3 + wrap64 ((0 : Int) - Prod.fst z0))) (wrap64 ((0 : Int) - wrap64 ((0 : Int) - Prod.fst z0))) (wrap64 (v10 + (1 : Int))) else none else none else if (0 : Int) ≤ wrap64 (wrap64 (v10 * b2_1) + v3) then if wrap64 (wrap64 (v10 * b2_1) + v3) < (↑(List.length o1) : Int) then Option.bind (f_impl_IsTurning k (Prod.fst (List.getD o1 (Int.toNat (wrap64 (wrap64 (v10 * b2_1) + v3))) ((0 : Int), (0 : Int))), Prod.snd (List.getD o1 (Int.toNat (wrap64 (wrap64 (v10 * b2_1) + v3))) ((0 : Int), (0 : Int))))) fun z3 => if z3 = true then Option.bind (f_impl_turnFaulty k (b2_0, b2_1, o1) v1 v2 (wrap64 (wrap64 (v10 * b2_1) + v3))) fun z4 => if decide (wrap64 (v3 + Prod.fst z0) < (0 : Int)) = true then some (LR.ret (((3 : Int), v10, wrap64 (v3 + Prod.fst z0)), z4)) else if decide (wrap64 (v3 + Prod.fst z0) ≥ b2_1) = true then some (LR.ret (((3 : Int), v10, wrap64 (v3 + Prod.fst z0)), z4)) else f_impl_faultyDrop_0 k z4 b2_0 b2_1 b3_0 b3_1 b3_2 v1 v2 (wrap64 (v3 + Prod.fst z0)) (wrap64 ((0 : Int) - Prod.fst z0)) (wrap64 (v10 + (1 : Int))) else if decide (wrap64 (v3 + Prod.fst z0) < (0 : Int)) = true then some (LR.ret (((3 : Int), v10, wrap64 (v3 + Prod.fst z0)), o1)) else if decide (wrap64 (v3 + Prod.fst z0) ≥ b2_1) = true then some (LR.ret (((3 : Int), v10, wrap64 (v3 + Prod.fst z0)), o1)) else f_impl_faultyDrop_0 k o1 b2_0 b2_1 b3_0 b3_1 b3_2 v1 v2 (wrap64 (v3 + Prod.fst z0)) (wrap64 ((0 : Int) - Prod.fst z0)) (wrap64 (v10 + (1 : Int))) else none else none else none else none else none else none else none else none else some (LR.go (o1, b2_0, b2_1, b3_0, b3_1, b3_2, v3))
noncomputable def f_impl_faultyDrop_0i : Spec := Spec.mk [OSh.ro, OSh.row false (78 : Nat) (Ty.pair (Ty.int IntKind.i64) (Ty.int IntKind.i64)), OSh.box (43 : Nat) [Sh.int IntKind.i64, Sh.int IntKind.i64, Sh.sl (1 : Nat)], OSh.box (67 : Nat) [Sh.int IntKind.i64, Sh.int IntKind.i64, Sh.int IntKind.i64]] [((1 : Nat), TSh.at (Sh.snap (0 : Nat) (Ty.int IntKind.i64))), ((2 : Nat), TSh.at (Sh.snap (0 : Nat) (Ty.int IntKind.i64))), ((3 : Nat), TSh.at (Sh.int IntKind.i64)), ((4 : Nat), TSh.at (Sh.ptr (2 : Nat) (0 : Nat))), ((8 : Nat), TSh.at (Sh.ptr (3 : Nat) (0 : Nat))), ((9 : Nat), TSh.at (Sh.int IntKind.i64)), ((10 : Nat), TSh.at (Sh.int IntKind.i64))]
noncomputable def f_impl_faultyDrop_0o : Spec := Spec.mk [OSh.ro, OSh.row false (78 : Nat) (Ty.pair (Ty.int IntKind.i64) (Ty.int IntKind.i64)), OSh.box (43 : Nat) [Sh.int IntKind.i64, Sh.int IntKind.i64, Sh.sl (1 : Nat)], OSh.box (67 : Nat) [Sh.int IntKind.i64, Sh.int IntKind.i64, Sh.int IntKind.i64]] [((3 : Nat), TSh.at (Sh.int IntKind.i64)), ((4 : Nat), TSh.at (Sh.ptr (2 : Nat) (0 : Nat))), ((8 : Nat), TSh.at (Sh.ptr (3 : Nat) (0 : Nat)))]
noncomputable def f_impl_faultyDrop_0D : LoopDef (Tup r_impl_faultyDrop × OutD) := .rets f_impl_faultyDrop_0i f_impl_faultyDrop_0o (List (Int × Int) × Int × Int × Int × Int × Int × Int) ((Int × Int × Int) × List (Int × Int)) (fun k x => f_impl_faultyDrop_0 k x.1.2.1 x.1.2.2.1.1 x.1.2.2.1.2.1 x.1.2.2.2.1.1 x.1.2.2.2.1.2.1 x.1.2.2.2.1.2.2.1 x.2.1 x.2.2.1 x.2.2.2.1 x.2.2.2.2.2.2.1 x.2.2.2.2.2.2.2.1) (fun z => (((), z.1, (z.2.1, z.2.2.1, (), ()), (z.2.2.2.1, z.2.2.2.2.1, z.2.2.2.2.2.1, ()), ()), (z.2.2.2.2.2.2, (), (), ()))) (fun y => (y.1.2.1, y.1.2.2.1.1, y.1.2.2.1.2.1, y.1.2.2.2.1.1, y.1.2.2.2.1.2.1, y.1.2.2.2.1.2.2.1, y.2.1)) (fun _ => rfl) to_impl_faultyDrop of_impl_faultyDrop to_of_impl_faultyDrop
noncomputable def f_impl_faultyDrop : Nat → Int × Int × List (Int × Int) → List Int → List Int → Int → Option ((Int × Int × Int) × List (Int × Int))
  | 0, _, _, _, _ => none
  | k + 1, p0, p1, p2, p3 =>
    Option.bind (f_impl_faultyDrop_0 k (Prod.snd (Prod.snd p0)) (Prod.fst p0) (Prod.fst (Prod.snd p0)) (0 : Int) (0 : Int) (0 : Int) p1 p2 p3 (0 : Int) (0 : Int)) fun z5 => LR.on z5 (fun y5 => some (((1 : Int), Prod.fst (Prod.snd y5), Prod.snd (Prod.snd (Prod.snd (Prod.snd (Prod.snd (Prod.snd y5)))))), Prod.fst y5)) fun r5 => some r5
noncomputable def d_impl_faultyDrop : FnDef := .of q_impl_faultyDrop r_impl_faultyDrop ((Int × Int × Int) × List (Int × Int)) (fun k x => f_impl_faultyDrop k x.1 x.2.1 x.2.2.1 x.2.2.2.1) to_impl_faultyDrop of_impl_faultyDrop to_of_impl_faultyDrop
noncomputable def c_impl_faultyDrop : Code := Tryd.f75.body.getD .skip
noncomputable def x_impl_faultyDrop : Ctx (Tup r_impl_faultyDrop × OutD) := { T := T, G := [(90, d_impl_GoesTo.E), (71, d_impl_IsTurning.E), (91, d_impl_turnFaulty.E)], mvs := [], no := 1, n := 87, res := resOf T q_impl_faultyDrop r_impl_faultyDrop Tryd.f75.results.toList, loops := [(0, f_impl_faultyDrop_0D.E)], regs := [], conds := [] }
theorem g_impl_faultyDrop (k : Nat) : EnvOK Tryd.prog k x_impl_faultyDrop.G := (EnvOK.cons (s_impl_GoesTo k) (EnvOK.cons (s_impl_IsTurning k) (EnvOK.cons (s_impl_turnFaulty k) (EnvOK.nil mixed))))
noncomputable def f_impl_faultyDrop_0B : Code := (findLoop 0 c_impl_faultyDrop).getD .skip
theorem f_impl_faultyDrop_0h (k : Nat) (x : f_impl_faultyDrop_0i.D) : f_impl_faultyDrop_0D.lp (k + 1) x = loopK x_impl_faultyDrop f_impl_faultyDrop_0D 0 f_impl_faultyDrop_0B k x := by kernel_rfl
theorem f_impl_faultyDrop_0l (k : Nat) : LOK Tryd.prog x_impl_faultyDrop k f_impl_faultyDrop_0B := LOK.by [] (by kernel_rfl) AllOK.nil
theorem f_impl_faultyDrop_0z (x : f_impl_faultyDrop_0i.D) : f_impl_faultyDrop_0D.lp 0 x = none := by kernel_rfl
theorem f_impl_faultyDrop_0ok (k : Nat) : EOK Tryd.prog x_impl_faultyDrop k f_impl_faultyDrop_0D.E (.block 0 (.loop f_impl_faultyDrop_0B)) := loop_ok T_ok g_impl_faultyDrop f_impl_faultyDrop_0z f_impl_faultyDrop_0h f_impl_faultyDrop_0l k
theorem h_impl_faultyDrop (k : Nat) (x : Tup d_impl_faultyDrop.ps) : d_impl_faultyDrop.f (k + 1) x = fnK d_impl_faultyDrop x_impl_faultyDrop c_impl_faultyDrop k x := by kernel_rfl
theorem z_impl_faultyDrop (x : Tup d_impl_faultyDrop.ps) : d_impl_faultyDrop.f 0 x = none := by kernel_rfl
theorem l_impl_faultyDrop (k : Nat) : LOK Tryd.prog x_impl_faultyDrop k c_impl_faultyDrop := LOK.by [(f_impl_faultyDrop_0D.E, .block 0 (.loop f_impl_faultyDrop_0B))] (by kernel_rfl) (AllOK.cons (f_impl_faultyDrop_0ok k) AllOK.nil)
theorem s_impl_faultyDrop (k : Nat) : SoundAt Tryd.prog k 75 d_impl_faultyDrop.E := @fn_all Tryd.prog d_impl_faultyDrop x_impl_faultyDrop 75 Tryd.f75 c_impl_faultyDrop (by kernel_rfl) (by kernel_rfl) (by kernel_rfl) Tryd.func75 (by kernel_rfl) (by kernel_rfl) (by kernel_rfl) T_ok g_impl_faultyDrop l_impl_faultyDrop z_impl_faultyDrop h_impl_faultyDrop k
end
end Go.Proofs.YtkmbhhgibgocpaaDoor.Vs
