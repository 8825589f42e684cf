/- The proof, part 6. -/
import Derived.Test.YtglkedenkcpcbaaGreatDoorqBm4
set_option maxRecDepth 100000
set_option maxHeartbeats 2000000
set_option linter.unusedVariables false
set_option linter.unusedSimpArgs false
namespace Go.Proofs.YtglkedenkcpcbaaGreatDoor.Vs
open Go.RowKit
noncomputable section
noncomputable def ZcR : List PK := [PK.mk Ty.str false none false none]
noncomputable def Ztx : List PK := [PK.mk (Ty.pair (Ty.int .i64) (Ty.pair (Ty.int .i64) (Ty.int .i64))) true none false none]
noncomputable def Zrm (r : ByteArray) : Tup ZcR × OutD := ((r, ()), none)
noncomputable def Zq7 : Tup ZcR × OutD → Option (ByteArray)
 | (a, none) => some (a.1)
 | _ => none
theorem Zxj : ∀ b r, Zq7 b = some r → Zrm r = b := by
 rintro ⟨a, o⟩ r h
 cases o with
 | none => injection h with h; subst h; rfl
 | some _ => cases h
noncomputable def ZcH : Nat → Int × Int × Int → Option ByteArray
 | 0, _ => none
 | k + 1, p0 =>
  Option.bind (Ziw k) fun z0 => if (0 : Int) ≤ Prod.fst p0 then if Prod.fst p0 < (↑(List.length z0) : Int) then if ByteArray.size (List.getD z0 (Int.toNat p0.1) (ByteArray.mk #[])) + ByteArray.size (ByteArray.mk #[(32 : UInt8), (97 : UInt8), (116 : UInt8), (32 : UInt8)]) ≤ (9223372036854775807 : Nat) then Option.bind (Z5S k p0.2.1) fun z1 => if ByteArray.size (List.getD z0 (Int.toNat p0.1) (ByteArray.mk #[]) ++ ByteArray.mk #[(32 : UInt8), (97 : UInt8), (116 : UInt8), (32 : UInt8)]) + ByteArray.size z1 ≤ (9223372036854775807 : Nat) then if ByteArray.size (List.getD z0 (Int.toNat p0.1) (ByteArray.mk #[]) ++ ByteArray.mk #[(32 : UInt8), (97 : UInt8), (116 : UInt8), (32 : UInt8)] ++ z1) + ByteArray.size (ByteArray.mk #[(44 : UInt8)]) ≤ (9223372036854775807 : Nat) then Option.bind (Z5S k p0.2.2) fun z2 => if ByteArray.size (List.getD z0 (Int.toNat p0.1) (ByteArray.mk #[]) ++ ByteArray.mk #[(32 : UInt8), (97 : UInt8), (116 : UInt8), (32 : UInt8)] ++ z1 ++ ByteArray.mk #[(44 : UInt8)]) + ByteArray.size z2 ≤ (9223372036854775807 : Nat) then some (List.getD z0 (Int.toNat p0.1) (ByteArray.mk #[]) ++ ByteArray.mk #[(32 : UInt8), (97 : UInt8), (116 : UInt8), (32 : UInt8)] ++ z1 ++ ByteArray.mk #[(44 : UInt8)] ++ z2) else none else none else none else none else none else none
noncomputable def Z4L : FnDef := .of Ztx ZcR (ByteArray) (fun k x => ZcH k x.1) Zrm Zq7 Zxj
noncomputable def ZjF : Code := Tryz.f55.body.getD .skip
noncomputable def Zfj : Ctx (Tup ZcR × OutD) := { T := T, G := [(81, Z3V.E), (76, Z5G.E)], mvs := [], no := 0, n := 18, res := resOf T Ztx ZcR Tryz.f55.results.toList, loops := [], regs := [], conds := [], cuts := [] }
theorem ZEl (k : Nat) : EnvOK Tryz.prog k Zfj.G := (EnvOK.cons (ZqN k) (EnvOK.cons (ZwT k) (EnvOK.nil mixed)))
theorem ZEQ (k : Nat) (x : Tup Z4L.ps) : Z4L.f (k + 1) x = fnK Z4L Zfj ZjF k x := by kernel_rfl
theorem ZFg (x : Tup Z4L.ps) : Z4L.f 0 x = none := by kernel_rfl
theorem ZEp (k : Nat) : LOK Tryz.prog Zfj k ZjF := LOK.by [] (by kernel_rfl) AllOK.nil
theorem Zth (k : Nat) : SoundAt Tryz.prog k 55 Z4L.E := @Z3 Tryz.prog Z4L Zfj 55 Tryz.f55 ZjF (by kernel_rfl) (by kernel_rfl) (by kernel_rfl) Tryz.func55 (by kernel_rfl) (by kernel_rfl) (by kernel_rfl) T_ok ZEl ZEp ZFg ZEQ k
noncomputable def Z8b : List PK := [PK.mk (Ty.int .i64) false none false none]
noncomputable def Zkt : List PK := [PK.mk (Ty.pair (Ty.slice (5 : Nat) (Ty.int .u8)) (Ty.pair (Ty.int .i64) (Ty.int .u64))) false none false (some (82 : Nat)), PK.mk (Ty.int .i64) false none false none]
noncomputable def Zjf (r : Int × Int × Int) : Tup Z8b × OutD := ((r.1, ()), some ⟨Ty.pair (Ty.slice (5 : Nat) (Ty.int .u8)) (Ty.pair (Ty.int .i64) (Ty.int .u64)), [([], r.2)]⟩)
noncomputable def Ze3 : Tup Z8b × OutD → Option (Int × Int × Int)
 | (a, some ⟨u, ys⟩) => if h : u = Ty.pair (Ty.slice (5 : Nat) (Ty.int .u8)) (Ty.pair (Ty.int .i64) (Ty.int .u64)) then (match castU h ys with
  | [([], y)] => some (a.1, y)
  | _ => none) else none
 | _ => none
theorem ZqJ : ∀ b r, Ze3 b = some r → Zjf r = b := by
 rintro ⟨a, o⟩ r h
 cases o with
 | none => cases h
 | some s =>
  obtain ⟨u, ys⟩ := s
  simp only [Ze3] at h
  split at h
  ·rename_i hu
   subst hu
   match ys, h with
   | [], h => cases (show (none : Option _) = some r from h)
   | [([], y)], h => injection (show some _ = some r from h) with h; subst h; rfl
   | [(_ :: _, y)], h => cases (show (none : Option _) = some r from h)
   | (h1, _) :: _ :: _, h => cases h1 <;> cases (show (none : Option _) = some r from h)
  ·cases h
noncomputable def Z0 : Nat → List Int × Int × Int → Int → Option (Int × Int × Int)
 | 0, _, _ => none
 | k + 1, p0, p1 =>
  if decide (p1 ≤ (1 : Int)) = true then some ((0 : Int), Prod.fst p0.2, Prod.snd p0.2) else Option.bind (Z6g k (Prod.fst p0, Prod.fst p0.2, Prod.snd p0.2)) fun z0 => if decide (p1 > (200 : Int)) = true then Option.bind (Z6g k (Prod.fst p0, Prod.fst z0.2, Prod.snd z0.2)) fun z1 => if p1 = (0 : Int) then none else some (Int.tmod (wrap64 (wrap64 (Prod.fst z0 * (256 : Int)) + Prod.fst z1)) p1, Prod.fst z1.2, Prod.snd z1.2) else if p1 = (0 : Int) then none else some (Int.tmod z0.1 p1, Prod.fst z0.2, Prod.snd z0.2)
noncomputable def Za : FnDef := .of Zkt Z8b (Int × Int × Int) (fun k x => Z0 k x.1 x.2.1) Zjf Ze3 ZqJ
noncomputable def ZeK : Code := Tryz.f73.body.getD .skip
noncomputable def Zb7 : Ctx (Tup Z8b × OutD) := { T := T, G := [(107, Z37.E)], mvs := [], no := 2, n := 20, res := resOf T Zkt Z8b Tryz.f73.results.toList, loops := [], regs := [], conds := [], cuts := [] }
theorem ZxY (k : Nat) : EnvOK Tryz.prog k Zb7.G := (EnvOK.cons (Zyb k) (EnvOK.nil mixed))
theorem ZxU (k : Nat) (x : Tup Za.ps) : Za.f (k + 1) x = fnK Za Zb7 ZeK k x := by kernel_rfl
theorem ZxM (x : Tup Za.ps) : Za.f 0 x = none := by kernel_rfl
theorem Zyg (k : Nat) : LOK Tryz.prog Zb7 k ZeK := LOK.by [] (by kernel_rfl) AllOK.nil
theorem ZA (k : Nat) : SoundAt Tryz.prog k 73 Za.E := @Z3 Tryz.prog Za Zb7 73 Tryz.f73 ZeK (by kernel_rfl) (by kernel_rfl) (by kernel_rfl) Tryz.func73 (by kernel_rfl) (by kernel_rfl) (by kernel_rfl) T_ok ZxY Zyg ZxM ZxU k
noncomputable def ZbA : List PK := [PK.mk Ty.bool false none false none]
noncomputable def Zru : List PK := [PK.mk (Ty.pair (Ty.int .i64) (Ty.pair (Ty.int .i64) (Ty.int .i64))) true none false none]
noncomputable def ZoT (r : Bool) : Tup ZbA × OutD := ((r, ()), none)
noncomputable def Zox : Tup ZbA × OutD → Option (Bool)
 | (a, none) => some (a.1)
 | _ => none
theorem Zw9 : ∀ b r, Zox b = some r → ZoT r = b := by
 rintro ⟨a, o⟩ r h
 cases o with
 | none => injection h with h; subst h; rfl
 | some _ => cases h
noncomputable def Zbv : Nat → Int × Int × Int → Option Bool
 | 0, _ => none
 | k + 1, p0 =>
  Option.bind (Z1L k p0.1 (1 : Int) (3 : Int)) fun z0 => if z0 = true then Option.bind (Z1L k p0.2.1 (0 : Int) (9 : Int)) fun z1 => if z1 = true then Option.bind (Z1L k p0.2.2 (0 : Int) (9 : Int)) fun z2 => some z2 else some false else some false
noncomputable def Z3T : FnDef := .of Zru ZbA (Bool) (fun k x => Zbv k x.1) ZoT Zox Zw9
noncomputable def Zis : Code := Tryz.f74.body.getD .skip
noncomputable def Zej : Ctx (Tup ZbA × OutD) := { T := T, G := [(59, Z25.E)], mvs := [], no := 0, n := 16, res := resOf T Zru ZbA Tryz.f74.results.toList, loops := [], regs := [], conds := [], cuts := [] }
theorem ZDB (k : Nat) : EnvOK Tryz.prog k Zej.G := (EnvOK.cons (Z8I k) (EnvOK.nil mixed))
theorem ZDt (k : Nat) (x : Tup Z3T.ps) : Z3T.f (k + 1) x = fnK Z3T Zej Zis k x := by kernel_rfl
theorem ZCK (x : Tup Z3T.ps) : Z3T.f 0 x = none := by kernel_rfl
theorem ZDE (k : Nat) : LOK Tryz.prog Zej k Zis := LOK.by [] (by kernel_rfl) AllOK.nil
theorem ZqL (k : Nat) : SoundAt Tryz.prog k 74 Z3T.E := @Z3 Tryz.prog Z3T Zej 74 Tryz.f74 Zis (by kernel_rfl) (by kernel_rfl) (by kernel_rfl) Tryz.func74 (by kernel_rfl) (by kernel_rfl) (by kernel_rfl) T_ok ZDB ZDE ZCK ZDt k
noncomputable def Zab : List PK := [PK.mk (Ty.int .i64) false none false none]
noncomputable def Ztr : List PK := [PK.mk Ty.str false none false none]
noncomputable def Zim (r : Int) : Tup Zab × OutD := ((r, ()), none)
noncomputable def Zio : Tup Zab × OutD → Option (Int)
 | (a, none) => some (a.1)
 | _ => none
theorem Zkz : ∀ b r, Zio b = some r → Zim r = b := by
 rintro ⟨a, o⟩ r h
 cases o with
 | none => injection h with h; subst h; rfl
 | some _ => cases h
noncomputable def Z4k : Nat → ByteArray → Int → Int → Option (LR Int Int)
 | 0, _, _, _ => none
 | k + 1, v0, v3, v4 =>
  if decide (v4 < (↑(ByteArray.size v0) : Int)) = true then if (0 : Int) ≤ v4 then if v4 < (↑(ByteArray.size v0) : Int) then if decide (byteAt v0 (Int.toNat v4) < (48 : Int)) = true then some (LR.ret (-1 : Int)) else if (0 : Int) ≤ v4 then if v4 < (↑(ByteArray.size v0) : Int) then if decide (byteAt v0 (Int.toNat v4) > (57 : Int)) = true then some (LR.ret (-1 : Int)) else if (0 : Int) ≤ v4 then if v4 < (↑(ByteArray.size v0) : Int) then Z4k k v0 (wrap64 (wrap64 ((10 : Int) * v3) + wrap64 (IntKind.wrap IntKind.u8 (byteAt v0 (Int.toNat v4) - (48 : Int))))) (wrap64 (v4 + (1 : Int))) else none else none else none else none else none else none else some (LR.go v3)
noncomputable def ZfH : Spec := Spec.mk [OSh.ro] [((0 : Nat), TSh.at Sh.str), ((3 : Nat), TSh.at (Sh.int .i64)), ((4 : Nat), TSh.at (Sh.int .i64))]
noncomputable def ZzO : Spec := Spec.mk [OSh.ro] [((3 : Nat), TSh.at (Sh.int .i64))]
noncomputable def Z6X : LoopDef (Tup Zab × OutD) := .rets ZfH ZzO (Int) (Int) (fun k x => Z4k k x.2.1 x.2.2.1 x.2.2.2.1) (fun z => (((), ()), (z, ()))) (fun y => (y.2.1)) (fun _ => rfl) Zim Zio Zkz
noncomputable def Z3P : Nat → ByteArray → Option Int
 | 0, _ => none
 | k + 1, p0 =>
  Option.bind (Z1L k (↑(ByteArray.size p0) : Int) (1 : Int) (6 : Int)) fun z0 => if (!z0) = true then some (-1 : Int) else if (0 : Int) < (↑(ByteArray.size p0) : Int) then if decide (byteAt p0 (Int.toNat (0 : Int)) = (48 : Int)) = true then if decide ((↑(ByteArray.size p0) : Int) > (1 : Int)) = true then some (-1 : Int) else Option.bind (Z4k k p0 (0 : Int) (0 : Int)) fun z1 => LR.on z1 (fun y1 => some y1) fun r1 => some r1 else Option.bind (Z4k k p0 (0 : Int) (0 : Int)) fun z2 => LR.on z2 (fun y2 => some y2) fun r2 => some r2 else none
noncomputable def Z6j : FnDef := .of Ztr Zab (Int) (fun k x => Z3P k x.1) Zim Zio Zkz
noncomputable def Zfi : Code := Tryz.f80.body.getD .skip
noncomputable def Z88 : Ctx (Tup Zab × OutD) := { T := T, G := [(59, Z25.E)], mvs := [], no := 0, n := 44, res := resOf T Ztr Zab Tryz.f80.results.toList, loops := [(0, Z6X.E)], regs := [], conds := [], cuts := [] }
theorem ZtB (k : Nat) : EnvOK Tryz.prog k Z88.G := (EnvOK.cons (Z8I k) (EnvOK.nil mixed))
noncomputable def Zct : Code := (findLoop 0 Zfi).getD .skip
theorem ZyU (k : Nat) (x : ZfH.D) : Z6X.lp (k + 1) x = loopK Z88 Z6X 0 Zct k x := by kernel_rfl
theorem ZAo (k : Nat) : LOK Tryz.prog Z88 k Zct := LOK.by [] (by kernel_rfl) AllOK.nil
theorem ZAG (x : ZfH.D) : Z6X.lp 0 x = none := by kernel_rfl
theorem Zyk (k : Nat) : EOK Tryz.prog Z88 k Z6X.E (.block 0 (.loop Zct)) := Zb T_ok ZtB ZAG ZyU ZAo k
theorem ZEv (k : Nat) (x : Tup Z6j.ps) : Z6j.f (k + 1) x = fnK Z6j Z88 Zfi k x := by kernel_rfl
theorem ZEr (x : Tup Z6j.ps) : Z6j.f 0 x = none := by kernel_rfl
theorem ZE9 (k : Nat) : LOK Tryz.prog Z88 k Zfi := LOK.by [(Z6X.E, .block 0 (.loop Zct))] (by kernel_rfl) (AllOK.cons (Zyk k) AllOK.nil)
theorem ZEM (k : Nat) : SoundAt Tryz.prog k 80 Z6j.E := @Z3 Tryz.prog Z6j Z88 80 Tryz.f80 Zfi (by kernel_rfl) (by kernel_rfl) (by kernel_rfl) Tryz.func80 (by kernel_rfl) (by kernel_rfl) (by kernel_rfl) T_ok ZtB ZE9 ZEr ZEv k
noncomputable def Zbn : List PK := [PK.mk Ty.bool false none false none]
noncomputable def Zwe : List PK := [PK.mk (Ty.slice (3 : Nat) (Ty.int .i64)) false none false none, PK.mk (Ty.int .i64) false none false none, PK.mk (Ty.int .i64) false none false none]
noncomputable def ZjE (r : Bool) : Tup Zbn × OutD := ((r, ()), none)
noncomputable def ZjM : Tup Zbn × OutD → Option (Bool)
 | (a, none) => some (a.1)
 | _ => none
theorem Zlw : ∀ b r, ZjM b = some r → ZjE r = b := by
 rintro ⟨a, o⟩ r h
 cases o with
 | none => injection h with h; subst h; rfl
 | some _ => cases h
noncomputable def Z90 : Nat → Int → Int → List Int → Int → Int → Option (LR Unit Bool)
 | 0, _, _, _, _, _ => none
 | k + 1, v1, v2, v9, v10, v11 =>
  if decide (v11 < v10) = true then if (0 : Int) ≤ v11 then if v11 < (↑(List.length v9) : Int) then Option.bind (Z1L k (List.getD v9 (Int.toNat v11) (0 : Int)) v1 v2) fun z0 => if (!z0) = true then some (LR.ret false) else Z90 k v1 v2 v9 v10 (wrap64 (v11 + (1 : Int))) else none else none else some (LR.go ())
noncomputable def ZgM : Spec := Spec.mk [OSh.ro] [((1 : Nat), TSh.at (Sh.int .i64)), ((2 : Nat), TSh.at (Sh.int .i64)), ((9 : Nat), TSh.at (Sh.snap (0 : Nat) (Ty.int .i64))), ((10 : Nat), TSh.at (Sh.int .i64)), ((11 : Nat), TSh.at (Sh.int .i64))]
noncomputable def ZCz : Spec := Spec.mk [OSh.ro] []
noncomputable def Z7P : LoopDef (Tup Zbn × OutD) := .rets ZgM ZCz (Unit) (Bool) (fun k x => Z90 k x.2.1 x.2.2.1 x.2.2.2.1 x.2.2.2.2.1 x.2.2.2.2.2.1) (fun z => (((), ()), (()))) (fun y => ()) (fun _ => rfl) ZjE ZjM Zlw
noncomputable def ZgQ : Nat → List Int → Int → Int → Option Bool
 | 0, _, _, _ => none
 | k + 1, p0, p1, p2 =>
  Option.bind (Z90 k p1 p2 p0 (↑(List.length p0) : Int) (0 : Int)) fun z1 => LR.on z1 (fun y1 => some true) fun r1 => some r1
noncomputable def Z7A : FnDef := .of Zwe Zbn (Bool) (fun k x => ZgQ k x.1 x.2.1 x.2.2.1) ZjE ZjM Zlw
noncomputable def Zhu : Code := Tryz.f90.body.getD .skip
noncomputable def Z9v : Ctx (Tup Zbn × OutD) := { T := T, G := [(59, Z25.E)], mvs := [], no := 0, n := 21, res := resOf T Zwe Zbn Tryz.f90.results.toList, loops := [(0, Z7P.E)], regs := [], conds := [], cuts := [] }
theorem ZvO (k : Nat) : EnvOK Tryz.prog k Z9v.G := (EnvOK.cons (Z8I k) (EnvOK.nil mixed))
noncomputable def Zdm : Code := (findLoop 0 Zhu).getD .skip
theorem ZC1 (k : Nat) (x : ZgM.D) : Z7P.lp (k + 1) x = loopK Z9v Z7P 0 Zdm k x := by kernel_rfl
theorem ZC6 (k : Nat) : LOK Tryz.prog Z9v k Zdm := LOK.by [] (by kernel_rfl) AllOK.nil
theorem ZBj (x : ZgM.D) : Z7P.lp 0 x = none := by kernel_rfl
theorem ZAW (k : Nat) : EOK Tryz.prog Z9v k Z7P.E (.block 0 (.loop Zdm)) := Zb T_ok ZvO ZBj ZC1 ZC6 k
theorem ZFn (k : Nat) (x : Tup Z7A.ps) : Z7A.f (k + 1) x = fnK Z7A Z9v Zhu k x := by kernel_rfl
theorem ZFB (x : Tup Z7A.ps) : Z7A.f 0 x = none := by kernel_rfl
theorem ZFp (k : Nat) : LOK Tryz.prog Z9v k Zhu := LOK.by [(Z7P.E, .block 0 (.loop Zdm))] (by kernel_rfl) (AllOK.cons (ZAW k) AllOK.nil)
theorem ZFJ (k : Nat) : SoundAt Tryz.prog k 90 Z7A.E := @Z3 Tryz.prog Z7A Z9v 90 Tryz.f90 Zhu (by kernel_rfl) (by kernel_rfl) (by kernel_rfl) Tryz.func90 (by kernel_rfl) (by kernel_rfl) (by kernel_rfl) T_ok ZvO ZFp ZFB ZFn k
noncomputable def ZcW : List PK := [PK.mk Ty.bool false none false none]
noncomputable def Zu5 : List PK := [PK.mk (Ty.pair (Ty.int .i64) (Ty.int .i64)) true none false none, PK.mk (Ty.int .i64) false none false none]
noncomputable def ZqV (r : Bool) : Tup ZcW × OutD := ((r, ()), none)
noncomputable def Zr5 : Tup ZcW × OutD → Option (Bool)
 | (a, none) => some (a.1)
 | _ => none
theorem Zxh : ∀ b r, Zr5 b = some r → ZqV r = b := by
 rintro ⟨a, o⟩ r h
 cases o with
 | none => injection h with h; subst h; rfl
 | some _ => cases h
noncomputable def ZcY : Nat → Int × Int → Int → Option Bool
 | 0, _, _ => none
 | k + 1, p0, p1 =>
  if decide (p1 = (1 : Int)) = true then Option.bind (Z4V k (Prod.fst p0, Prod.snd p0)) fun z0 => some z0 else if decide (p1 = (2 : Int)) = true then some true else if decide (p1 = (3 : Int)) = true then Option.bind (Z4V k (Prod.fst p0, Prod.snd p0)) fun z1 => if z1 = true then some true else if decide (Prod.fst p0 = (1 : Int)) = true then some true else some (decide (Prod.fst p0 = (2 : Int))) else some false
noncomputable def Z4O : FnDef := .of Zu5 ZcW (Bool) (fun k x => ZcY k x.1 x.2.1) ZqV Zr5 Zxh
noncomputable def Zjz : Code := Tryz.f103.body.getD .skip
noncomputable def Zfo : Ctx (Tup ZcW × OutD) := { T := T, G := [(128, Z26.E)], mvs := [], no := 0, n := 26, res := resOf T Zu5 ZcW Tryz.f103.results.toList, loops := [], regs := [], conds := [], cuts := [] }
theorem ZEt (k : Nat) : EnvOK Tryz.prog k Zfo.G := (EnvOK.cons (ZfZ k) (EnvOK.nil mixed))
theorem ZEg (k : Nat) (x : Tup Z4O.ps) : Z4O.f (k + 1) x = fnK Z4O Zfo Zjz k x := by kernel_rfl
theorem ZF2 (x : Tup Z4O.ps) : Z4O.f 0 x = none := by kernel_rfl
theorem ZFd (k : Nat) : LOK Tryz.prog Zfo k Zjz := LOK.by [] (by kernel_rfl) AllOK.nil
theorem Zu3 (k : Nat) : SoundAt Tryz.prog k 103 Z4O.E := @Z3 Tryz.prog Z4O Zfo 103 Tryz.f103 Zjz (by kernel_rfl) (by kernel_rfl) (by kernel_rfl) Tryz.func103 (by kernel_rfl) (by kernel_rfl) (by kernel_rfl) T_ok ZEt ZFd ZF2 ZEg k
noncomputable def Z1v : List PK := [PK.mk Ty.str false none false none, PK.mk Ty.bool false none false none]
noncomputable def Z9k : List PK := [PK.mk Ty.str false none false none, PK.mk Ty.str false none false none]
noncomputable def Z8G (r : ByteArray × Bool) : Tup Z1v × OutD := ((r.1, r.2, ()), none)
noncomputable def Z8D : Tup Z1v × OutD → Option (ByteArray × Bool)
 | (a, none) => some (a.1, a.2.1)
 | _ => none
theorem Ze2 : ∀ b r, Z8D b = some r → Z8G r = b := by
 rintro ⟨a, o⟩ r h
 cases o with
 | none => injection h with h; subst h; rfl
 | some _ => cases h
noncomputable def Z4S : Nat → ByteArray → ByteArray → Option (ByteArray × Bool)
 | 0, _, _ => none
 | k + 1, p0, p1 =>
  Option.bind (Z4Y k p0 p1) fun z0 => if (!z0) = true then some (p0, false) else if (↑(ByteArray.size p1) : Int) ≤ (↑(ByteArray.size p0) : Int) then if (↑(ByteArray.size p0) : Int) ≤ (↑(ByteArray.size p0) : Int) then some (subS p0 (Int.toNat (↑(ByteArray.size p1) : Int)) (Int.toNat (↑(ByteArray.size p0) : Int)), true) else none else none
noncomputable def Zp : FnDef := .of Z9k Z1v (ByteArray × Bool) (fun k x => Z4S k x.1 x.2.1) Z8G Z8D Ze2
noncomputable def Z4Q : Code := Tryz.f108.body.getD .skip
noncomputable def Z2N : Ctx (Tup Z1v × OutD) := { T := T, G := [(129, Zv.E)], mvs := [], no := 0, n := 15, res := resOf T Z9k Z1v Tryz.f108.results.toList, loops := [], regs := [], conds := [], cuts := [] }
theorem ZfL (k : Nat) : EnvOK Tryz.prog k Z2N.G := (EnvOK.cons (ZfM k) (EnvOK.nil mixed))
theorem Zg5 (k : Nat) (x : Tup Zp.ps) : Zp.f (k + 1) x = fnK Zp Z2N Z4Q k x := by kernel_rfl
theorem Zg1 (x : Tup Zp.ps) : Zp.f 0 x = none := by kernel_rfl
theorem ZfD (k : Nat) : LOK Tryz.prog Z2N k Z4Q := LOK.by [] (by kernel_rfl) AllOK.nil
theorem Zgb (k : Nat) : SoundAt Tryz.prog k 108 Zp.E := @Z3 Tryz.prog Zp Z2N 108 Tryz.f108 Z4Q (by kernel_rfl) (by kernel_rfl) (by kernel_rfl) Tryz.func108 (by kernel_rfl) (by kernel_rfl) (by kernel_rfl) T_ok ZfL ZfD Zg1 Zg5 k
noncomputable def Z66 : List PK := [PK.mk Ty.bool false none false none]
noncomputable def Zk3 : List PK := [PK.mk (Ty.slice (122 : Nat) (Ty.pair (Ty.int .i64) (Ty.int .i64))) false none false none]
noncomputable def Ze1 (r : Bool) : Tup Z66 × OutD := ((r, ()), none)
noncomputable def ZdS : Tup Z66 × OutD → Option (Bool)
 | (a, none) => some (a.1)
 | _ => none
theorem Zgq : ∀ b r, ZdS b = some r → Ze1 r = b := by
 rintro ⟨a, o⟩ r h
 cases o with
 | none => injection h with h; subst h; rfl
 | some _ => cases h
noncomputable def Z4w : Nat → List (Int × Int) → Int → Int → Option (LR Unit Bool)
 | 0, _, _, _ => none
 | k + 1, v8, v9, v10 =>
  if decide (v10 < v9) = true then if (0 : Int) ≤ v10 then if v10 < (↑(List.length v8) : Int) then Option.bind (Zaa k (Prod.fst (List.getD v8 (Int.toNat v10) ((0 : Int), (0 : Int))), Prod.snd (List.getD v8 (Int.toNat v10) ((0 : Int), (0 : Int))))) fun z0 => if (!z0) = true then some (LR.ret false) else Z4w k v8 v9 (wrap64 (v10 + (1 : Int))) else none else none else some (LR.go ())
noncomputable def ZbM : Spec := Spec.mk [OSh.ro] [((8 : Nat), TSh.at (Sh.snap (0 : Nat) (Ty.pair (Ty.int .i64) (Ty.int .i64)))), ((9 : Nat), TSh.at (Sh.int .i64)), ((10 : Nat), TSh.at (Sh.int .i64))]
noncomputable def ZsE : Spec := Spec.mk [OSh.ro] []
noncomputable def Z3W : LoopDef (Tup Z66 × OutD) := .rets ZbM ZsE (Unit) (Bool) (fun k x => Z4w k x.2.1 x.2.2.1 x.2.2.2.1) (fun z => (((), ()), (()))) (fun y => ()) (fun _ => rfl) Ze1 ZdS Zgq
noncomputable def Zb2 : Nat → List (Int × Int) → Option Bool
 | 0, _ => none
 | k + 1, p0 =>
  if decide ((↑(List.length p0) : Int) > (90 : Int)) = true then some false else Option.bind (Z4w k p0 (↑(List.length p0) : Int) (0 : Int)) fun z1 => LR.on z1 (fun y1 => some true) fun r1 => some r1
noncomputable def Z38 : FnDef := .of Zk3 Z66 (Bool) (fun k x => Zb2 k x.1) Ze1 ZdS Zgq
noncomputable def Zb8 : Code := Tryz.f109.body.getD .skip
noncomputable def Z47 : Ctx (Tup Z66 × OutD) := { T := T, G := [(130, Z3O.E)], mvs := [], no := 0, n := 18, res := resOf T Zk3 Z66 Tryz.f109.results.toList, loops := [(0, Z3W.E)], regs := [], conds := [], cuts := [] }
theorem Zkw (k : Nat) : EnvOK Tryz.prog k Z47.G := (EnvOK.cons (ZjR k) (EnvOK.nil mixed))
noncomputable def Z8p : Code := (findLoop 0 Zb8).getD .skip
theorem ZsC (k : Nat) (x : ZbM.D) : Z3W.lp (k + 1) x = loopK Z47 Z3W 0 Z8p k x := by kernel_rfl
theorem ZrA (k : Nat) : LOK Tryz.prog Z47 k Z8p := LOK.by [] (by kernel_rfl) AllOK.nil
theorem Zrw (x : ZbM.D) : Z3W.lp 0 x = none := by kernel_rfl
theorem ZqG (k : Nat) : EOK Tryz.prog Z47 k Z3W.E (.block 0 (.loop Z8p)) := Zb T_ok Zkw Zrw ZsC ZrA k
theorem Zxl (k : Nat) (x : Tup Z38.ps) : Z38.f (k + 1) x = fnK Z38 Z47 Zb8 k x := by kernel_rfl
theorem Zyi (x : Tup Z38.ps) : Z38.f 0 x = none := by kernel_rfl
theorem ZxR (k : Nat) : LOK Tryz.prog Z47 k Zb8 := LOK.by [(Z3W.E, .block 0 (.loop Z8p))] (by kernel_rfl) (AllOK.cons (ZqG k) AllOK.nil)
theorem Zy8 (k : Nat) : SoundAt Tryz.prog k 109 Z38.E := @Z3 Tryz.prog Z38 Z47 109 Tryz.f109 Zb8 (by kernel_rfl) (by kernel_rfl) (by kernel_rfl) Tryz.func109 (by kernel_rfl) (by kernel_rfl) (by kernel_rfl) T_ok Zkw ZxR Zyi Zxl k
noncomputable def ZcX : List PK := [PK.mk Ty.bool false none false none]
noncomputable def ZtA : List PK := [PK.mk (Ty.pair (Ty.int .i64) (Ty.int .i64)) true none false none]
noncomputable def Zrq (r : Bool) : Tup ZcX × OutD := ((r, ()), none)
noncomputable def ZqA : Tup ZcX × OutD → Option (Bool)
 | (a, none) => some (a.1)
 | _ => none
theorem Zxk : ∀ b r, ZqA b = some r → Zrq r = b := by
 rintro ⟨a, o⟩ r h
 cases o with
 | none => injection h with h; subst h; rfl
 | some _ => cases h
noncomputable def Zfr : Nat → Int × Int → Option Bool
 | 0, _ => none
 | k + 1, p0 =>
  Option.bind (Z1L k p0.1 (0 : Int) (7 : Int)) fun z0 => if z0 = true then if decide (Prod.snd p0 = (0 : Int)) = true then some true else if decide (Prod.snd p0 = (1 : Int)) = true then Option.bind (Z4V k (Prod.fst p0, Prod.snd p0)) fun z1 => some z1 else some false else some false
noncomputable def Z6o : FnDef := .of ZtA ZcX (Bool) (fun k x => Zfr k x.1) Zrq ZqA Zxk
noncomputable def ZjN : Code := Tryz.f110.body.getD .skip
noncomputable def Zfg : Ctx (Tup ZcX × OutD) := { T := T, G := [(59, Z25.E), (128, Z26.E)], mvs := [], no := 0, n := 20, res := resOf T ZtA ZcX Tryz.f110.results.toList, loops := [], regs := [], conds := [], cuts := [] }
theorem ZEi (k : Nat) : EnvOK Tryz.prog k Zfg.G := (EnvOK.cons (Z8I k) (EnvOK.cons (ZfZ k) (EnvOK.nil mixed)))
theorem ZE7 (k : Nat) (x : Tup Z6o.ps) : Z6o.f (k + 1) x = fnK Z6o Zfg ZjN k x := by kernel_rfl
theorem ZEu (x : Tup Z6o.ps) : Z6o.f 0 x = none := by kernel_rfl
theorem ZEc (k : Nat) : LOK Tryz.prog Zfg k ZjN := LOK.by [] (by kernel_rfl) AllOK.nil
theorem ZF6 (k : Nat) : SoundAt Tryz.prog k 110 Z6o.E := @Z3 Tryz.prog Z6o Zfg 110 Tryz.f110 ZjN (by kernel_rfl) (by kernel_rfl) (by kernel_rfl) Tryz.func110 (by kernel_rfl) (by kernel_rfl) (by kernel_rfl) T_ok ZEi ZEc ZEu ZE7 k
noncomputable def Z3o : List PK := [PK.mk (Ty.slice (3 : Nat) (Ty.int .i64)) false none false none]
noncomputable def ZoI : List PK := [PK.mk (Ty.pair (Ty.int .i64) (Ty.pair (Ty.int .i64) (Ty.slice (122 : Nat) (Ty.pair (Ty.int .i64) (Ty.int .i64))))) true none false none]
noncomputable def Zng (r : List Int) : Tup Z3o × OutD := ((r, ()), none)
noncomputable def ZmK : Tup Z3o × OutD → Option (List Int)
 | (a, none) => some (a.1)
 | _ => none
theorem Zuz : ∀ b r, ZmK b = some r → Zng r = b := by
 rintro ⟨a, o⟩ r h
 cases o with
 | none => injection h with h; subst h; rfl
 | some _ => cases h
noncomputable def Z6e : Nat → Int → Int → List (Int × Int) → List Int → Int → Int → Option (Int × Int × List (Int × Int) × List Int)
 | 0, _, _, _, _, _, _ => none
 | k + 1, b1_0, b1_1, b1_2, o2, v17, v18 =>
  if decide (v18 < v17) = true then if (0 : Int) ≤ v18 then if v18 < (↑(List.length o2) : Int) then Z6e k b1_0 b1_1 b1_2 (List.set o2 (Int.toNat v18) (-1 : Int)) v17 (wrap64 (v18 + (1 : Int))) else none else none else some (b1_0, b1_1, b1_2, o2)
noncomputable def ZdC : Spec := Spec.mk [OSh.ro, OSh.box (26 : Nat) [Sh.int .i64, Sh.int .i64, Sh.snap (0 : Nat) (Ty.pair (Ty.int .i64) (Ty.int .i64))], OSh.row true (3 : Nat) (Ty.int .i64)] [((1 : Nat), TSh.at (Sh.ptr (1 : Nat) (0 : Nat))), ((3 : Nat), TSh.at (Sh.sl (2 : Nat))), ((17 : Nat), TSh.at (Sh.int .i64)), ((18 : Nat), TSh.at (Sh.int .i64))]
noncomputable def Zvn : Spec := Spec.mk [OSh.ro, OSh.box (26 : Nat) [Sh.int .i64, Sh.int .i64, Sh.snap (0 : Nat) (Ty.pair (Ty.int .i64) (Ty.int .i64))], OSh.row true (3 : Nat) (Ty.int .i64)] [((1 : Nat), TSh.at (Sh.ptr (1 : Nat) (0 : Nat))), ((3 : Nat), TSh.at (Sh.sl (2 : Nat)))]
noncomputable def Z59 : LoopDef (Tup Z3o × OutD) := .plain ZdC Zvn (Int × Int × List (Int × Int) × List Int) (fun k x => Z6e k x.1.2.1.1 x.1.2.1.2.1 x.1.2.1.2.2.1 x.1.2.2.1 x.2.2.2.1 x.2.2.2.2.1) (fun z => (((), (z.1, z.2.1, z.2.2.1, ()), z.2.2.2, ()), ((), (), ()))) (fun y => (y.1.2.1.1, y.1.2.1.2.1, y.1.2.1.2.2.1, y.1.2.2.1)) (fun _ => rfl)
noncomputable def Z3b : Nat → Int → Int → List (Int × Int) → List Int → List Int → List Int → Int → Int → List (Int × Int) → Int → Int → Int → Int → Option (Int × Int × List (Int × Int) × List Int × List Int × Int × Int × List (Int × Int) × Int × Int)
 | 0, _, _, _, _, _, _, _, _, _, _, _, _, _ => none
 | k + 1, b1_0, b1_1, b1_2, o2, o3, o4, v5, v9, v26, v27, v28, v61, v62 =>
  if decide (v62 < v61) = true then if (0 : Int) ≤ v62 then if v62 < (↑(List.length o4) : Int) then if (0 : Int) ≤ List.getD o4 (Int.toNat v62) (0 : Int) then if List.getD o4 (Int.toNat v62) (0 : Int) < (↑(List.length b1_2) : Int) then Option.bind (ZcK k (Prod.fst (List.getD b1_2 (Int.toNat (List.getD o4 (Int.toNat v62) (0 : Int))) ((0 : Int), (0 : Int))), Prod.snd (List.getD b1_2 (Int.toNat (List.getD o4 (Int.toNat v62) (0 : Int))) ((0 : Int), (0 : Int))))) fun z3 => if z3 = true then if (0 : Int) ≤ List.getD o4 (Int.toNat v62) (0 : Int) then if List.getD o4 (Int.toNat v62) (0 : Int) < (↑(List.length o2) : Int) then if decide (List.getD o2 (Int.toNat (List.getD o4 (Int.toNat v62) (0 : Int))) (0 : Int) < (0 : Int)) = true then if (0 : Int) ≤ List.getD o4 (Int.toNat v62) (0 : Int) then if List.getD o4 (Int.toNat v62) (0 : Int) < (↑(List.length o2) : Int) then if List.length o3 + List.length [List.getD o4 (Int.toNat v62) (0 : Int)] ≤ (140737488355328 / 8 : Nat) then Z3b k b1_0 b1_1 b1_2 (List.set o2 (Int.toNat (List.getD o4 (Int.toNat v62) (0 : Int))) v5) (o3 ++ [List.getD o4 (Int.toNat v62) (0 : Int)]) o4 v5 v9 v26 v27 v28 v61 (wrap64 (v62 + (1 : Int))) else none else none else none else Z3b k b1_0 b1_1 b1_2 o2 o3 o4 v5 v9 v26 v27 v28 v61 (wrap64 (v62 + (1 : Int))) else none else none else Z3b k b1_0 b1_1 b1_2 o2 o3 o4 v5 v9 v26 v27 v28 v61 (wrap64 (v62 + (1 : Int))) else none else none else none else none else some (b1_0, b1_1, b1_2, o2, o3, v5, v9, v26, v27, v28)
noncomputable def Zdz : Spec := Spec.mk [OSh.ro, OSh.box (26 : Nat) [Sh.int .i64, Sh.int .i64, Sh.snap (0 : Nat) (Ty.pair (Ty.int .i64) (Ty.int .i64))], OSh.row true (3 : Nat) (Ty.int .i64), OSh.row true (3 : Nat) (Ty.int .i64), OSh.row true (3 : Nat) (Ty.int .i64)] [((1 : Nat), TSh.at (Sh.ptr (1 : Nat) (0 : Nat))), ((3 : Nat), TSh.at (Sh.sl (2 : Nat))), ((5 : Nat), TSh.at (Sh.int .i64)), ((8 : Nat), TSh.at (Sh.sl (3 : Nat))), ((9 : Nat), TSh.at (Sh.int .i64)), ((26 : Nat), TSh.at (Sh.snap (0 : Nat) (Ty.pair (Ty.int .i64) (Ty.int .i64)))), ((27 : Nat), TSh.at (Sh.int .i64)), ((28 : Nat), TSh.at (Sh.int .i64)), ((60 : Nat), TSh.at (Sh.sl (4 : Nat))), ((61 : Nat), TSh.at (Sh.int .i64)), ((62 : Nat), TSh.at (Sh.int .i64))]
noncomputable def ZvJ : Spec := Spec.mk [OSh.ro, OSh.box (26 : Nat) [Sh.int .i64, Sh.int .i64, Sh.snap (0 : Nat) (Ty.pair (Ty.int .i64) (Ty.int .i64))], OSh.row true (3 : Nat) (Ty.int .i64), OSh.row true (3 : Nat) (Ty.int .i64)] [((1 : Nat), TSh.at (Sh.ptr (1 : Nat) (0 : Nat))), ((3 : Nat), TSh.at (Sh.sl (2 : Nat))), ((5 : Nat), TSh.at (Sh.int .i64)), ((8 : Nat), TSh.at (Sh.sl (3 : Nat))), ((9 : Nat), TSh.at (Sh.int .i64)), ((26 : Nat), TSh.at (Sh.snap (0 : Nat) (Ty.pair (Ty.int .i64) (Ty.int .i64)))), ((27 : Nat), TSh.at (Sh.int .i64)), ((28 : Nat), TSh.at (Sh.int .i64))]
noncomputable def Z5n : LoopDef (Tup Z3o × OutD) := .plain Zdz ZvJ (Int × Int × List (Int × Int) × List Int × List Int × Int × Int × List (Int × Int) × Int × Int) (fun k x => Z3b k x.1.2.1.1 x.1.2.1.2.1 x.1.2.1.2.2.1 x.1.2.2.1 x.1.2.2.2.1 x.1.2.2.2.2.1 x.2.2.2.1 x.2.2.2.2.2.1 x.2.2.2.2.2.2.1 x.2.2.2.2.2.2.2.1 x.2.2.2.2.2.2.2.2.1 x.2.2.2.2.2.2.2.2.2.2.1 x.2.2.2.2.2.2.2.2.2.2.2.1) (fun z => (((), (z.1, z.2.1, z.2.2.1, ()), z.2.2.2.1, z.2.2.2.2.1, ()), ((), (), z.2.2.2.2.2.1, (), z.2.2.2.2.2.2.1, z.2.2.2.2.2.2.2.1, z.2.2.2.2.2.2.2.2.1, z.2.2.2.2.2.2.2.2.2, ()))) (fun y => (y.1.2.1.1, y.1.2.1.2.1, y.1.2.1.2.2.1, y.1.2.2.1, y.1.2.2.2.1, y.2.2.2.1, y.2.2.2.2.2.1, y.2.2.2.2.2.2.1, y.2.2.2.2.2.2.2.1, y.2.2.2.2.2.2.2.2.1)) (fun _ => rfl)
noncomputable def Z4a : Nat → Int → Int → List (Int × Int) → List Int → List Int → Int → Int → List (Int × Int) → Int → Int → Option (Int × Int × List (Int × Int) × List Int × Int × List (Int × Int) × Int × Int)
 | 0, _, _, _, _, _, _, _, _, _, _ => none
 | k + 1, b1_0, b1_1, b1_2, o2, o3, v5, v9, v26, v27, v28 =>
  if decide (v9 < (↑(List.length o3) : Int)) = true then if (0 : Int) ≤ v9 then if v9 < (↑(List.length o3) : Int) then Option.bind (ZfA k (b1_0, b1_1, b1_2) (List.getD o3 (Int.toNat v9) (0 : Int))) fun z2 => Option.bind (Z3b k b1_0 b1_1 b1_2 o2 o3 z2 v5 v9 v26 v27 v28 (↑(List.length z2) : Int) (0 : Int)) fun z4 => Z4a k z4.1 z4.2.1 z4.2.2.1 z4.2.2.2.1 z4.2.2.2.2.1 z4.2.2.2.2.2.1 (wrap64 (Prod.fst z4.2.2.2.2.2.2 + (1 : Int))) z4.2.2.2.2.2.2.2.1 z4.2.2.2.2.2.2.2.2.1 z4.2.2.2.2.2.2.2.2.2 else none else none else some (b1_0, b1_1, b1_2, o2, v5, v26, v27, v28)
noncomputable def ZdY : Spec := Spec.mk [OSh.ro, OSh.box (26 : Nat) [Sh.int .i64, Sh.int .i64, Sh.snap (0 : Nat) (Ty.pair (Ty.int .i64) (Ty.int .i64))], OSh.row true (3 : Nat) (Ty.int .i64), OSh.row true (3 : Nat) (Ty.int .i64)] [((1 : Nat), TSh.at (Sh.ptr (1 : Nat) (0 : Nat))), ((3 : Nat), TSh.at (Sh.sl (2 : Nat))), ((5 : Nat), TSh.at (Sh.int .i64)), ((8 : Nat), TSh.at (Sh.sl (3 : Nat))), ((9 : Nat), TSh.at (Sh.int .i64)), ((26 : Nat), TSh.at (Sh.snap (0 : Nat) (Ty.pair (Ty.int .i64) (Ty.int .i64)))), ((27 : Nat), TSh.at (Sh.int .i64)), ((28 : Nat), TSh.at (Sh.int .i64))]
noncomputable def Zwp : Spec := Spec.mk [OSh.ro, OSh.box (26 : Nat) [Sh.int .i64, Sh.int .i64, Sh.snap (0 : Nat) (Ty.pair (Ty.int .i64) (Ty.int .i64))], OSh.row true (3 : Nat) (Ty.int .i64)] [((1 : Nat), TSh.at (Sh.ptr (1 : Nat) (0 : Nat))), ((3 : Nat), TSh.at (Sh.sl (2 : Nat))), ((5 : Nat), TSh.at (Sh.int .i64)), ((26 : Nat), TSh.at (Sh.snap (0 : Nat) (Ty.pair (Ty.int .i64) (Ty.int .i64)))), ((27 : Nat), TSh.at (Sh.int .i64)), ((28 : Nat), TSh.at (Sh.int .i64))]
noncomputable def Z5a : LoopDef (Tup Z3o × OutD) := .plain ZdY Zwp (Int × Int × List (Int × Int) × List Int × Int × List (Int × Int) × Int × Int) (fun k x => Z4a k x.1.2.1.1 x.1.2.1.2.1 x.1.2.1.2.2.1 x.1.2.2.1 x.1.2.2.2.1 x.2.2.2.1 x.2.2.2.2.2.1 x.2.2.2.2.2.2.1 x.2.2.2.2.2.2.2.1 x.2.2.2.2.2.2.2.2.1) (fun z => (((), (z.1, z.2.1, z.2.2.1, ()), z.2.2.2.1, ()), ((), (), z.2.2.2.2.1, z.2.2.2.2.2.1, z.2.2.2.2.2.2.1, z.2.2.2.2.2.2.2, ()))) (fun y => (y.1.2.1.1, y.1.2.1.2.1, y.1.2.1.2.2.1, y.1.2.2.1, y.2.2.2.1, y.2.2.2.2.1, y.2.2.2.2.2.1, y.2.2.2.2.2.2.1)) (fun _ => rfl)
noncomputable def Z2h : Nat → Int → Int → List (Int × Int) → List Int → Int → List (Int × Int) → Int → Int → Option (List Int)
 | 0, _, _, _, _, _, _, _, _ => none
 | k + 1, b1_0, b1_1, b1_2, o2, v5, v26, v27, v28 =>
  if decide (v28 < v27) = true then if (0 : Int) ≤ v28 then if v28 < (↑(List.length v26) : Int) then Option.bind (ZcK k (Prod.fst (List.getD v26 (Int.toNat v28) ((0 : Int), (0 : Int))), Prod.snd (List.getD v26 (Int.toNat v28) ((0 : Int), (0 : Int))))) fun z1 => if (!z1) = true then Z2h k b1_0 b1_1 b1_2 o2 v5 v26 v27 (wrap64 (v28 + (1 : Int))) else if (0 : Int) ≤ v28 then if v28 < (↑(List.length o2) : Int) then if decide (List.getD o2 (Int.toNat v28) (0 : Int) ≥ (0 : Int)) = true then Z2h k b1_0 b1_1 b1_2 o2 v5 v26 v27 (wrap64 (v28 + (1 : Int))) else if (0 : Int) ≤ v28 then if v28 < (↑(List.length o2) : Int) then Option.bind (Z4a k b1_0 b1_1 b1_2 (List.set o2 (Int.toNat v28) v5) [v28] v5 (0 : Int) v26 v27 v28) fun z5 => Z2h k z5.1 z5.2.1 z5.2.2.1 z5.2.2.2.1 (wrap64 (Prod.fst z5.2.2.2.2 + (1 : Int))) z5.2.2.2.2.2.1 z5.2.2.2.2.2.2.1 (wrap64 (Prod.snd z5.2.2.2.2.2.2 + (1 : Int))) else none else none else none else none else none else none else some o2
noncomputable def ZdA : Spec := Spec.mk [OSh.ro, OSh.box (26 : Nat) [Sh.int .i64, Sh.int .i64, Sh.snap (0 : Nat) (Ty.pair (Ty.int .i64) (Ty.int .i64))], OSh.row true (3 : Nat) (Ty.int .i64)] [((1 : Nat), TSh.at (Sh.ptr (1 : Nat) (0 : Nat))), ((3 : Nat), TSh.at (Sh.sl (2 : Nat))), ((5 : Nat), TSh.at (Sh.int .i64)), ((26 : Nat), TSh.at (Sh.snap (0 : Nat) (Ty.pair (Ty.int .i64) (Ty.int .i64)))), ((27 : Nat), TSh.at (Sh.int .i64)), ((28 : Nat), TSh.at (Sh.int .i64))]
noncomputable def Zvx : Spec := Spec.mk [OSh.ro, OSh.row true (3 : Nat) (Ty.int .i64)] [((3 : Nat), TSh.at (Sh.sl (1 : Nat)))]
noncomputable def Z5j : LoopDef (Tup Z3o × OutD) := .plain ZdA Zvx (List Int) (fun k x => Z2h k x.1.2.1.1 x.1.2.1.2.1 x.1.2.1.2.2.1 x.1.2.2.1 x.2.2.2.1 x.2.2.2.2.1 x.2.2.2.2.2.1 x.2.2.2.2.2.2.1) (fun z => (((), z, ()), ((), ()))) (fun y => (y.1.2.1)) (fun _ => rfl)
noncomputable def Z1U : Nat → Int × Int × List (Int × Int) → Option (List Int)
 | 0, _ => none
 | k + 1, p0 =>
  if Int.toNat (↑(List.length p0.2.2) : Int) * (8 : Nat) ≤ (281474976710656 : Nat) then Option.bind (Z6e k p0.1 p0.2.1 p0.2.2 (List.replicate (Int.toNat (↑(List.length p0.2.2) : Int)) (0 : Int)) (↑(List.length (List.replicate (Int.toNat (↑(List.length p0.2.2) : Int)) (0 : Int))) : Int) (0 : Int)) fun z0 => Option.bind (Z2h k z0.1 z0.2.1 z0.2.2.1 z0.2.2.2 (0 : Int) z0.2.2.1 (↑(List.length z0.2.2.1) : Int) (0 : Int)) fun z6 => some z6 else none
noncomputable def Z3k : FnDef := .of ZoI Z3o (List Int) (fun k x => Z1U k x.1) Zng ZmK Zuz
noncomputable def Z5D : Code := Tryz.f112.body.getD .skip
noncomputable def ZH : Ctx (Tup Z3o × OutD) := { T := T, G := [(131, Z6l.E), (132, Z6q.E)], mvs := [], no := 0, n := 92, res := resOf T ZoI Z3o Tryz.f112.results.toList, loops := [(0, Z59.E), (6, Z5n.E), (4, Z5a.E), (2, Z5j.E)], regs := [], conds := [], cuts := [] }
theorem Zax (k : Nat) : EnvOK Tryz.prog k ZH.G := (EnvOK.cons (ZFe k) (EnvOK.cons (ZES k) (EnvOK.nil mixed)))
noncomputable def Zav : Code := (findLoop 0 Z5D).getD .skip
theorem Zvp (k : Nat) (x : ZdC.D) : Z59.lp (k + 1) x = loopK ZH Z59 0 Zav k x := by kernel_rfl
theorem ZwM (k : Nat) : LOK Tryz.prog ZH k Zav := LOK.by [] (by kernel_rfl) AllOK.nil
theorem Zw2 (x : ZdC.D) : Z59.lp 0 x = none := by kernel_rfl
theorem Zv0 (k : Nat) : EOK Tryz.prog ZH k Z59.E (.block 0 (.loop Zav)) := Zb T_ok Zax Zw2 Zvp ZwM k
noncomputable def Zai : Code := (findLoop 6 Z5D).getD .skip
theorem Zw1 (k : Nat) (x : Zdz.D) : Z5n.lp (k + 1) x = loopK ZH Z5n 6 Zai k x := by kernel_rfl
theorem Zwa (k : Nat) : LOK Tryz.prog ZH k Zai := LOK.by [] (by kernel_rfl) AllOK.nil
theorem ZwO (x : Zdz.D) : Z5n.lp 0 x = none := by kernel_rfl
theorem ZuH (k : Nat) : EOK Tryz.prog ZH k Z5n.E (.block 6 (.loop Zai)) := Zb T_ok Zax ZwO Zw1 Zwa k
noncomputable def ZaC : Code := (findLoop 4 Z5D).getD .skip
theorem Zwz (k : Nat) (x : ZdY.D) : Z5a.lp (k + 1) x = loopK ZH Z5a 4 ZaC k x := by kernel_rfl
theorem Zvs (k : Nat) : LOK Tryz.prog ZH k ZaC := LOK.by [(Z5n.E, .block 6 (.loop Zai))] (by kernel_rfl) (AllOK.cons (ZuH k) AllOK.nil)
theorem Zvr (x : ZdY.D) : Z5a.lp 0 x = none := by kernel_rfl
theorem Zuc (k : Nat) : EOK Tryz.prog ZH k Z5a.E (.block 4 (.loop ZaC)) := Zb T_ok Zax Zvr Zwz Zvs k
noncomputable def Zam : Code := (findLoop 2 Z5D).getD .skip
theorem Zvo (k : Nat) (x : ZdA.D) : Z5j.lp (k + 1) x = loopK ZH Z5j 2 Zam k x := by kernel_rfl
theorem ZwN (k : Nat) : LOK Tryz.prog ZH k Zam := LOK.by [(Z5a.E, .block 4 (.loop ZaC))] (by kernel_rfl) (AllOK.cons (Zuc k) AllOK.nil)
theorem Zwc (x : ZdA.D) : Z5j.lp 0 x = none := by kernel_rfl
theorem ZuR (k : Nat) : EOK Tryz.prog ZH k Z5j.E (.block 2 (.loop Zam)) := Zb T_ok Zax Zwc Zvo ZwN k
theorem ZBq (k : Nat) (x : Tup Z3k.ps) : Z3k.f (k + 1) x = fnK Z3k ZH Z5D k x := by kernel_rfl
theorem ZCc (x : Tup Z3k.ps) : Z3k.f 0 x = none := by kernel_rfl
theorem ZBR (k : Nat) : LOK Tryz.prog ZH k Z5D := LOK.by [(Z59.E, .block 0 (.loop Zav)), (Z5j.E, .block 2 (.loop Zam))] (by kernel_rfl) (AllOK.cons (Zv0 k) (AllOK.cons (ZuR k) AllOK.nil))
theorem ZoB (k : Nat) : SoundAt Tryz.prog k 112 Z3k.E := @Z3 Tryz.prog Z3k ZH 112 Tryz.f112 Z5D (by kernel_rfl) (by kernel_rfl) (by kernel_rfl) Tryz.func112 (by kernel_rfl) (by kernel_rfl) (by kernel_rfl) T_ok Zax ZBR ZCc ZBq k
noncomputable def Z1y : List PK := [PK.mk (Ty.slice (3 : Nat) (Ty.int .i64)) false none false none]
noncomputable def Zi2 : List PK := [PK.mk (Ty.pair (Ty.int .i64) (Ty.pair (Ty.int .i64) (Ty.slice (122 : Nat) (Ty.pair (Ty.int .i64) (Ty.int .i64))))) true none false none]
noncomputable def Zhp (r : List Int) : Tup Z1y × OutD := ((r, ()), none)
noncomputable def Zhi : Tup Z1y × OutD → Option (List Int)
 | (a, none) => some (a.1)
 | _ => none
theorem ZnU : ∀ b r, Zhi b = some r → Zhp r = b := by
 rintro ⟨a, o⟩ r h
 cases o with
 | none => injection h with h; subst h; rfl
 | some _ => cases h
noncomputable def Z3p : Nat → Int → Int → List (Int × Int) → List Int → Int → Int → Option (Int × Int × List (Int × Int) × List Int)
 | 0, _, _, _, _, _, _ => none
 | k + 1, b1_0, b1_1, b1_2, o2, v17, v18 =>
  if decide (v18 < v17) = true then if (0 : Int) ≤ v18 then if v18 < (↑(List.length o2) : Int) then Z3p k b1_0 b1_1 b1_2 (List.set o2 (Int.toNat v18) (-1 : Int)) v17 (wrap64 (v18 + (1 : Int))) else none else none else some (b1_0, b1_1, b1_2, o2)
noncomputable def ZaK : Spec := Spec.mk [OSh.ro, OSh.box (26 : Nat) [Sh.int .i64, Sh.int .i64, Sh.snap (0 : Nat) (Ty.pair (Ty.int .i64) (Ty.int .i64))], OSh.row true (3 : Nat) (Ty.int .i64)] [((1 : Nat), TSh.at (Sh.ptr (1 : Nat) (0 : Nat))), ((3 : Nat), TSh.at (Sh.sl (2 : Nat))), ((17 : Nat), TSh.at (Sh.int .i64)), ((18 : Nat), TSh.at (Sh.int .i64))]
noncomputable def Zpi : Spec := Spec.mk [OSh.ro, OSh.box (26 : Nat) [Sh.int .i64, Sh.int .i64, Sh.snap (0 : Nat) (Ty.pair (Ty.int .i64) (Ty.int .i64))], OSh.row true (3 : Nat) (Ty.int .i64)] [((1 : Nat), TSh.at (Sh.ptr (1 : Nat) (0 : Nat))), ((3 : Nat), TSh.at (Sh.sl (2 : Nat)))]
noncomputable def Z30 : LoopDef (Tup Z1y × OutD) := .plain ZaK Zpi (Int × Int × List (Int × Int) × List Int) (fun k x => Z3p k x.1.2.1.1 x.1.2.1.2.1 x.1.2.1.2.2.1 x.1.2.2.1 x.2.2.2.1 x.2.2.2.2.1) (fun z => (((), (z.1, z.2.1, z.2.2.1, ()), z.2.2.2, ()), ((), (), ()))) (fun y => (y.1.2.1.1, y.1.2.1.2.1, y.1.2.1.2.2.1, y.1.2.2.1)) (fun _ => rfl)
noncomputable def Z1J : Nat → Int → Int → List (Int × Int) → List Int → List Int → List Int → Int → List (Int × Int) → Int → Int → Int → Int → Option (Int × Int × List (Int × Int) × List Int × List Int × Int × List (Int × Int) × Int × Int)
 | 0, _, _, _, _, _, _, _, _, _, _, _, _ => none
 | k + 1, b1_0, b1_1, b1_2, o2, o3, o4, v5, v26, v27, v28, v60, v61 =>
  if decide (v61 < v60) = true then if (0 : Int) ≤ v61 then if v61 < (↑(List.length o4) : Int) then if (0 : Int) ≤ List.getD o4 (Int.toNat v61) (0 : Int) then if List.getD o4 (Int.toNat v61) (0 : Int) < (↑(List.length b1_2) : Int) then Option.bind (Zar k (Prod.fst (List.getD b1_2 (Int.toNat (List.getD o4 (Int.toNat v61) (0 : Int))) ((0 : Int), (0 : Int))), Prod.snd (List.getD b1_2 (Int.toNat (List.getD o4 (Int.toNat v61) (0 : Int))) ((0 : Int), (0 : Int))))) fun z3 => if z3 = true then if (0 : Int) ≤ List.getD o4 (Int.toNat v61) (0 : Int) then if List.getD o4 (Int.toNat v61) (0 : Int) < (↑(List.length o2) : Int) then if decide (List.getD o2 (Int.toNat (List.getD o4 (Int.toNat v61) (0 : Int))) (0 : Int) < (0 : Int)) = true then if (0 : Int) ≤ List.getD o4 (Int.toNat v61) (0 : Int) then if List.getD o4 (Int.toNat v61) (0 : Int) < (↑(List.length o2) : Int) then if List.length o3 + List.length [List.getD o4 (Int.toNat v61) (0 : Int)] ≤ (140737488355328 / 8 : Nat) then Z1J k b1_0 b1_1 b1_2 (List.set o2 (Int.toNat (List.getD o4 (Int.toNat v61) (0 : Int))) v5) (o3 ++ [List.getD o4 (Int.toNat v61) (0 : Int)]) o4 v5 v26 v27 v28 v60 (wrap64 (v61 + (1 : Int))) else none else none else none else Z1J k b1_0 b1_1 b1_2 o2 o3 o4 v5 v26 v27 v28 v60 (wrap64 (v61 + (1 : Int))) else none else none else Z1J k b1_0 b1_1 b1_2 o2 o3 o4 v5 v26 v27 v28 v60 (wrap64 (v61 + (1 : Int))) else none else none else none else none else some (b1_0, b1_1, b1_2, o2, o3, v5, v26, v27, v28)
noncomputable def ZaU : Spec := Spec.mk [OSh.ro, OSh.box (26 : Nat) [Sh.int .i64, Sh.int .i64, Sh.snap (0 : Nat) (Ty.pair (Ty.int .i64) (Ty.int .i64))], OSh.row true (3 : Nat) (Ty.int .i64), OSh.row true (3 : Nat) (Ty.int .i64), OSh.row true (3 : Nat) (Ty.int .i64)] [((1 : Nat), TSh.at (Sh.ptr (1 : Nat) (0 : Nat))), ((3 : Nat), TSh.at (Sh.sl (2 : Nat))), ((5 : Nat), TSh.at (Sh.int .i64)), ((8 : Nat), TSh.at (Sh.sl (3 : Nat))), ((26 : Nat), TSh.at (Sh.snap (0 : Nat) (Ty.pair (Ty.int .i64) (Ty.int .i64)))), ((27 : Nat), TSh.at (Sh.int .i64)), ((28 : Nat), TSh.at (Sh.int .i64)), ((59 : Nat), TSh.at (Sh.sl (4 : Nat))), ((60 : Nat), TSh.at (Sh.int .i64)), ((61 : Nat), TSh.at (Sh.int .i64))]
noncomputable def ZpI : Spec := Spec.mk [OSh.ro, OSh.box (26 : Nat) [Sh.int .i64, Sh.int .i64, Sh.snap (0 : Nat) (Ty.pair (Ty.int .i64) (Ty.int .i64))], OSh.row true (3 : Nat) (Ty.int .i64), OSh.row true (3 : Nat) (Ty.int .i64)] [((1 : Nat), TSh.at (Sh.ptr (1 : Nat) (0 : Nat))), ((3 : Nat), TSh.at (Sh.sl (2 : Nat))), ((5 : Nat), TSh.at (Sh.int .i64)), ((8 : Nat), TSh.at (Sh.sl (3 : Nat))), ((26 : Nat), TSh.at (Sh.snap (0 : Nat) (Ty.pair (Ty.int .i64) (Ty.int .i64)))), ((27 : Nat), TSh.at (Sh.int .i64)), ((28 : Nat), TSh.at (Sh.int .i64))]
noncomputable def Z2T : LoopDef (Tup Z1y × OutD) := .plain ZaU ZpI (Int × Int × List (Int × Int) × List Int × List Int × Int × List (Int × Int) × Int × Int) (fun k x => Z1J k x.1.2.1.1 x.1.2.1.2.1 x.1.2.1.2.2.1 x.1.2.2.1 x.1.2.2.2.1 x.1.2.2.2.2.1 x.2.2.2.1 x.2.2.2.2.2.1 x.2.2.2.2.2.2.1 x.2.2.2.2.2.2.2.1 x.2.2.2.2.2.2.2.2.2.1 x.2.2.2.2.2.2.2.2.2.2.1) (fun z => (((), (z.1, z.2.1, z.2.2.1, ()), z.2.2.2.1, z.2.2.2.2.1, ()), ((), (), z.2.2.2.2.2.1, (), z.2.2.2.2.2.2.1, z.2.2.2.2.2.2.2.1, z.2.2.2.2.2.2.2.2, ()))) (fun y => (y.1.2.1.1, y.1.2.1.2.1, y.1.2.1.2.2.1, y.1.2.2.1, y.1.2.2.2.1, y.2.2.2.1, y.2.2.2.2.2.1, y.2.2.2.2.2.2.1, y.2.2.2.2.2.2.2.1)) (fun _ => rfl)
noncomputable def Z2i : Nat → Int → Int → List (Int × Int) → List Int → List Int → Int → List (Int × Int) → Int → Int → Option (Int × Int × List (Int × Int) × List Int × Int × List (Int × Int) × Int × Int)
 | 0, _, _, _, _, _, _, _, _, _ => none
 | k + 1, b1_0, b1_1, b1_2, o2, o3, v5, v26, v27, v28 =>
  if decide ((↑(List.length o3) : Int) > (0 : Int)) = true then if (0 : Int) < (↑(List.length o3) : Int) then if (1 : Int) ≤ (↑(List.length o3) : Int) then if (↑(List.length o3) : Int) ≤ (↑(List.length o3) : Int) then Option.bind (Zdk k (b1_0, b1_1, b1_2) (List.getD o3 (Int.toNat (0 : Int)) (0 : Int))) fun z2 => Option.bind (Z1J k b1_0 b1_1 b1_2 o2 (List.drop (Int.toNat (1 : Int)) o3) z2 v5 v26 v27 v28 (↑(List.length z2) : Int) (0 : Int)) fun z4 => Z2i k z4.1 z4.2.1 z4.2.2.1 z4.2.2.2.1 z4.2.2.2.2.1 z4.2.2.2.2.2.1 z4.2.2.2.2.2.2.1 z4.2.2.2.2.2.2.2.1 z4.2.2.2.2.2.2.2.2 else none else none else none else some (b1_0, b1_1, b1_2, o2, v5, v26, v27, v28)
noncomputable def ZaO : Spec := Spec.mk [OSh.ro, OSh.box (26 : Nat) [Sh.int .i64, Sh.int .i64, Sh.snap (0 : Nat) (Ty.pair (Ty.int .i64) (Ty.int .i64))], OSh.row true (3 : Nat) (Ty.int .i64), OSh.row true (3 : Nat) (Ty.int .i64)] [((1 : Nat), TSh.at (Sh.ptr (1 : Nat) (0 : Nat))), ((3 : Nat), TSh.at (Sh.sl (2 : Nat))), ((5 : Nat), TSh.at (Sh.int .i64)), ((8 : Nat), TSh.at (Sh.sl (3 : Nat))), ((26 : Nat), TSh.at (Sh.snap (0 : Nat) (Ty.pair (Ty.int .i64) (Ty.int .i64)))), ((27 : Nat), TSh.at (Sh.int .i64)), ((28 : Nat), TSh.at (Sh.int .i64))]
noncomputable def ZpX : Spec := Spec.mk [OSh.ro, OSh.box (26 : Nat) [Sh.int .i64, Sh.int .i64, Sh.snap (0 : Nat) (Ty.pair (Ty.int .i64) (Ty.int .i64))], OSh.row true (3 : Nat) (Ty.int .i64)] [((1 : Nat), TSh.at (Sh.ptr (1 : Nat) (0 : Nat))), ((3 : Nat), TSh.at (Sh.sl (2 : Nat))), ((5 : Nat), TSh.at (Sh.int .i64)), ((26 : Nat), TSh.at (Sh.snap (0 : Nat) (Ty.pair (Ty.int .i64) (Ty.int .i64)))), ((27 : Nat), TSh.at (Sh.int .i64)), ((28 : Nat), TSh.at (Sh.int .i64))]
noncomputable def Z33 : LoopDef (Tup Z1y × OutD) := .plain ZaO ZpX (Int × Int × List (Int × Int) × List Int × Int × List (Int × Int) × Int × Int) (fun k x => Z2i k x.1.2.1.1 x.1.2.1.2.1 x.1.2.1.2.2.1 x.1.2.2.1 x.1.2.2.2.1 x.2.2.2.1 x.2.2.2.2.2.1 x.2.2.2.2.2.2.1 x.2.2.2.2.2.2.2.1) (fun z => (((), (z.1, z.2.1, z.2.2.1, ()), z.2.2.2.1, ()), ((), (), z.2.2.2.2.1, z.2.2.2.2.2.1, z.2.2.2.2.2.2.1, z.2.2.2.2.2.2.2, ()))) (fun y => (y.1.2.1.1, y.1.2.1.2.1, y.1.2.1.2.2.1, y.1.2.2.1, y.2.2.2.1, y.2.2.2.2.1, y.2.2.2.2.2.1, y.2.2.2.2.2.2.1)) (fun _ => rfl)
noncomputable def Z1d : Nat → Int → Int → List (Int × Int) → List Int → Int → List (Int × Int) → Int → Int → Option (List Int)
 | 0, _, _, _, _, _, _, _, _ => none
 | k + 1, b1_0, b1_1, b1_2, o2, v5, v26, v27, v28 =>
  if decide (v28 < v27) = true then if (0 : Int) ≤ v28 then if v28 < (↑(List.length v26) : Int) then Option.bind (Zar k (Prod.fst (List.getD v26 (Int.toNat v28) ((0 : Int), (0 : Int))), Prod.snd (List.getD v26 (Int.toNat v28) ((0 : Int), (0 : Int))))) fun z1 => if (!z1) = true then Z1d k b1_0 b1_1 b1_2 o2 v5 v26 v27 (wrap64 (v28 + (1 : Int))) else if (0 : Int) ≤ v28 then if v28 < (↑(List.length o2) : Int) then if decide (List.getD o2 (Int.toNat v28) (0 : Int) ≥ (0 : Int)) = true then Z1d k b1_0 b1_1 b1_2 o2 v5 v26 v27 (wrap64 (v28 + (1 : Int))) else if (0 : Int) ≤ v28 then if v28 < (↑(List.length o2) : Int) then Option.bind (Z2i k b1_0 b1_1 b1_2 (List.set o2 (Int.toNat v28) v5) [v28] v5 v26 v27 v28) fun z5 => Z1d k z5.1 z5.2.1 z5.2.2.1 z5.2.2.2.1 (wrap64 (Prod.fst z5.2.2.2.2 + (1 : Int))) z5.2.2.2.2.2.1 z5.2.2.2.2.2.2.1 (wrap64 (Prod.snd z5.2.2.2.2.2.2 + (1 : Int))) else none else none else none else none else none else none else some o2
noncomputable def ZaX : Spec := Spec.mk [OSh.ro, OSh.box (26 : Nat) [Sh.int .i64, Sh.int .i64, Sh.snap (0 : Nat) (Ty.pair (Ty.int .i64) (Ty.int .i64))], OSh.row true (3 : Nat) (Ty.int .i64)] [((1 : Nat), TSh.at (Sh.ptr (1 : Nat) (0 : Nat))), ((3 : Nat), TSh.at (Sh.sl (2 : Nat))), ((5 : Nat), TSh.at (Sh.int .i64)), ((26 : Nat), TSh.at (Sh.snap (0 : Nat) (Ty.pair (Ty.int .i64) (Ty.int .i64)))), ((27 : Nat), TSh.at (Sh.int .i64)), ((28 : Nat), TSh.at (Sh.int .i64))]
noncomputable def ZpT : Spec := Spec.mk [OSh.ro, OSh.row true (3 : Nat) (Ty.int .i64)] [((3 : Nat), TSh.at (Sh.sl (1 : Nat)))]
noncomputable def Z31 : LoopDef (Tup Z1y × OutD) := .plain ZaX ZpT (List Int) (fun k x => Z1d k x.1.2.1.1 x.1.2.1.2.1 x.1.2.1.2.2.1 x.1.2.2.1 x.2.2.2.1 x.2.2.2.2.1 x.2.2.2.2.2.1 x.2.2.2.2.2.2.1) (fun z => (((), z, ()), ((), ()))) (fun y => (y.1.2.1)) (fun _ => rfl)
noncomputable def Z6z : Nat → Int × Int × List (Int × Int) → Option (List Int)
 | 0, _ => none
 | k + 1, p0 =>
  if Int.toNat (↑(List.length p0.2.2) : Int) * (8 : Nat) ≤ (281474976710656 : Nat) then Option.bind (Z3p k p0.1 p0.2.1 p0.2.2 (List.replicate (Int.toNat (↑(List.length p0.2.2) : Int)) (0 : Int)) (↑(List.length (List.replicate (Int.toNat (↑(List.length p0.2.2) : Int)) (0 : Int))) : Int) (0 : Int)) fun z0 => Option.bind (Z1d k z0.1 z0.2.1 z0.2.2.1 z0.2.2.2 (0 : Int) z0.2.2.1 (↑(List.length z0.2.2.1) : Int) (0 : Int)) fun z6 => some z6 else none
noncomputable def Z1z : FnDef := .of Zi2 Z1y (List Int) (fun k x => Z6z k x.1) Zhp Zhi ZnU
noncomputable def Z3j : Code := Tryz.f117.body.getD .skip
noncomputable def Zh : Ctx (Tup Z1y × OutD) := { T := T, G := [(136, Z4f.E), (137, Z4i.E)], mvs := [56], no := 0, n := 91, res := resOf T Zi2 Z1y Tryz.f117.results.toList, loops := [(0, Z30.E), (6, Z2T.E), (4, Z33.E), (2, Z31.E)], regs := [], conds := [], cuts := [] }
theorem Z6F (k : Nat) : EnvOK Tryz.prog k Zh.G := (EnvOK.cons (ZCd k) (EnvOK.cons (ZCm k) (EnvOK.nil mixed)))
noncomputable def Z7p : Code := (findLoop 0 Z3j).getD .skip
theorem Zp2 (k : Nat) (x : ZaK.D) : Z30.lp (k + 1) x = loopK Zh Z30 0 Z7p k x := by kernel_rfl
theorem Zpq (k : Nat) : LOK Tryz.prog Zh k Z7p := LOK.by [] (by kernel_rfl) AllOK.nil
theorem ZpM (x : ZaK.D) : Z30.lp 0 x = none := by kernel_rfl
theorem Zo5 (k : Nat) : EOK Tryz.prog Zh k Z30.E (.block 0 (.loop Z7p)) := Zb T_ok Z6F ZpM Zp2 Zpq k
noncomputable def Z7m : Code := (findLoop 6 Z3j).getD .skip
theorem ZpU (k : Nat) (x : ZaU.D) : Z2T.lp (k + 1) x = loopK Zh Z2T 6 Z7m k x := by kernel_rfl
theorem Zpg (k : Nat) : LOK Tryz.prog Zh k Z7m := LOK.by [] (by kernel_rfl) AllOK.nil
theorem ZpA (x : ZaU.D) : Z2T.lp 0 x = none := by kernel_rfl
theorem Znq (k : Nat) : EOK Tryz.prog Zh k Z2T.E (.block 6 (.loop Z7m)) := Zb T_ok Z6F ZpA ZpU Zpg k
noncomputable def Z7l : Code := (findLoop 4 Z3j).getD .skip
theorem ZoX (k : Nat) (x : ZaO.D) : Z33.lp (k + 1) x = loopK Zh Z33 4 Z7l k x := by kernel_rfl
theorem ZoZ (k : Nat) : LOK Tryz.prog Zh k Z7l := LOK.by [(Z2T.E, .block 6 (.loop Z7m))] (by kernel_rfl) (AllOK.cons (Znq k) AllOK.nil)
theorem Zpo (x : ZaO.D) : Z33.lp 0 x = none := by kernel_rfl
theorem ZnZ (k : Nat) : EOK Tryz.prog Zh k Z33.E (.block 4 (.loop Z7l)) := Zb T_ok Z6F Zpo ZoX ZoZ k
noncomputable def Z7g : Code := (findLoop 2 Z3j).getD .skip
theorem Zq1 (k : Nat) (x : ZaX.D) : Z31.lp (k + 1) x = loopK Zh Z31 2 Z7g k x := by kernel_rfl
theorem Zpr (k : Nat) : LOK Tryz.prog Zh k Z7g := LOK.by [(Z33.E, .block 4 (.loop Z7l))] (by kernel_rfl) (AllOK.cons (ZnZ k) AllOK.nil)
theorem Zpf (x : ZaX.D) : Z31.lp 0 x = none := by kernel_rfl
theorem ZnV (k : Nat) : EOK Tryz.prog Zh k Z31.E (.block 2 (.loop Z7g)) := Zb T_ok Z6F Zpf Zq1 Zpr k
theorem Zux (k : Nat) (x : Tup Z1z.ps) : Z1z.f (k + 1) x = fnK Z1z Zh Z3j k x := by kernel_rfl
theorem Zup (x : Tup Z1z.ps) : Z1z.f 0 x = none := by kernel_rfl
theorem Zuh (k : Nat) : LOK Tryz.prog Zh k Z3j := LOK.by [(Z30.E, .block 0 (.loop Z7p)), (Z31.E, .block 2 (.loop Z7g))] (by kernel_rfl) (AllOK.cons (Zo5 k) (AllOK.cons (ZnV k) AllOK.nil))
theorem Zib (k : Nat) : SoundAt Tryz.prog k 117 Z1z.E := @Z3 Tryz.prog Z1z Zh 117 Tryz.f117 Z3j (by kernel_rfl) (by kernel_rfl) (by kernel_rfl) Tryz.func117 (by kernel_rfl) (by kernel_rfl) (by kernel_rfl) T_ok Z6F Zuh Zup Zux k
noncomputable def Z2l : List PK := [PK.mk Ty.str false none false none]
noncomputable def ZbC : List PK := [PK.mk (Ty.int .i64) false none false none, PK.mk (Ty.int .i64) false none false none]
noncomputable def ZaZ (r : ByteArray) : Tup Z2l × OutD := ((r, ()), none)
noncomputable def ZaY : Tup Z2l × OutD → Option (ByteArray)
 | (a, none) => some (a.1)
 | _ => none
theorem Zg3 : ∀ b r, ZaY b = some r → ZaZ r = b := by
 rintro ⟨a, o⟩ r h
 cases o with
 | none => injection h with h; subst h; rfl
 | some _ => cases h
noncomputable def Z6W : Nat → Int → Int → Option ByteArray
 | 0, _, _ => none
 | k + 1, p0, p1 =>
  if decide (p1 = (10 : Int)) = true then if decide ((0 : Int) ≤ p0) = true then if decide (p0 < (100 : Int)) = true then Option.bind (Z9b k p0) fun z0 => some z0 else if decide (p0 < (0 : Int)) = true then none else none else if decide (p0 < (0 : Int)) = true then none else none else none
noncomputable def ZJ : FnDef := .of ZbC Z2l (ByteArray) (fun k x => Z6W k x.1 x.2.1) ZaZ ZaY Zg3
noncomputable def Z6R : Code := Tryz.f120.body.getD .skip
noncomputable def Z40 : Ctx (Tup Z2l × OutD) := { T := T, G := [(140, Z1b.E)], mvs := [], no := 0, n := 54, res := resOf T ZbC Z2l Tryz.f120.results.toList, loops := [], regs := [], conds := [], cuts := [] }
theorem ZiF (k : Nat) : EnvOK Tryz.prog k Z40.G := (EnvOK.cons (Zlo k) (EnvOK.nil mixed))
theorem ZiG (k : Nat) (x : Tup ZJ.ps) : ZJ.f (k + 1) x = fnK ZJ Z40 Z6R k x := by kernel_rfl
theorem Zit (x : Tup ZJ.ps) : ZJ.f 0 x = none := by kernel_rfl
theorem ZiH (k : Nat) : LOK Tryz.prog Z40 k Z6R := LOK.by [] (by kernel_rfl) AllOK.nil
theorem ZiL (k : Nat) : SoundAt Tryz.prog k 120 ZJ.E := @Z3 Tryz.prog ZJ Z40 120 Tryz.f120 Z6R (by kernel_rfl) (by kernel_rfl) (by kernel_rfl) Tryz.func120 (by kernel_rfl) (by kernel_rfl) (by kernel_rfl) T_ok ZiF ZiH Zit ZiG k
noncomputable def Z8O : List PK := [PK.mk (Ty.pair (Ty.int .i64) (Ty.pair (Ty.int .i64) (Ty.slice (122 : Nat) (Ty.pair (Ty.int .i64) (Ty.int .i64))))) true none false none]
noncomputable def ZqW : List PK := [PK.mk (Ty.int .i64) false none false none, PK.mk (Ty.int .i64) false none false none]
noncomputable def Zoe (r : Int × Int × List (Int × Int)) : Tup Z8O × OutD := ((r, ()), none)
noncomputable def Zog : Tup Z8O × OutD → Option (Int × Int × List (Int × Int))
 | (a, none) => some (a.1)
 | _ => none
theorem Zx3 : ∀ b r, Zog b = some r → Zoe r = b := by
 rintro ⟨a, o⟩ r h
 cases o with
 | none => injection h with h; subst h; rfl
 | some _ => cases h
noncomputable def Z6G : Nat → Int → Int → List (Int × Int) → Int → Int → List (Int × Int) → Int → Int → Int → Option (Int × Int × List (Int × Int) × Int × Int × List (Int × Int))
 | 0, _, _, _, _, _, _, _, _, _ => none
 | k + 1, b1_0, b1_1, o2, b3_0, b3_1, o4, v0, v1, v6 =>
  if decide (v6 < v0) = true then Option.bind (Zhb k v1 v6) fun z0 => if (0 : Int) ≤ wrap64 (wrap64 ((6 : Int) * v6) + (1 : Int)) then if wrap64 (wrap64 ((6 : Int) * v6) + (1 : Int)) < (↑(List.length o4) : Int) then if (0 : Int) ≤ wrap64 (wrap64 ((6 : Int) * v6) + (5 : Int)) then if wrap64 (wrap64 ((6 : Int) * v6) + (5 : Int)) < (↑(List.length (List.set o4 (Int.toNat (wrap64 (wrap64 ((6 : Int) * v6) + (1 : Int)))) ((3 : Int), z0))) : Int) then Z6G k b1_0 b1_1 o2 b3_0 b3_1 (List.set (List.set o4 (Int.toNat (wrap64 (wrap64 ((6 : Int) * v6) + (1 : Int)))) ((3 : Int), z0)) (Int.toNat (wrap64 (wrap64 ((6 : Int) * v6) + (5 : Int)))) ((1 : Int), (0 : Int))) v0 v1 (wrap64 (v6 + (1 : Int))) else none else none else none else none else some (b1_0, b1_1, o2, b3_0, b3_1, o4)
noncomputable def ZeR : Spec := Spec.mk [OSh.ro, OSh.box (26 : Nat) [Sh.int .i64, Sh.int .i64, Sh.sl (2 : Nat)], OSh.row true (122 : Nat) (Ty.pair (Ty.int .i64) (Ty.int .i64)), OSh.box (26 : Nat) [Sh.int .i64, Sh.int .i64, Sh.sl (4 : Nat)], OSh.row true (122 : Nat) (Ty.pair (Ty.int .i64) (Ty.int .i64))] [((0 : Nat), TSh.at (Sh.int .i64)), ((1 : Nat), TSh.at (Sh.int .i64)), ((4 : Nat), TSh.at (Sh.ptr (1 : Nat) (0 : Nat))), ((5 : Nat), TSh.at (Sh.ptr (3 : Nat) (0 : Nat))), ((6 : Nat), TSh.at (Sh.int .i64))]
noncomputable def ZxX : Spec := Spec.mk [OSh.ro, OSh.box (26 : Nat) [Sh.int .i64, Sh.int .i64, Sh.sl (2 : Nat)], OSh.row true (122 : Nat) (Ty.pair (Ty.int .i64) (Ty.int .i64)), OSh.box (26 : Nat) [Sh.int .i64, Sh.int .i64, Sh.sl (4 : Nat)], OSh.row true (122 : Nat) (Ty.pair (Ty.int .i64) (Ty.int .i64))] [((4 : Nat), TSh.at (Sh.ptr (1 : Nat) (0 : Nat))), ((5 : Nat), TSh.at (Sh.ptr (3 : Nat) (0 : Nat)))]
noncomputable def Z67 : LoopDef (Tup Z8O × OutD) := .plain ZeR ZxX (Int × Int × List (Int × Int) × Int × Int × List (Int × Int)) (fun k x => Z6G k x.1.2.1.1 x.1.2.1.2.1 x.1.2.2.1 x.1.2.2.2.1.1 x.1.2.2.2.1.2.1 x.1.2.2.2.2.1 x.2.1 x.2.2.1 x.2.2.2.2.2.1) (fun z => (((), (z.1, z.2.1, (), ()), z.2.2.1, (z.2.2.2.1, z.2.2.2.2.1, (), ()), z.2.2.2.2.2, ()), ((), (), ()))) (fun y => (y.1.2.1.1, y.1.2.1.2.1, y.1.2.2.1, y.1.2.2.2.1.1, y.1.2.2.2.1.2.1, y.1.2.2.2.2.1)) (fun _ => rfl)
noncomputable def Zew : Nat → Int → Int → Option (Int × Int × List (Int × Int))
 | 0, _, _ => none
 | k + 1, p0, p1 =>
  if (0 : Int) ≤ wrap64 ((6 : Int) * p0) then if Int.toNat (wrap64 ((6 : Int) * p0)) * (16 : Nat) ≤ (281474976710656 : Nat) then Option.bind (Z6G k (0 : Int) (0 : Int) [] (wrap64 ((2 : Int) * p0)) (3 : Int) (List.replicate (Int.toNat (wrap64 ((6 : Int) * p0))) ((0 : Int), (0 : Int))) p0 p1 (0 : Int)) fun z1 => some (Prod.fst z1.2.2.2, Prod.fst z1.2.2.2.2, Prod.snd z1.2.2.2.2) else none else none
noncomputable def Z5g : FnDef := .of ZqW Z8O (Int × Int × List (Int × Int)) (fun k x => Zew k x.1 x.2.1) Zoe Zog Zx3
noncomputable def Zek : Code := Tryz.f124.body.getD .skip
noncomputable def Z7b : Ctx (Tup Z8O × OutD) := { T := T, G := [(145, Z7D.E)], mvs := [], no := 0, n := 36, res := resOf T ZqW Z8O Tryz.f124.results.toList, loops := [(0, Z67.E)], regs := [], conds := [], cuts := [] }
theorem Zrb (k : Nat) : EnvOK Tryz.prog k Z7b.G := (EnvOK.cons (ZFN k) (EnvOK.nil mixed))
noncomputable def Zb1 : Code := (findLoop 0 Zek).getD .skip
theorem ZxW (k : Nat) (x : ZeR.D) : Z67.lp (k + 1) x = loopK Z7b Z67 0 Zb1 k x := by kernel_rfl
theorem ZxI (k : Nat) : LOK Tryz.prog Z7b k Zb1 := LOK.by [] (by kernel_rfl) AllOK.nil
theorem ZxP (x : ZeR.D) : Z67.lp 0 x = none := by kernel_rfl
theorem Zvz (k : Nat) : EOK Tryz.prog Z7b k Z67.E (.block 0 (.loop Zb1)) := Zb T_ok Zrb ZxP ZxW ZxI k
theorem ZD0 (k : Nat) (x : Tup Z5g.ps) : Z5g.f (k + 1) x = fnK Z5g Z7b Zek k x := by kernel_rfl
theorem ZCS (x : Tup Z5g.ps) : Z5g.f 0 x = none := by kernel_rfl
theorem ZDK (k : Nat) : LOK Tryz.prog Z7b k Zek := LOK.by [(Z67.E, .block 0 (.loop Zb1))] (by kernel_rfl) (AllOK.cons (Zvz k) AllOK.nil)
theorem ZDm (k : Nat) : SoundAt Tryz.prog k 124 Z5g.E := @Z3 Tryz.prog Z5g Z7b 124 Tryz.f124 Zek (by kernel_rfl) (by kernel_rfl) (by kernel_rfl) Tryz.func124 (by kernel_rfl) (by kernel_rfl) (by kernel_rfl) T_ok Zrb ZDK ZCS ZD0 k
noncomputable def Z9u : List PK := [PK.mk Ty.bool false none false none]
noncomputable def Zmg : List PK := [PK.mk (Ty.pair (Ty.int .i64) (Ty.int .i64)) true none false none]
noncomputable def Zk5 (r : Bool) : Tup Z9u × OutD := ((r, ()), none)
noncomputable def Zko : Tup Z9u × OutD → Option (Bool)
 | (a, none) => some (a.1)
 | _ => none
theorem ZrS : ∀ b r, Zko b = some r → Zk5 r = b := by
 rintro ⟨a, o⟩ r h
 cases o with
 | none => injection h with h; subst h; rfl
 | some _ => cases h
noncomputable def Z2P : Nat → Int × Int → Option Bool
 | 0, _ => none
 | k + 1, p0 =>
  Option.bind (Zaa k (Prod.fst p0, Prod.snd p0)) fun z0 => if z0 = true then if decide (Prod.fst p0 = (3 : Int)) = true then some true else some (decide (Prod.fst p0 = (6 : Int))) else some false
noncomputable def Z2Q : FnDef := .of Zmg Z9u (Bool) (fun k x => Z2P k x.1) Zk5 Zko ZrS
noncomputable def ZfT : Code := Tryz.f126.body.getD .skip
noncomputable def ZbZ : Ctx (Tup Z9u × OutD) := { T := T, G := [(130, Z3O.E)], mvs := [], no := 0, n := 15, res := resOf T Zmg Z9u Tryz.f126.results.toList, loops := [], regs := [], conds := [], cuts := [] }
theorem Zzh (k : Nat) : EnvOK Tryz.prog k ZbZ.G := (EnvOK.cons (ZjR k) (EnvOK.nil mixed))
theorem ZAY (k : Nat) (x : Tup Z2Q.ps) : Z2Q.f (k + 1) x = fnK Z2Q ZbZ ZfT k x := by kernel_rfl
theorem Zza (x : Tup Z2Q.ps) : Z2Q.f 0 x = none := by kernel_rfl
theorem ZBe (k : Nat) : LOK Tryz.prog ZbZ k ZfT := LOK.by [] (by kernel_rfl) AllOK.nil
theorem Zmj (k : Nat) : SoundAt Tryz.prog k 126 Z2Q.E := @Z3 Tryz.prog Z2Q ZbZ 126 Tryz.f126 ZfT (by kernel_rfl) (by kernel_rfl) (by kernel_rfl) Tryz.func126 (by kernel_rfl) (by kernel_rfl) (by kernel_rfl) T_ok Zzh ZBe Zza ZAY k
noncomputable def Za6 : List PK := []
noncomputable def ZtZ : List PK := [PK.mk (Ty.pair (Ty.int .i64) (Ty.pair (Ty.int .i64) (Ty.slice (122 : Nat) (Ty.pair (Ty.int .i64) (Ty.int .i64))))) true (some ((2 : Nat), (122 : Nat), Ty.pair (Ty.int .i64) (Ty.int .i64))) false none, PK.mk (Ty.slice (3 : Nat) (Ty.int .i64)) false none false none, PK.mk (Ty.int .i64) false none false none]
noncomputable def Zqa (r : List (Int × Int)) : Tup Za6 × OutD := ((()), some ⟨Ty.pair (Ty.int .i64) (Ty.int .i64), r⟩)
noncomputable def ZiI : Tup Za6 × OutD → Option (List (Int × Int))
 | (a, some ⟨u, ys⟩) => if h : u = Ty.pair (Ty.int .i64) (Ty.int .i64) then some (castU h ys) else none
 | _ => none
theorem Zxs : ∀ b r, ZiI b = some r → Zqa r = b := by
 rintro ⟨a, o⟩ r h
 cases o with
 | none => cases h
 | some s =>
  obtain ⟨u, ys⟩ := s
  simp only [ZiI] at h
  split at h
  ·rename_i hu; subst hu; injection h with h; subst h; rfl
  ·cases h
noncomputable def Z3l : Nat → List (Int × Int) → Int → Int → List Int → Int → Int → Int → Option (List (Int × Int))
 | 0, _, _, _, _, _, _, _ => none
 | k + 1, o1, b2_0, b2_1, v1, v2, v28, v29 =>
  if decide (v29 < v28) = true then if (0 : Int) ≤ v29 then if v29 < (↑(List.length o1) : Int) then if decide (Prod.fst (List.getD o1 (Int.toNat v29) ((0 : Int), (0 : Int))) = (6 : Int)) = true then if (0 : Int) ≤ v29 then if v29 < (↑(List.length v1) : Int) then if (0 : Int) ≤ v2 then if v2 < (↑(List.length v1) : Int) then if decide (List.getD v1 (Int.toNat v29) (0 : Int) = List.getD v1 (Int.toNat v2) (0 : Int)) = true then Option.bind (Z86 k (Prod.fst (List.getD o1 (Int.toNat v29) ((0 : Int), (0 : Int))), Prod.snd (List.getD o1 (Int.toNat v29) ((0 : Int), (0 : Int))))) fun z1 => if (0 : Int) ≤ v29 then if v29 < (↑(List.length o1) : Int) then Z3l k (List.set o1 (Int.toNat v29) (Prod.fst z1, Prod.snd z1)) b2_0 b2_1 v1 v2 v28 (wrap64 (v29 + (1 : Int))) else none else none else Z3l k o1 b2_0 b2_1 v1 v2 v28 (wrap64 (v29 + (1 : Int))) else none else none else none else none else Z3l k o1 b2_0 b2_1 v1 v2 v28 (wrap64 (v29 + (1 : Int))) else none else none else some o1
noncomputable def Zg9 : Spec := Spec.mk [OSh.ro, OSh.row false (122 : Nat) (Ty.pair (Ty.int .i64) (Ty.int .i64)), OSh.box (26 : Nat) [Sh.int .i64, Sh.int .i64, Sh.sl (1 : Nat)]] [((1 : Nat), TSh.at (Sh.snap (0 : Nat) (Ty.int .i64))), ((2 : Nat), TSh.at (Sh.int .i64)), ((3 : Nat), TSh.at (Sh.ptr (2 : Nat) (0 : Nat))), ((27 : Nat), TSh.at (Sh.sl (1 : Nat))), ((28 : Nat), TSh.at (Sh.int .i64)), ((29 : Nat), TSh.at (Sh.int .i64))]
noncomputable def ZAj : Spec := Spec.mk [OSh.ro, OSh.row false (122 : Nat) (Ty.pair (Ty.int .i64) (Ty.int .i64))] []
noncomputable def Z6M : LoopDef (Tup Za6 × OutD) := .plain Zg9 ZAj (List (Int × Int)) (fun k x => Z3l k x.1.2.1 x.1.2.2.1.1 x.1.2.2.1.2.1 x.2.1 x.2.2.1 x.2.2.2.2.2.1 x.2.2.2.2.2.2.1) (fun z => (((), z, ()), (()))) (fun y => (y.1.2.1)) (fun _ => rfl)
noncomputable def Zad : Nat → Int × Int × List (Int × Int) → List Int → Int → Option (List (Int × Int))
 | 0, _, _, _ => none
 | k + 1, p0, p1, p2 =>
  if (0 : Int) ≤ p2 then if p2 < (↑(List.length p0.2.2) : Int) then if decide (Prod.fst (List.getD p0.2.2 (Int.toNat p2) ((0 : Int), (0 : Int))) = (3 : Int)) = true then Option.bind (Z86 k (Prod.fst (List.getD p0.2.2 (Int.toNat p2) ((0 : Int), (0 : Int))), Prod.snd (List.getD p0.2.2 (Int.toNat p2) ((0 : Int), (0 : Int))))) fun z0 => if (0 : Int) ≤ p2 then if p2 < (↑(List.length p0.2.2) : Int) then some (List.set p0.2.2 (Int.toNat p2) (Prod.fst z0, Prod.snd z0)) else none else none else if decide (Prod.fst (List.getD p0.2.2 (Int.toNat p2) ((0 : Int), (0 : Int))) = (6 : Int)) = true then Option.bind (Z3l k p0.2.2 p0.1 p0.2.1 p1 p2 (↑(List.length p0.2.2) : Int) (0 : Int)) fun z2 => some z2 else some p0.2.2 else none else none
noncomputable def Z4J : FnDef := .of ZtZ Za6 (List (Int × Int)) (fun k x => Zad k x.1 x.2.1 x.2.2.1) Zqa ZiI Zxs
noncomputable def Zft : Code := Tryz.f134.body.getD .skip
noncomputable def Z87 : Ctx (Tup Za6 × OutD) := { T := T, G := [(148, Z4K.E)], mvs := [], no := 1, n := 55, res := resOf T ZtZ Za6 Tryz.f134.results.toList, loops := [(1, Z6M.E)], regs := [], conds := [], cuts := [] }
theorem Zt5 (k : Nat) : EnvOK Tryz.prog k Z87.G := (EnvOK.cons (Ztb k) (EnvOK.nil mixed))
noncomputable def Zcv : Code := (findLoop 1 Zft).getD .skip
theorem ZAA (k : Nat) (x : Zg9.D) : Z6M.lp (k + 1) x = loopK Z87 Z6M 1 Zcv k x := by kernel_rfl
theorem ZBb (k : Nat) : LOK Tryz.prog Z87 k Zcv := LOK.by [] (by kernel_rfl) AllOK.nil
theorem ZAD (x : Zg9.D) : Z6M.lp 0 x = none := by kernel_rfl
theorem Zxg (k : Nat) : EOK Tryz.prog Z87 k Z6M.E (.block 1 (.loop Zcv)) := Zb T_ok Zt5 ZAD ZAA ZBb k
theorem ZET (k : Nat) (x : Tup Z4J.ps) : Z4J.f (k + 1) x = fnK Z4J Z87 Zft k x := by kernel_rfl
theorem ZEI (x : Tup Z4J.ps) : Z4J.f 0 x = none := by kernel_rfl
theorem ZF4 (k : Nat) : LOK Tryz.prog Z87 k Zft := LOK.by [(Z6M.E, .block 1 (.loop Zcv))] (by kernel_rfl) (AllOK.cons (Zxg k) AllOK.nil)
theorem Ztk (k : Nat) : SoundAt Tryz.prog k 134 Z4J.E := @Z3 Tryz.prog Z4J Z87 134 Tryz.f134 Zft (by kernel_rfl) (by kernel_rfl) (by kernel_rfl) Tryz.func134 (by kernel_rfl) (by kernel_rfl) (by kernel_rfl) T_ok Zt5 ZF4 ZEI ZET k
noncomputable def ZcG : List PK := [PK.mk (Ty.int .i64) false none false none, PK.mk Ty.bool false none false none]
noncomputable def Ztc : List PK := [PK.mk (Ty.pair (Ty.int .i64) (Ty.int .i64)) true none false none, PK.mk (Ty.int .i64) false none false none]
noncomputable def Zqw (r : Int × Bool) : Tup ZcG × OutD := ((r.1, r.2, ()), none)
noncomputable def ZqP : Tup ZcG × OutD → Option (Int × Bool)
 | (a, none) => some (a.1, a.2.1)
 | _ => none
theorem ZxT : ∀ b r, ZqP b = some r → Zqw r = b := by
 rintro ⟨a, o⟩ r h
 cases o with
 | none => injection h with h; subst h; rfl
 | some _ => cases h
noncomputable def ZcN : Nat → Int × Int → Int → Option (Int × Bool)
 | 0, _, _ => none
 | k + 1, p0, p1 =>
  Option.bind (Zaa k (Prod.fst p0, Prod.snd p0)) fun z0 => if (!z0) = true then some ((0 : Int), false) else if decide (p1 < (-1 : Int)) = true then some ((0 : Int), false) else if decide (p1 > (1 : Int)) = true then some ((0 : Int), false) else if decide (Prod.fst p0 = (5 : Int)) = true then some ((0 : Int), false) else if decide (Prod.fst p0 = (1 : Int)) = true then some ((-1 : Int), true) else if decide (Prod.fst p0 = (2 : Int)) = true then some ((1 : Int), true) else if decide (Prod.fst p0 = (3 : Int)) = true then some (wrap64 (wrap64 ((2 : Int) * Prod.snd p0) - (1 : Int)), true) else if decide (Prod.fst p0 = (6 : Int)) = true then some (wrap64 (wrap64 ((2 : Int) * Prod.snd p0) - (1 : Int)), true) else if decide (Prod.fst p0 = (4 : Int)) = true then some (wrap64 ((0 : Int) - p1), true) else some ((0 : Int), true)
noncomputable def Z4H : FnDef := .of Ztc ZcG (Int × Bool) (fun k x => ZcN k x.1 x.2.1) Zqw ZqP ZxT
noncomputable def Zjx : Code := Tryz.f138.body.getD .skip
noncomputable def Zfn : Ctx (Tup ZcG × OutD) := { T := T, G := [(130, Z3O.E)], mvs := [], no := 0, n := 39, res := resOf T Ztc ZcG Tryz.f138.results.toList, loops := [], regs := [], conds := [], cuts := [] }
theorem ZEn (k : Nat) : EnvOK Tryz.prog k Zfn.G := (EnvOK.cons (ZjR k) (EnvOK.nil mixed))
theorem ZEW (k : Nat) (x : Tup Z4H.ps) : Z4H.f (k + 1) x = fnK Z4H Zfn Zjx k x := by kernel_rfl
theorem ZEq (x : Tup Z4H.ps) : Z4H.f 0 x = none := by kernel_rfl
theorem ZEN (k : Nat) : LOK Tryz.prog Zfn k Zjx := LOK.by [] (by kernel_rfl) AllOK.nil
theorem Zu4 (k : Nat) : SoundAt Tryz.prog k 138 Z4H.E := @Z3 Tryz.prog Z4H Zfn 138 Tryz.f138 Zjx (by kernel_rfl) (by kernel_rfl) (by kernel_rfl) Tryz.func138 (by kernel_rfl) (by kernel_rfl) (by kernel_rfl) T_ok ZEn ZEN ZEq ZEW k
noncomputable def Zbg : List PK := [PK.mk (Ty.slice (122 : Nat) (Ty.pair (Ty.int .i64) (Ty.int .i64))) false none false none]
noncomputable def Zwd : List PK := []
noncomputable def ZtY (r : List (Int × Int)) : Tup Zbg × OutD := ((r, ()), none)
noncomputable def ZtQ : Tup Zbg × OutD → Option (List (Int × Int))
 | (a, none) => some (a.1)
 | _ => none
theorem ZA7 : ∀ b r, ZtQ b = some r → ZtY r = b := by
 rintro ⟨a, o⟩ r h
 cases o with
 | none => injection h with h; subst h; rfl
 | some _ => cases h
noncomputable def Z5i : Nat → List (Int × Int) → Int → Option (List (Int × Int))
 | 0, _, _ => none
 | k + 1, o1, v2 =>
  if decide (v2 ≤ (7 : Int)) = true then if List.length o1 + List.length [(v2, (0 : Int))] ≤ (140737488355328 / 16 : Nat) then Option.bind (Z4V k (v2, (1 : Int))) fun z0 => if z0 = true then if List.length (o1 ++ [(v2, (0 : Int))]) + List.length [(v2, (1 : Int))] ≤ (140737488355328 / 16 : Nat) then Z5i k (o1 ++ [(v2, (0 : Int))] ++ [(v2, (1 : Int))]) (wrap64 (v2 + (1 : Int))) else none else Z5i k (o1 ++ [(v2, (0 : Int))]) (wrap64 (v2 + (1 : Int))) else none else some o1
noncomputable def Zhg : Spec := Spec.mk [OSh.ro, OSh.row true (122 : Nat) (Ty.pair (Ty.int .i64) (Ty.int .i64))] [((1 : Nat), TSh.at (Sh.sl (1 : Nat))), ((2 : Nat), TSh.at (Sh.int .i64))]
noncomputable def ZBD : Spec := Spec.mk [OSh.ro, OSh.row true (122 : Nat) (Ty.pair (Ty.int .i64) (Ty.int .i64))] [((1 : Nat), TSh.at (Sh.sl (1 : Nat)))]
noncomputable def Z7H : LoopDef (Tup Zbg × OutD) := .plain Zhg ZBD (List (Int × Int)) (fun k x => Z5i k x.1.2.1 x.2.2.1) (fun z => (((), z, ()), ((), ()))) (fun y => (y.1.2.1)) (fun _ => rfl)
noncomputable def Zh0 : Nat → Option (List (Int × Int))
 | 0 => none
 | k + 1 =>
  Option.bind (Z5i k [] (0 : Int)) fun z1 => some z1
noncomputable def Z7C : FnDef := .of Zwd Zbg (List (Int × Int)) (fun k x => Zh0 k) ZtY ZtQ ZA7
noncomputable def ZgS : Code := Tryz.f144.body.getD .skip
noncomputable def Z98 : Ctx (Tup Zbg × OutD) := { T := T, G := [(128, Z26.E)], mvs := [], no := 0, n := 22, res := resOf T Zwd Zbg Tryz.f144.results.toList, loops := [(0, Z7H.E)], regs := [], conds := [], cuts := [] }
theorem Zw4 (k : Nat) : EnvOK Tryz.prog k Z98.G := (EnvOK.cons (ZfZ k) (EnvOK.nil mixed))
noncomputable def Zdq : Code := (findLoop 0 ZgS).getD .skip
theorem ZBu (k : Nat) (x : Zhg.D) : Z7H.lp (k + 1) x = loopK Z98 Z7H 0 Zdq k x := by kernel_rfl
theorem ZBF (k : Nat) : LOK Tryz.prog Z98 k Zdq := LOK.by [] (by kernel_rfl) AllOK.nil
theorem ZBH (x : Zhg.D) : Z7H.lp 0 x = none := by kernel_rfl
theorem ZAm (k : Nat) : EOK Tryz.prog Z98 k Z7H.E (.block 0 (.loop Zdq)) := Zb T_ok Zw4 ZBH ZBu ZBF k
theorem ZFq (k : Nat) (x : Tup Z7C.ps) : Z7C.f (k + 1) x = fnK Z7C Z98 ZgS k x := by kernel_rfl
theorem ZFr (x : Tup Z7C.ps) : Z7C.f 0 x = none := by kernel_rfl
theorem ZFA (k : Nat) : LOK Tryz.prog Z98 k ZgS := LOK.by [(Z7H.E, .block 0 (.loop Zdq))] (by kernel_rfl) (AllOK.cons (ZAm k) AllOK.nil)
theorem ZFI (k : Nat) : SoundAt Tryz.prog k 144 Z7C.E := @Z3 Tryz.prog Z7C Z98 144 Tryz.f144 ZgS (by kernel_rfl) (by kernel_rfl) (by kernel_rfl) Tryz.func144 (by kernel_rfl) (by kernel_rfl) (by kernel_rfl) T_ok Zw4 ZFA ZFr ZFq k
noncomputable def Zau : List PK := [PK.mk (Ty.pair (Ty.int .i64) (Ty.int .i64)) true none false none]
noncomputable def ZoS : List PK := [PK.mk (Ty.pair (Ty.int .i64) (Ty.int .i64)) true none false none]
noncomputable def Zmu (r : Int × Int) : Tup Zau × OutD := ((r, ()), none)
noncomputable def Zn8 : Tup Zau × OutD → Option (Int × Int)
 | (a, none) => some (a.1)
 | _ => none
theorem Zuj : ∀ b r, Zn8 b = some r → Zmu r = b := by
 rintro ⟨a, o⟩ r h
 cases o with
 | none => injection h with h; subst h; rfl
 | some _ => cases h
noncomputable def Zdx : Nat → Int × Int → Option (Int × Int)
 | 0, _ => none
 | k + 1, p0 =>
  if decide (Prod.fst p0 = (1 : Int)) = true then some ((2 : Int), (0 : Int)) else if decide (Prod.fst p0 = (2 : Int)) = true then some ((1 : Int), (0 : Int)) else if decide (Prod.fst p0 = (3 : Int)) = true then Option.bind (Z86 k (Prod.fst p0, Prod.snd p0)) fun z0 => some (Prod.fst z0, Prod.snd z0) else if decide (Prod.fst p0 = (6 : Int)) = true then Option.bind (Z86 k (Prod.fst p0, Prod.snd p0)) fun z1 => some (Prod.fst z1, Prod.snd z1) else some (Prod.fst p0, Prod.snd p0)
noncomputable def Z4g : FnDef := .of ZoS Zau (Int × Int) (fun k x => Zdx k x.1) Zmu Zn8 Zuj
noncomputable def Zh4 : Code := Tryz.f146.body.getD .skip
noncomputable def Zdg : Ctx (Tup Zau × OutD) := { T := T, G := [(148, Z4K.E)], mvs := [], no := 0, n := 17, res := resOf T ZoS Zau Tryz.f146.results.toList, loops := [], regs := [], conds := [], cuts := [] }
theorem ZBm (k : Nat) : EnvOK Tryz.prog k Zdg.G := (EnvOK.cons (Ztb k) (EnvOK.nil mixed))
theorem ZBh (k : Nat) (x : Tup Z4g.ps) : Z4g.f (k + 1) x = fnK Z4g Zdg Zh4 k x := by kernel_rfl
theorem ZBE (x : Tup Z4g.ps) : Z4g.f 0 x = none := by kernel_rfl
theorem ZC3 (k : Nat) : LOK Tryz.prog Zdg k Zh4 := LOK.by [] (by kernel_rfl) AllOK.nil
theorem ZCi (k : Nat) : SoundAt Tryz.prog k 146 Z4g.E := @Z3 Tryz.prog Z4g Zdg 146 Tryz.f146 Zh4 (by kernel_rfl) (by kernel_rfl) (by kernel_rfl) Tryz.func146 (by kernel_rfl) (by kernel_rfl) (by kernel_rfl) T_ok ZBm ZC3 ZBE ZBh k
end
end Go.Proofs.YtglkedenkcpcbaaGreatDoor.Vs
