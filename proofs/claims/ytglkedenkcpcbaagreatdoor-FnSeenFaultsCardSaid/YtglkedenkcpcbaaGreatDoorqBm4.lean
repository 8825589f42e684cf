/- The proof, part 5. -/
import Derived.Test.YtglkedenkcpcbaaGreatDoorqBm3
set_option maxRecDepth 100000
set_option maxHeartbeats 2000000
set_option linter.unusedVariables false
set_option linter.unusedSimpArgs false
namespace Go.Proofs.YtglkedenkcpcbaaGreatDoor.Vs
open Go.RowKit
noncomputable section
noncomputable def Z8P : List PK := [PK.mk Ty.bool false none false none]
noncomputable def ZqB : List PK := [PK.mk (Ty.slice (42 : Nat) (Ty.pair (Ty.int .i64) (Ty.pair (Ty.int .i64) (Ty.int .i64)))) false none false none, PK.mk (Ty.slice (42 : Nat) (Ty.pair (Ty.int .i64) (Ty.pair (Ty.int .i64) (Ty.int .i64)))) false none false none]
noncomputable def ZgY (r : Bool) : Tup Z8P × OutD := ((r, ()), none)
noncomputable def Zhn : Tup Z8P × OutD → Option (Bool)
 | (a, none) => some (a.1)
 | _ => none
theorem Zjp : ∀ b r, Zhn b = some r → ZgY r = b := by
 rintro ⟨a, o⟩ r h
 cases o with
 | none => injection h with h; subst h; rfl
 | some _ => cases h
noncomputable def Z79 : Nat → List (Int × Int × Int) → List (Int × Int × Int) → Int → Int → Option (LR Unit Bool)
 | 0, _, _, _, _ => none
 | k + 1, v0, v1, v12, v13 =>
  if decide (v13 < v12) = true then if (0 : Int) ≤ v13 then if v13 < (↑(List.length v0) : Int) then if (0 : Int) ≤ v13 then if v13 < (↑(List.length v1) : Int) then if (!(decide (Prod.fst (List.getD v0 (Int.toNat v13) ((0 : Int), (0 : Int), (0 : Int))) = Prod.fst (List.getD v1 (Int.toNat v13) ((0 : Int), (0 : Int), (0 : Int)))) && (decide (Prod.fst (Prod.snd (List.getD v0 (Int.toNat v13) ((0 : Int), (0 : Int), (0 : Int)))) = Prod.fst (Prod.snd (List.getD v1 (Int.toNat v13) ((0 : Int), (0 : Int), (0 : Int))))) && (decide (Prod.snd (Prod.snd (List.getD v0 (Int.toNat v13) ((0 : Int), (0 : Int), (0 : Int)))) = Prod.snd (Prod.snd (List.getD v1 (Int.toNat v13) ((0 : Int), (0 : Int), (0 : Int))))) && true)))) = true then some (LR.ret false) else Z79 k v0 v1 v12 (wrap64 (v13 + (1 : Int))) else none else none else none else none else some (LR.go ())
noncomputable def ZeO : Spec := Spec.mk [OSh.ro] [((0 : Nat), TSh.at (Sh.snap (0 : Nat) (Ty.pair (Ty.int .i64) (Ty.pair (Ty.int .i64) (Ty.int .i64))))), ((1 : Nat), TSh.at (Sh.snap (0 : Nat) (Ty.pair (Ty.int .i64) (Ty.pair (Ty.int .i64) (Ty.int .i64))))), ((12 : Nat), TSh.at (Sh.int .i64)), ((13 : Nat), TSh.at (Sh.int .i64))]
noncomputable def Zxz : Spec := Spec.mk [OSh.ro] []
noncomputable def Z69 : LoopDef (Tup Z8P × OutD) := .rets ZeO Zxz (Unit) (Bool) (fun k x => Z79 k x.2.1 x.2.2.1 x.2.2.2.1 x.2.2.2.2.1) (fun z => (((), ()), (()))) (fun y => ()) (fun _ => rfl) ZgY Zhn Zjp
noncomputable def Z93 : Nat → List (Int × Int × Int) → List (Int × Int × Int) → Option Bool
 | 0, _, _ => none
 | k + 1, p0, p1 =>
  if decide ((↑(List.length p0) : Int) ≠ (↑(List.length p1) : Int)) = true then some false else Option.bind (Z79 k p0 p1 (↑(List.length p0) : Int) (0 : Int)) fun z0 => LR.on z0 (fun y0 => some true) fun r0 => some r0
noncomputable def Z55 : FnDef := .of ZqB Z8P (Bool) (fun k x => Z93 k x.1 x.2.1) ZgY Zhn Zjp
noncomputable def Ze9 : Code := Tryz.f40.body.getD .skip
noncomputable def Z6I : Ctx (Tup Z8P × OutD) := { T := T, G := [], mvs := [], no := 0, n := 26, res := resOf T ZqB Z8P Tryz.f40.results.toList, loops := [(0, Z69.E)], regs := [], conds := [], cuts := [] }
theorem Zrh (k : Nat) : EnvOK Tryz.prog k Z6I.G := (EnvOK.nil mixed)
noncomputable def Zb0 : Code := (findLoop 0 Ze9).getD .skip
theorem ZxE (k : Nat) (x : ZeO.D) : Z69.lp (k + 1) x = loopK Z6I Z69 0 Zb0 k x := by kernel_rfl
theorem ZxG (k : Nat) : LOK Tryz.prog Z6I k Zb0 := LOK.by [] (by kernel_rfl) AllOK.nil
theorem ZxC (x : ZeO.D) : Z69.lp 0 x = none := by kernel_rfl
theorem ZvL (k : Nat) : EOK Tryz.prog Z6I k Z69.E (.block 0 (.loop Zb0)) := Zb T_ok Zrh ZxC ZxE ZxG k
theorem ZDq (k : Nat) (x : Tup Z55.ps) : Z55.f (k + 1) x = fnK Z55 Z6I Ze9 k x := by kernel_rfl
theorem ZDb (x : Tup Z55.ps) : Z55.f 0 x = none := by kernel_rfl
theorem ZDo (k : Nat) : LOK Tryz.prog Z6I k Ze9 := LOK.by [(Z69.E, .block 0 (.loop Zb0))] (by kernel_rfl) (AllOK.cons (ZvL k) AllOK.nil)
theorem ZDH (k : Nat) : SoundAt Tryz.prog k 40 Z55.E := @Z3 Tryz.prog Z55 Z6I 40 Tryz.f40 Ze9 (by kernel_rfl) (by kernel_rfl) (by kernel_rfl) Tryz.func40 (by kernel_rfl) (by kernel_rfl) (by kernel_rfl) T_ok Zrh ZDo ZDb ZDq k
noncomputable def Zah : List PK := [PK.mk Ty.bool false none false none]
noncomputable def ZtJ : List PK := [PK.mk (Ty.slice (67 : Nat) (Ty.pair (Ty.int .i64) (Ty.pair (Ty.int .i64) (Ty.int .i64)))) false none false none, PK.mk (Ty.slice (67 : Nat) (Ty.pair (Ty.int .i64) (Ty.pair (Ty.int .i64) (Ty.int .i64)))) false none false none]
noncomputable def Ziz (r : Bool) : Tup Zah × OutD := ((r, ()), none)
noncomputable def Zii : Tup Zah × OutD → Option (Bool)
 | (a, none) => some (a.1)
 | _ => none
theorem ZjX : ∀ b r, Zii b = some r → Ziz r = b := by
 rintro ⟨a, o⟩ r h
 cases o with
 | none => injection h with h; subst h; rfl
 | some _ => cases h
noncomputable def Z7V : Nat → List (Int × Int × Int) → List (Int × Int × Int) → Int → Int → Option (LR Unit Bool)
 | 0, _, _, _, _ => none
 | k + 1, v0, v1, v12, v13 =>
  if decide (v13 < v12) = true then if (0 : Int) ≤ v13 then if v13 < (↑(List.length v0) : Int) then if (0 : Int) ≤ v13 then if v13 < (↑(List.length v1) : Int) then if (!(decide (Prod.fst (List.getD v0 (Int.toNat v13) ((0 : Int), (0 : Int), (0 : Int))) = Prod.fst (List.getD v1 (Int.toNat v13) ((0 : Int), (0 : Int), (0 : Int)))) && (decide (Prod.fst (Prod.snd (List.getD v0 (Int.toNat v13) ((0 : Int), (0 : Int), (0 : Int)))) = Prod.fst (Prod.snd (List.getD v1 (Int.toNat v13) ((0 : Int), (0 : Int), (0 : Int))))) && (decide (Prod.snd (Prod.snd (List.getD v0 (Int.toNat v13) ((0 : Int), (0 : Int), (0 : Int)))) = Prod.snd (Prod.snd (List.getD v1 (Int.toNat v13) ((0 : Int), (0 : Int), (0 : Int))))) && true)))) = true then some (LR.ret false) else Z7V k v0 v1 v12 (wrap64 (v13 + (1 : Int))) else none else none else none else none else some (LR.go ())
noncomputable def Zg4 : Spec := Spec.mk [OSh.ro] [((0 : Nat), TSh.at (Sh.snap (0 : Nat) (Ty.pair (Ty.int .i64) (Ty.pair (Ty.int .i64) (Ty.int .i64))))), ((1 : Nat), TSh.at (Sh.snap (0 : Nat) (Ty.pair (Ty.int .i64) (Ty.pair (Ty.int .i64) (Ty.int .i64))))), ((12 : Nat), TSh.at (Sh.int .i64)), ((13 : Nat), TSh.at (Sh.int .i64))]
noncomputable def ZzH : Spec := Spec.mk [OSh.ro] []
noncomputable def Z74 : LoopDef (Tup Zah × OutD) := .rets Zg4 ZzH (Unit) (Bool) (fun k x => Z7V k x.2.1 x.2.2.1 x.2.2.2.1 x.2.2.2.2.1) (fun z => (((), ()), (()))) (fun y => ()) (fun _ => rfl) Ziz Zii ZjX
noncomputable def Za3 : Nat → List (Int × Int × Int) → List (Int × Int × Int) → Option Bool
 | 0, _, _ => none
 | k + 1, p0, p1 =>
  if decide ((↑(List.length p0) : Int) ≠ (↑(List.length p1) : Int)) = true then some false else Option.bind (Z7V k p0 p1 (↑(List.length p0) : Int) (0 : Int)) fun z0 => LR.on z0 (fun y0 => some true) fun r0 => some r0
noncomputable def Z6i : FnDef := .of ZtJ Zah (Bool) (fun k x => Za3 k x.1 x.2.1) Ziz Zii ZjX
noncomputable def Zfp : Code := Tryz.f43.body.getD .skip
noncomputable def Z85 : Ctx (Tup Zah × OutD) := { T := T, G := [], mvs := [], no := 0, n := 26, res := resOf T ZtJ Zah Tryz.f43.results.toList, loops := [(0, Z74.E)], regs := [], conds := [], cuts := [] }
theorem ZtG (k : Nat) : EnvOK Tryz.prog k Z85.G := (EnvOK.nil mixed)
noncomputable def Zcm : Code := (findLoop 0 Zfp).getD .skip
theorem ZyR (k : Nat) (x : Zg4.D) : Z74.lp (k + 1) x = loopK Z85 Z74 0 Zcm k x := by kernel_rfl
theorem ZzR (k : Nat) : LOK Tryz.prog Z85 k Zcm := LOK.by [] (by kernel_rfl) AllOK.nil
theorem Zzk (x : Zg4.D) : Z74.lp 0 x = none := by kernel_rfl
theorem Zxu (k : Nat) : EOK Tryz.prog Z85 k Z74.E (.block 0 (.loop Zcm)) := Zb T_ok ZtG Zzk ZyR ZzR k
theorem ZE8 (k : Nat) (x : Tup Z6i.ps) : Z6i.f (k + 1) x = fnK Z6i Z85 Zfp k x := by kernel_rfl
theorem ZEh (x : Tup Z6i.ps) : Z6i.f 0 x = none := by kernel_rfl
theorem ZEH (k : Nat) : LOK Tryz.prog Z85 k Zfp := LOK.by [(Z74.E, .block 0 (.loop Zcm))] (by kernel_rfl) (AllOK.cons (Zxu k) AllOK.nil)
theorem ZEJ (k : Nat) : SoundAt Tryz.prog k 43 Z6i.E := @Z3 Tryz.prog Z6i Z85 43 Tryz.f43 Zfp (by kernel_rfl) (by kernel_rfl) (by kernel_rfl) Tryz.func43 (by kernel_rfl) (by kernel_rfl) (by kernel_rfl) T_ok ZtG ZEH ZEh ZE8 k
noncomputable def Zfe : List PK := [PK.mk Ty.bool false none false none]
noncomputable def Zyp : List PK := [PK.mk (Ty.int .i64) false none false none, PK.mk (Ty.int .i64) false none false none, PK.mk (Ty.int .i64) false none false none]
noncomputable def ZvE (r : Bool) : Tup Zfe × OutD := ((r, ()), none)
noncomputable def Zx0 : Tup Zfe × OutD → Option (Bool)
 | (a, none) => some (a.1)
 | _ => none
theorem ZC9 : ∀ b r, Zx0 b = some r → ZvE r = b := by
 rintro ⟨a, o⟩ r h
 cases o with
 | none => injection h with h; subst h; rfl
 | some _ => cases h
noncomputable def Z1L : Nat → Int → Int → Int → Option Bool
 | 0, _, _, _ => none
 | k + 1, p0, p1, p2 =>
  if decide (p0 ≥ p1) = true then some (decide (p0 ≤ p2)) else some false
noncomputable def Z25 : FnDef := .of Zyp Zfe (Bool) (fun k x => Z1L k x.1 x.2.1 x.2.2.1) ZvE Zx0 ZC9
noncomputable def Zpc : Code := Tryz.f59.body.getD .skip
noncomputable def ZiU : Ctx (Tup Zfe × OutD) := { T := T, G := [], mvs := [], no := 0, n := 15, res := resOf T Zyp Zfe Tryz.f59.results.toList, loops := [], regs := [], conds := [], cuts := [] }
theorem ZGN (k : Nat) : EnvOK Tryz.prog k ZiU.G := (EnvOK.nil mixed)
theorem ZGs (k : Nat) (x : Tup Z25.ps) : Z25.f (k + 1) x = fnK Z25 ZiU Zpc k x := by kernel_rfl
theorem ZGj (x : Tup Z25.ps) : Z25.f 0 x = none := by kernel_rfl
theorem ZGy (k : Nat) : LOK Tryz.prog ZiU k Zpc := LOK.by [] (by kernel_rfl) AllOK.nil
theorem Z8I (k : Nat) : SoundAt Tryz.prog k 59 Z25.E := @Z3 Tryz.prog Z25 ZiU 59 Tryz.f59 Zpc (by kernel_rfl) (by kernel_rfl) (by kernel_rfl) Tryz.func59 (by kernel_rfl) (by kernel_rfl) (by kernel_rfl) T_ok ZGN ZGy ZGj ZGs k
noncomputable def ZdL : List PK := [PK.mk Ty.str false none false none]
noncomputable def ZwZ : List PK := [PK.mk (Ty.int .i64) false none false none]
noncomputable def Ztp (r : ByteArray) : Tup ZdL × OutD := ((r, ()), none)
noncomputable def Zt7 : Tup ZdL × OutD → Option (ByteArray)
 | (a, none) => some (a.1)
 | _ => none
theorem ZzT : ∀ b r, Zt7 b = some r → Ztp r = b := by
 rintro ⟨a, o⟩ r h
 cases o with
 | none => injection h with h; subst h; rfl
 | some _ => cases h
noncomputable def Z5S : Nat → Int → Option ByteArray
 | 0, _ => none
 | k + 1, p0 =>
  if decide (p0 < (10 : Int)) = true then some (bytesOf [IntKind.wrap IntKind.u8 (wrap64 ((48 : Int) + p0))]) else none
noncomputable def Z5G : FnDef := .of ZwZ ZdL (ByteArray) (fun k x => Z5S k x.1) Ztp Zt7 ZzT
noncomputable def Zll : Code := Tryz.f76.body.getD .skip
noncomputable def Zh8 : Ctx (Tup ZdL × OutD) := { T := T, G := [], mvs := [], no := 0, n := 20, res := resOf T ZwZ ZdL Tryz.f76.results.toList, loops := [], regs := [], conds := [], cuts := [] }
theorem ZFV (k : Nat) : EnvOK Tryz.prog k Zh8.G := (EnvOK.nil mixed)
theorem ZFM (k : Nat) (x : Tup Z5G.ps) : Z5G.f (k + 1) x = fnK Z5G Zh8 Zll k x := by kernel_rfl
theorem ZFk (x : Tup Z5G.ps) : Z5G.f 0 x = none := by kernel_rfl
theorem ZFL (k : Nat) : LOK Tryz.prog Zh8 k Zll := LOK.by [] (by kernel_rfl) AllOK.nil
theorem ZwT (k : Nat) : SoundAt Tryz.prog k 76 Z5G.E := @Z3 Tryz.prog Z5G Zh8 76 Tryz.f76 Zll (by kernel_rfl) (by kernel_rfl) (by kernel_rfl) Tryz.func76 (by kernel_rfl) (by kernel_rfl) (by kernel_rfl) T_ok ZFV ZFL ZFk ZFM k
noncomputable def Z8Z : List PK := [PK.mk (Ty.slice (9 : Nat) Ty.str) false none false none]
noncomputable def Zr0 : List PK := [PK.mk Ty.str false none false none, PK.mk (Ty.int .u8) false none false none]
noncomputable def Zod (r : List ByteArray) : Tup Z8Z × OutD := ((r, ()), none)
noncomputable def Zom : Tup Z8Z × OutD → Option (List ByteArray)
 | (a, none) => some (a.1)
 | _ => none
theorem Zwv : ∀ b r, Zom b = some r → Zod r = b := by
 rintro ⟨a, o⟩ r h
 cases o with
 | none => injection h with h; subst h; rfl
 | some _ => cases h
noncomputable def Z4W : Nat → List ByteArray → ByteArray → Int → Int → Int → Option (List ByteArray × ByteArray × Int)
 | 0, _, _, _, _, _ => none
 | k + 1, o1, v0, v1, v6, v7 =>
  if decide (v7 < (↑(ByteArray.size v0) : Int)) = true then if (0 : Int) ≤ v7 then if v7 < (↑(ByteArray.size v0) : Int) then if decide (byteAt v0 (Int.toNat v7) = v1) = true then if (0 : Int) ≤ v6 then if v6 ≤ v7 then if v7 ≤ (↑(ByteArray.size v0) : Int) then if List.length o1 + List.length [subS v0 (Int.toNat v6) (Int.toNat v7)] ≤ (140737488355328 / 16 : Nat) then Z4W k (o1 ++ [subS v0 (Int.toNat v6) (Int.toNat v7)]) v0 v1 (wrap64 (v7 + (1 : Int))) (wrap64 (v7 + (1 : Int))) else none else none else none else none else Z4W k o1 v0 v1 v6 (wrap64 (v7 + (1 : Int))) else none else none else some (o1, v0, v6)
noncomputable def ZeL : Spec := Spec.mk [OSh.ro, OSh.row true (9 : Nat) Ty.str] [((0 : Nat), TSh.at Sh.str), ((1 : Nat), TSh.at (Sh.int .u8)), ((5 : Nat), TSh.at (Sh.sl (1 : Nat))), ((6 : Nat), TSh.at (Sh.int .i64)), ((7 : Nat), TSh.at (Sh.int .i64))]
noncomputable def Zxt : Spec := Spec.mk [OSh.ro, OSh.row true (9 : Nat) Ty.str] [((0 : Nat), TSh.at Sh.str), ((5 : Nat), TSh.at (Sh.sl (1 : Nat))), ((6 : Nat), TSh.at (Sh.int .i64))]
noncomputable def Z6f : LoopDef (Tup Z8Z × OutD) := .plain ZeL Zxt (List ByteArray × ByteArray × Int) (fun k x => Z4W k x.1.2.1 x.2.1 x.2.2.1 x.2.2.2.2.1 x.2.2.2.2.2.1) (fun z => (((), z.1, ()), (z.2.1, (), z.2.2, ()))) (fun y => (y.1.2.1, y.2.1, y.2.2.2.1)) (fun _ => rfl)
noncomputable def Zbq : Nat → ByteArray → Int → Option (List ByteArray)
 | 0, _, _ => none
 | k + 1, p0, p1 =>
  Option.bind (Z4W k [] p0 p1 (0 : Int) (0 : Int)) fun z0 => if (0 : Int) ≤ Prod.snd z0.2 then if Prod.snd z0.2 ≤ (↑(ByteArray.size z0.2.1) : Int) then if (↑(ByteArray.size z0.2.1) : Int) ≤ (↑(ByteArray.size z0.2.1) : Int) then if List.length z0.1 + List.length [subS z0.2.1 (Int.toNat z0.2.2) (Int.toNat (↑(ByteArray.size z0.2.1) : Int))] ≤ (140737488355328 / 16 : Nat) then some (Prod.fst z0 ++ [subS z0.2.1 (Int.toNat z0.2.2) (Int.toNat (↑(ByteArray.size z0.2.1) : Int))]) else none else none else none else none
noncomputable def Z57 : FnDef := .of Zr0 Z8Z (List ByteArray) (fun k x => Zbq k x.1 x.2.1) Zod Zom Zwv
noncomputable def Zeq : Code := Tryz.f79.body.getD .skip
noncomputable def Z73 : Ctx (Tup Z8Z × OutD) := { T := T, G := [], mvs := [], no := 0, n := 34, res := resOf T Zr0 Z8Z Tryz.f79.results.toList, loops := [(0, Z6f.E)], regs := [], conds := [], cuts := [] }
theorem Zqo (k : Nat) : EnvOK Tryz.prog k Z73.G := (EnvOK.nil mixed)
noncomputable def Zb9 : Code := (findLoop 0 Zeq).getD .skip
theorem ZxN (k : Nat) (x : ZeL.D) : Z6f.lp (k + 1) x = loopK Z73 Z6f 0 Zb9 k x := by kernel_rfl
theorem Zxb (k : Nat) : LOK Tryz.prog Z73 k Zb9 := LOK.by [] (by kernel_rfl) AllOK.nil
theorem Zy3 (x : ZeL.D) : Z6f.lp 0 x = none := by kernel_rfl
theorem Zwl (k : Nat) : EOK Tryz.prog Z73 k Z6f.E (.block 0 (.loop Zb9)) := Zb T_ok Zqo Zy3 ZxN Zxb k
theorem ZD7 (k : Nat) (x : Tup Z57.ps) : Z57.f (k + 1) x = fnK Z57 Z73 Zeq k x := by kernel_rfl
theorem ZDd (x : Tup Z57.ps) : Z57.f 0 x = none := by kernel_rfl
theorem ZCD (k : Nat) : LOK Tryz.prog Z73 k Zeq := LOK.by [(Z6f.E, .block 0 (.loop Zb9))] (by kernel_rfl) (AllOK.cons (Zwl k) AllOK.nil)
theorem ZCF (k : Nat) : SoundAt Tryz.prog k 79 Z57.E := @Z3 Tryz.prog Z57 Z73 79 Tryz.f79 Zeq (by kernel_rfl) (by kernel_rfl) (by kernel_rfl) Tryz.func79 (by kernel_rfl) (by kernel_rfl) (by kernel_rfl) T_ok Zqo ZCD ZDd ZD7 k
noncomputable def Zbo : List PK := [PK.mk (Ty.slice (9 : Nat) Ty.str) false none false none]
noncomputable def Zre : List PK := []
noncomputable def Zoj (r : List ByteArray) : Tup Zbo × OutD := ((r, ()), none)
noncomputable def Zoc : Tup Zbo × OutD → Option (List ByteArray)
 | (a, none) => some (a.1)
 | _ => none
theorem ZwL : ∀ b r, Zoc b = some r → Zoj r = b := by
 rintro ⟨a, o⟩ r h
 cases o with
 | none => injection h with h; subst h; rfl
 | some _ => cases h
noncomputable def Ziw : Nat → Option (List ByteArray)
 | 0 => none
 | k + 1 =>
  some [ByteArray.mk #[], ByteArray.mk #[(115 : UInt8), (116 : UInt8), (117 : UInt8), (99 : UInt8), (107 : UInt8)], ByteArray.mk #[(104 : UInt8), (111 : UInt8), (108 : UInt8), (101 : UInt8)], ByteArray.mk #[(116 : UInt8), (117 : UInt8), (114 : UInt8), (110 : UInt8), (101 : UInt8), (100 : UInt8)]]
noncomputable def Z3V : FnDef := .of Zre Zbo (List ByteArray) (fun k x => Ziw k) Zoj Zoc ZwL
noncomputable def Ziu : Code := Tryz.f81.body.getD .skip
noncomputable def Zes : Ctx (Tup Zbo × OutD) := { T := T, G := [], mvs := [], no := 0, n := 2, res := resOf T Zre Zbo Tryz.f81.results.toList, loops := [], regs := [], conds := [], cuts := [] }
theorem ZDf (k : Nat) : EnvOK Tryz.prog k Zes.G := (EnvOK.nil mixed)
theorem ZDc (k : Nat) (x : Tup Z3V.ps) : Z3V.f (k + 1) x = fnK Z3V Zes Ziu k x := by kernel_rfl
theorem ZCN (x : Tup Z3V.ps) : Z3V.f 0 x = none := by kernel_rfl
theorem ZDn (k : Nat) : LOK Tryz.prog Zes k Ziu := LOK.by [] (by kernel_rfl) AllOK.nil
theorem ZqN (k : Nat) : SoundAt Tryz.prog k 81 Z3V.E := @Z3 Tryz.prog Z3V Zes 81 Tryz.f81 Ziu (by kernel_rfl) (by kernel_rfl) (by kernel_rfl) Tryz.func81 (by kernel_rfl) (by kernel_rfl) (by kernel_rfl) T_ok ZDf ZDn ZCN ZDc k
noncomputable def ZcL : List PK := [PK.mk (Ty.int .i64) false none false none]
noncomputable def ZtF : List PK := [PK.mk (Ty.int .i64) false none false none, PK.mk (Ty.int .i64) false none false none]
noncomputable def Zqm (r : Int) : Tup ZcL × OutD := ((r, ()), none)
noncomputable def Zqx : Tup ZcL × OutD → Option (Int)
 | (a, none) => some (a.1)
 | _ => none
theorem Zxd : ∀ b r, Zqx b = some r → Zqm r = b := by
 rintro ⟨a, o⟩ r h
 cases o with
 | none => injection h with h; subst h; rfl
 | some _ => cases h
noncomputable def Za9 : Nat → Int → Int → Option Int
 | 0, _, _ => none
 | k + 1, p0, p1 =>
  if decide (p0 > p1) = true then some p0 else some p1
noncomputable def Z6k : FnDef := .of ZtF ZcL (Int) (fun k x => Za9 k x.1 x.2.1) Zqm Zqx Zxd
noncomputable def ZjH : Code := Tryz.f98.body.getD .skip
noncomputable def Zfh : Ctx (Tup ZcL × OutD) := { T := T, G := [], mvs := [], no := 0, n := 10, res := resOf T ZtF ZcL Tryz.f98.results.toList, loops := [], regs := [], conds := [], cuts := [] }
theorem ZEz (k : Nat) : EnvOK Tryz.prog k Zfh.G := (EnvOK.nil mixed)
theorem ZEA (k : Nat) (x : Tup Z6k.ps) : Z6k.f (k + 1) x = fnK Z6k Zfh ZjH k x := by kernel_rfl
theorem ZEV (x : Tup Z6k.ps) : Z6k.f 0 x = none := by kernel_rfl
theorem ZEd (k : Nat) : LOK Tryz.prog Zfh k ZjH := LOK.by [] (by kernel_rfl) AllOK.nil
theorem ZEX (k : Nat) : SoundAt Tryz.prog k 98 Z6k.E := @Z3 Tryz.prog Z6k Zfh 98 Tryz.f98 ZjH (by kernel_rfl) (by kernel_rfl) (by kernel_rfl) Tryz.func98 (by kernel_rfl) (by kernel_rfl) (by kernel_rfl) T_ok ZEz ZEd ZEV ZEA k
noncomputable def Zfd : List PK := [PK.mk (Ty.pair (Ty.int .i64) (Ty.int .i64)) true none false none]
noncomputable def Zys : List PK := [PK.mk (Ty.pair (Ty.int .i64) (Ty.pair (Ty.int .i64) (Ty.slice (122 : Nat) (Ty.pair (Ty.int .i64) (Ty.int .i64))))) true none false none, PK.mk (Ty.int .i64) false none false none, PK.mk (Ty.int .i64) false none false none]
noncomputable def ZvS (r : Int × Int) : Tup Zfd × OutD := ((r, ()), none)
noncomputable def Zw3 : Tup Zfd × OutD → Option (Int × Int)
 | (a, none) => some (a.1)
 | _ => none
theorem ZBM : ∀ b r, Zw3 b = some r → ZvS r = b := by
 rintro ⟨a, o⟩ r h
 cases o with
 | none => injection h with h; subst h; rfl
 | some _ => cases h
noncomputable def Z4E : Nat → Int × Int × List (Int × Int) → Int → Int → Option (Int × Int)
 | 0, _, _, _ => none
 | k + 1, p0, p1, p2 =>
  if (0 : Int) ≤ wrap64 (wrap64 (p1 * Prod.fst p0.2) + p2) then if wrap64 (wrap64 (p1 * Prod.fst p0.2) + p2) < (↑(List.length p0.2.2) : Int) then some (Prod.fst (List.getD p0.2.2 (Int.toNat (wrap64 (wrap64 (p1 * Prod.fst p0.2) + p2))) ((0 : Int), (0 : Int))), Prod.snd (List.getD p0.2.2 (Int.toNat (wrap64 (wrap64 (p1 * Prod.fst p0.2) + p2))) ((0 : Int), (0 : Int)))) else none else none
noncomputable def Z4D : FnDef := .of Zys Zfd (Int × Int) (fun k x => Z4E k x.1 x.2.1 x.2.2.1) ZvS Zw3 ZBM
noncomputable def Zq3 : Code := Tryz.f105.body.getD .skip
noncomputable def ZiO : Ctx (Tup Zfd × OutD) := { T := T, G := [], mvs := [], no := 0, n := 17, res := resOf T Zys Zfd Tryz.f105.results.toList, loops := [], regs := [], conds := [], cuts := [] }
theorem ZGR (k : Nat) : EnvOK Tryz.prog k ZiO.G := (EnvOK.nil mixed)
theorem ZGh (k : Nat) (x : Tup Z4D.ps) : Z4D.f (k + 1) x = fnK Z4D ZiO Zq3 k x := by kernel_rfl
theorem ZGV (x : Tup Z4D.ps) : Z4D.f 0 x = none := by kernel_rfl
theorem ZGm (k : Nat) : LOK Tryz.prog ZiO k Zq3 := LOK.by [] (by kernel_rfl) AllOK.nil
theorem ZiR (k : Nat) : SoundAt Tryz.prog k 105 Z4D.E := @Z3 Tryz.prog Z4D ZiO 105 Tryz.f105 Zq3 (by kernel_rfl) (by kernel_rfl) (by kernel_rfl) Tryz.func105 (by kernel_rfl) (by kernel_rfl) (by kernel_rfl) T_ok ZGR ZGm ZGV ZGh k
noncomputable def Za4 : List PK := [PK.mk (Ty.int .i64) false none false none]
noncomputable def ZtP : List PK := [PK.mk (Ty.slice (67 : Nat) (Ty.pair (Ty.int .i64) (Ty.pair (Ty.int .i64) (Ty.int .i64)))) false none false none, PK.mk (Ty.slice (67 : Nat) (Ty.pair (Ty.int .i64) (Ty.pair (Ty.int .i64) (Ty.int .i64)))) false none false none]
noncomputable def Zih (r : Int) : Tup Za4 × OutD := ((r, ()), none)
noncomputable def Zij : Tup Za4 × OutD → Option (Int)
 | (a, none) => some (a.1)
 | _ => none
theorem Zkh : ∀ b r, Zij b = some r → Zih r = b := by
 rintro ⟨a, o⟩ r h
 cases o with
 | none => injection h with h; subst h; rfl
 | some _ => cases h
noncomputable def Z7K : Nat → List (Int × Int × Int) → List (Int × Int × Int) → Int → Int → Option (LR Unit Int)
 | 0, _, _, _, _ => none
 | k + 1, v1, v7, v8, v9 =>
  if decide (v9 < v8) = true then if (0 : Int) ≤ v9 then if v9 < (↑(List.length v7) : Int) then if (0 : Int) ≤ v9 then if v9 < (↑(List.length v1) : Int) then if (!(decide (Prod.fst (List.getD v7 (Int.toNat v9) ((0 : Int), (0 : Int), (0 : Int))) = Prod.fst (List.getD v1 (Int.toNat v9) ((0 : Int), (0 : Int), (0 : Int)))) && (decide (Prod.fst (Prod.snd (List.getD v7 (Int.toNat v9) ((0 : Int), (0 : Int), (0 : Int)))) = Prod.fst (Prod.snd (List.getD v1 (Int.toNat v9) ((0 : Int), (0 : Int), (0 : Int))))) && (decide (Prod.snd (Prod.snd (List.getD v7 (Int.toNat v9) ((0 : Int), (0 : Int), (0 : Int)))) = Prod.snd (Prod.snd (List.getD v1 (Int.toNat v9) ((0 : Int), (0 : Int), (0 : Int))))) && true)))) = true then some (LR.ret v9) else Z7K k v1 v7 v8 (wrap64 (v9 + (1 : Int))) else none else none else none else none else some (LR.go ())
noncomputable def ZfW : Spec := Spec.mk [OSh.ro] [((1 : Nat), TSh.at (Sh.snap (0 : Nat) (Ty.pair (Ty.int .i64) (Ty.pair (Ty.int .i64) (Ty.int .i64))))), ((7 : Nat), TSh.at (Sh.snap (0 : Nat) (Ty.pair (Ty.int .i64) (Ty.pair (Ty.int .i64) (Ty.int .i64))))), ((8 : Nat), TSh.at (Sh.int .i64)), ((9 : Nat), TSh.at (Sh.int .i64))]
noncomputable def ZzY : Spec := Spec.mk [OSh.ro] []
noncomputable def Z78 : LoopDef (Tup Za4 × OutD) := .rets ZfW ZzY (Unit) (Int) (fun k x => Z7K k x.2.1 x.2.2.1 x.2.2.2.1 x.2.2.2.2.1) (fun z => (((), ()), (()))) (fun y => ()) (fun _ => rfl) Zih Zij Zkh
noncomputable def Zfu : Nat → List (Int × Int × Int) → List (Int × Int × Int) → Option Int
 | 0, _, _ => none
 | k + 1, p0, p1 =>
  Option.bind (Z7K k p1 p0 (↑(List.length p0) : Int) (0 : Int)) fun z0 => LR.on z0 (fun y0 => some (-1 : Int)) fun r0 => some r0
noncomputable def Z6m : FnDef := .of ZtP Za4 (Int) (fun k x => Zfu k x.1 x.2.1) Zih Zij Zkh
noncomputable def Zfk : Code := Tryz.f106.body.getD .skip
noncomputable def Z81 : Ctx (Tup Za4 × OutD) := { T := T, G := [], mvs := [], no := 0, n := 22, res := resOf T ZtP Za4 Tryz.f106.results.toList, loops := [(0, Z78.E)], regs := [], conds := [], cuts := [] }
theorem Zto (k : Nat) : EnvOK Tryz.prog k Z81.G := (EnvOK.nil mixed)
noncomputable def ZcA : Code := (findLoop 0 Zfk).getD .skip
theorem ZAH (k : Nat) (x : ZfW.D) : Z78.lp (k + 1) x = loopK Z81 Z78 0 ZcA k x := by kernel_rfl
theorem Zzi (k : Nat) : LOK Tryz.prog Z81 k ZcA := LOK.by [] (by kernel_rfl) AllOK.nil
theorem ZAS (x : ZfW.D) : Z78.lp 0 x = none := by kernel_rfl
theorem Zyj (k : Nat) : EOK Tryz.prog Z81 k Z78.E (.block 0 (.loop ZcA)) := Zb T_ok Zto ZAS ZAH Zzi k
theorem ZF9 (k : Nat) (x : Tup Z6m.ps) : Z6m.f (k + 1) x = fnK Z6m Z81 Zfk k x := by kernel_rfl
theorem ZEw (x : Tup Z6m.ps) : Z6m.f 0 x = none := by kernel_rfl
theorem ZEG (k : Nat) : LOK Tryz.prog Z81 k Zfk := LOK.by [(Z78.E, .block 0 (.loop ZcA))] (by kernel_rfl) (AllOK.cons (Zyj k) AllOK.nil)
theorem ZEm (k : Nat) : SoundAt Tryz.prog k 106 Z6m.E := @Z3 Tryz.prog Z6m Z81 106 Tryz.f106 Zfk (by kernel_rfl) (by kernel_rfl) (by kernel_rfl) Tryz.func106 (by kernel_rfl) (by kernel_rfl) (by kernel_rfl) T_ok Zto ZEG ZEw ZF9 k
noncomputable def Z8e : List PK := [PK.mk (Ty.int .i64) false none false none]
noncomputable def Zk2 : List PK := [PK.mk (Ty.pair (Ty.slice (5 : Nat) (Ty.int .u8)) (Ty.pair (Ty.int .i64) (Ty.int .u64))) false none false (some (82 : Nat))]
noncomputable def Zjg (r : Int × Int × Int) : Tup Z8e × OutD := ((r.1, ()), some ⟨Ty.pair (Ty.slice (5 : Nat) (Ty.int .u8)) (Ty.pair (Ty.int .i64) (Ty.int .u64)), [([], r.2)]⟩)
noncomputable def Ze6 : Tup Z8e × OutD → Option (Int × Int × Int)
 | (a, some ⟨u, ys⟩) => if h : u = Ty.pair (Ty.slice (5 : Nat) (Ty.int .u8)) (Ty.pair (Ty.int .i64) (Ty.int .u64)) then (match castU h ys with
  | [([], y)] => some (a.1, y)
  | _ => none) else none
 | _ => none
theorem Zrf : ∀ b r, Ze6 b = some r → Zjg r = b := by
 rintro ⟨a, o⟩ r h
 cases o with
 | none => cases h
 | some s =>
  obtain ⟨u, ys⟩ := s
  simp only [Ze6] at h
  split at h
  ·rename_i hu
   subst hu
   match ys, h with
   | [], h => cases (show (none : Option _) = some r from h)
   | [([], y)], h => injection (show some _ = some r from h) with h; subst h; rfl
   | [(_ :: _, y)], h => cases (show (none : Option _) = some r from h)
   | (h1, _) :: _ :: _, h => cases h1 <;> cases (show (none : Option _) = some r from h)
  ·cases h
noncomputable def Z6g : Nat → List Int × Int × Int → Option (Int × Int × Int)
 | 0, _ => none
 | k + 1, p0 =>
  if decide (Prod.fst p0.2 < (↑(List.length p0.1) : Int)) = true then if (0 : Int) ≤ Prod.fst p0.2 then if Prod.fst p0.2 < (↑(List.length p0.1) : Int) then if decide (wrap64 (Prod.fst p0.2 + (1 : Int)) ≤ (↑(List.length p0.1) : Int)) = true then some (wrap64 (List.getD p0.1 (Int.toNat p0.2.1) (0 : Int)), wrap64 (Prod.fst p0.2 + (1 : Int)), IntKind.wrap IntKind.u64 (IntKind.wrap IntKind.u64 (IntKind.wrap IntKind.u64 (Prod.snd p0.2 * (6364136223846793005 : Int)) + IntKind.wrap IntKind.u64 (wrap64 (List.getD p0.1 (Int.toNat p0.2.1) (0 : Int)))) + (1442695040888963407 : Int))) else some (wrap64 (bits BinOp.and IntKind.u64 (Int.fdiv (IntKind.wrap IntKind.u64 (IntKind.wrap IntKind.u64 (IntKind.wrap IntKind.u64 (Prod.snd p0.2 * (6364136223846793005 : Int)) + IntKind.wrap IntKind.u64 (wrap64 (List.getD p0.1 (Int.toNat p0.2.1) (0 : Int)))) + (1442695040888963407 : Int))) ((2 : Int) ^ min (Int.toNat (40 : Int)) (IntKind.bits IntKind.u64))) (255 : Int)), wrap64 (Prod.fst p0.2 + (1 : Int)), IntKind.wrap IntKind.u64 (IntKind.wrap IntKind.u64 (IntKind.wrap IntKind.u64 (Prod.snd p0.2 * (6364136223846793005 : Int)) + IntKind.wrap IntKind.u64 (wrap64 (List.getD p0.1 (Int.toNat p0.2.1) (0 : Int)))) + (1442695040888963407 : Int))) else none else none else if decide (wrap64 (Prod.fst p0.2 + (1 : Int)) ≤ (↑(List.length p0.1) : Int)) = true then some ((0 : Int), wrap64 (Prod.fst p0.2 + (1 : Int)), IntKind.wrap IntKind.u64 (IntKind.wrap IntKind.u64 (IntKind.wrap IntKind.u64 (Prod.snd p0.2 * (6364136223846793005 : Int)) + IntKind.wrap IntKind.u64 (0 : Int)) + (1442695040888963407 : Int))) else some (wrap64 (bits BinOp.and IntKind.u64 (Int.fdiv (IntKind.wrap IntKind.u64 (IntKind.wrap IntKind.u64 (IntKind.wrap IntKind.u64 (Prod.snd p0.2 * (6364136223846793005 : Int)) + IntKind.wrap IntKind.u64 (0 : Int)) + (1442695040888963407 : Int))) ((2 : Int) ^ min (Int.toNat (40 : Int)) (IntKind.bits IntKind.u64))) (255 : Int)), wrap64 (Prod.fst p0.2 + (1 : Int)), IntKind.wrap IntKind.u64 (IntKind.wrap IntKind.u64 (IntKind.wrap IntKind.u64 (Prod.snd p0.2 * (6364136223846793005 : Int)) + IntKind.wrap IntKind.u64 (0 : Int)) + (1442695040888963407 : Int)))
noncomputable def Z37 : FnDef := .of Zk2 Z8e (Int × Int × Int) (fun k x => Z6g k x.1) Zjg Ze6 Zrf
noncomputable def ZeW : Code := Tryz.f107.body.getD .skip
noncomputable def Zb5 : Ctx (Tup Z8e × OutD) := { T := T, G := [], mvs := [], no := 2, n := 62, res := resOf T Zk2 Z8e Tryz.f107.results.toList, loops := [], regs := [], conds := [], cuts := [] }
theorem Zxr (k : Nat) : EnvOK Tryz.prog k Zb5.G := (EnvOK.nil mixed)
theorem Zxy (k : Nat) (x : Tup Z37.ps) : Z37.f (k + 1) x = fnK Z37 Zb5 ZeW k x := by kernel_rfl
theorem Zxc (x : Tup Z37.ps) : Z37.f 0 x = none := by kernel_rfl
theorem Zxw (k : Nat) : LOK Tryz.prog Zb5 k ZeW := LOK.by [] (by kernel_rfl) AllOK.nil
theorem Zyb (k : Nat) : SoundAt Tryz.prog k 107 Z37.E := @Z3 Tryz.prog Z37 Zb5 107 Tryz.f107 ZeW (by kernel_rfl) (by kernel_rfl) (by kernel_rfl) Tryz.func107 (by kernel_rfl) (by kernel_rfl) (by kernel_rfl) T_ok Zxr Zxw Zxc Zxy k
noncomputable def Zbf : List PK := [PK.mk (Ty.pair (Ty.int .i64) (Ty.pair (Ty.int .i64) (Ty.slice (122 : Nat) (Ty.pair (Ty.int .i64) (Ty.int .i64))))) true none false none]
noncomputable def Zvq : List PK := [PK.mk (Ty.pair (Ty.int .i64) (Ty.pair (Ty.int .i64) (Ty.slice (122 : Nat) (Ty.pair (Ty.int .i64) (Ty.int .i64))))) true none false none]
noncomputable def Ztu (r : Int × Int × List (Int × Int)) : Tup Zbf × OutD := ((r, ()), none)
noncomputable def Ztz : Tup Zbf × OutD → Option (Int × Int × List (Int × Int))
 | (a, none) => some (a.1)
 | _ => none
theorem ZAT : ∀ b r, Ztz b = some r → Ztu r = b := by
 rintro ⟨a, o⟩ r h
 cases o with
 | none => injection h with h; subst h; rfl
 | some _ => cases h
noncomputable def Z7I : Nat → Int → Int → List (Int × Int) → Int → Int → List (Int × Int) → Option (Int × Int × List (Int × Int)) := fun k b1_0 b1_1 b1_2 b2_0 b2_1 o3 =>
    if (0 : Nat) + List.length b1_2 ≤ (140737488355328 / 16 : Nat) then some (b1_0, b1_1, b1_2) else none
noncomputable def Zcf : Nat → Int → Int → List (Int × Int) → Int → Int → List (Int × Int) → Option (List (Int × Int × List (Int × Int))) := fun k b1_0 b1_1 b1_2 b2_0 b2_1 o3 =>
    joinL (joinL (if (0 : Nat) + List.length b1_2 ≤ (140737488355328 / 16 : Nat) then some [(b1_0, b1_1, b1_2)] else none) (joinL (if (0 : Nat) + List.length b1_2 ≤ (140737488355328 / 16 : Nat) then some [(b1_0, b1_1, b1_2)] else none) (if (0 : Nat) + List.length b1_2 ≤ (140737488355328 / 16 : Nat) then some [(b1_0, b1_1, b1_2)] else none))) (joinL (joinL (if (0 : Nat) + List.length b1_2 ≤ (140737488355328 / 16 : Nat) then some [(b1_0, b1_1, b1_2)] else none) (joinL (if (0 : Nat) + List.length b1_2 ≤ (140737488355328 / 16 : Nat) then some [(b1_0, b1_1, b1_2)] else none) (if (0 : Nat) + List.length b1_2 ≤ (140737488355328 / 16 : Nat) then some [(b1_0, b1_1, b1_2)] else none))) (joinL (joinL (if (0 : Nat) + List.length b1_2 ≤ (140737488355328 / 16 : Nat) then some [(b1_0, b1_1, b1_2)] else none) (if (0 : Nat) + List.length b1_2 ≤ (140737488355328 / 16 : Nat) then some [(b1_0, b1_1, b1_2)] else none)) (joinL (joinL (if (0 : Nat) + List.length b1_2 ≤ (140737488355328 / 16 : Nat) then some [(b1_0, b1_1, b1_2)] else none) (if (0 : Nat) + List.length b1_2 ≤ (140737488355328 / 16 : Nat) then some [(b1_0, b1_1, b1_2)] else none)) (if (0 : Nat) + List.length b1_2 ≤ (140737488355328 / 16 : Nat) then joinL (some [(b1_0, b1_1, b1_2)]) (some [(b1_0, b1_1, b1_2)]) else none))))
noncomputable def ZmL : Spec := Spec.mk [OSh.ro, OSh.box (26 : Nat) [Sh.int .i64, Sh.int .i64, Sh.snap (0 : Nat) (Ty.pair (Ty.int .i64) (Ty.int .i64))], OSh.box (26 : Nat) [Sh.int .i64, Sh.int .i64, Sh.sl (3 : Nat)], OSh.row true (122 : Nat) (Ty.pair (Ty.int .i64) (Ty.int .i64))] [((1 : Nat), TSh.at (Sh.ptr (1 : Nat) (0 : Nat))), ((2 : Nat), TSh.at (Sh.ptr (2 : Nat) (0 : Nat)))]
noncomputable def ZB7 : Spec := Spec.mk [OSh.ro, OSh.box (26 : Nat) [Sh.int .i64, Sh.int .i64, Sh.sl (2 : Nat)], OSh.row true (122 : Nat) (Ty.pair (Ty.int .i64) (Ty.int .i64))] [((2 : Nat), TSh.at (Sh.ptr (1 : Nat) (0 : Nat)))]
noncomputable def Z6O : LoopDef (Tup Zbf × OutD) := .plain ZmL ZB7 (Int × Int × List (Int × Int)) (fun k x => Z7I k x.1.2.1.1 x.1.2.1.2.1 x.1.2.1.2.2.1 x.1.2.2.1.1 x.1.2.2.1.2.1 x.1.2.2.2.1) (fun z => (((), (z.1, z.2.1, (), ()), z.2.2, ()), ((), ()))) (fun y => (y.1.2.1.1, y.1.2.1.2.1, y.1.2.2.1)) (fun _ => rfl)
theorem ZB6 (k : Nat) (b1_0 : Int) (b1_1 : Int) (b1_2 : List (Int × Int)) (b2_0 : Int) (b2_1 : Int) (o3 : List (Int × Int)) : Zcf k b1_0 b1_1 b1_2 b2_0 b2_1 o3 = repl 12 (Z7I k b1_0 b1_1 b1_2 b2_0 b2_1 o3) := by
 first
 | (simp only [Zcf, Z7I, Zd, Zi, Zf, Zg, Ze, Z4, if_true]; done)
 | (simp only [Zcf, Z7I, Zd, Zi, Zf, Zg, Ze, Z4, if_true]; simp only [Z1n, Z1o, Z2J, Z4]; simp only [Z44]; exact Z22 ⟨fun h => by simp only [h, and_self], fun h => by simp only [h, and_self]⟩)
noncomputable def Z3y : Nat → Int × Int × List (Int × Int) → Option (Int × Int × List (Int × Int))
 | 0, _ => none
 | k + 1, p0 =>
  Option.bind (Z7I k p0.1 p0.2.1 p0.2.2 (0 : Int) (0 : Int) []) fun z0 => some (Prod.fst z0, Prod.fst z0.2, Prod.snd z0.2)
noncomputable def Z3A : FnDef := .of Zvq Zbf (Int × Int × List (Int × Int)) (fun k x => Z3y k x.1) Ztu Ztz ZAT
noncomputable def Zhv : Code := Tryz.f111.body.getD .skip
noncomputable def Z4C : Ctx (Tup Zbf × OutD) := { T := T, G := [], mvs := [], no := 0, n := 12, res := resOf T Zvq Zbf Tryz.f111.results.toList, loops := [], regs := [(1, Z6O.E)], conds := [], cuts := [] }
theorem Zw6 (k : Nat) : EnvOK Tryz.prog k Z4C.G := (EnvOK.nil mixed)
noncomputable def Zge : Array Oper := (findReg 1 Zhv).getD #[]
theorem ZAC (k : Nat) (x : ZmL.D) : execD Z4C.T Z4C.G Z4C.mvs k Zge (Z6O.inp.st Z4C.n x) (outK Z4C Z6O) = Zcf k x.1.2.1.1 x.1.2.1.2.1 x.1.2.1.2.2.1 x.1.2.2.1.1 x.1.2.2.1.2.1 x.1.2.2.2.1 := by kernel_rfl
theorem ZxK (k : Nat) : EOK Tryz.prog Z4C k Z6O.E (.region 1 Zge true) := Z5X (D := Z6O) (m := 12) T_ok (Zw6 k) (fun x => (ZAC k x).trans (ZB6 k x.1.2.1.1 x.1.2.1.2.1 x.1.2.1.2.2.1 x.1.2.2.1.1 x.1.2.2.1.2.1 x.1.2.2.2.1))
theorem ZFU (k : Nat) (x : Tup Z3A.ps) : Z3A.f (k + 1) x = fnK Z3A Z4C Zhv k x := by kernel_rfl
theorem ZFW (x : Tup Z3A.ps) : Z3A.f 0 x = none := by kernel_rfl
theorem ZFT (k : Nat) : LOK Tryz.prog Z4C k Zhv := LOK.by [(Z6O.E, .region 1 Zge true)] (by kernel_rfl) (AllOK.cons (ZxK k) AllOK.nil)
theorem Zhe (k : Nat) : SoundAt Tryz.prog k 111 Z3A.E := @Z3 Tryz.prog Z3A Z4C 111 Tryz.f111 Zhv (by kernel_rfl) (by kernel_rfl) (by kernel_rfl) Tryz.func111 (by kernel_rfl) (by kernel_rfl) (by kernel_rfl) T_ok Zw6 ZFT ZFW ZFU k
noncomputable def Z6V : List PK := [PK.mk (Ty.pair (Ty.int .i64) (Ty.pair (Ty.int .i64) (Ty.slice (122 : Nat) (Ty.pair (Ty.int .i64) (Ty.int .i64))))) true none false none]
noncomputable def ZlK : List PK := [PK.mk (Ty.pair (Ty.int .i64) (Ty.pair (Ty.int .i64) (Ty.slice (122 : Nat) (Ty.pair (Ty.int .i64) (Ty.int .i64))))) true none false none]
noncomputable def Zky (r : Int × Int × List (Int × Int)) : Tup Z6V × OutD := ((r, ()), none)
noncomputable def Zkm : Tup Z6V × OutD → Option (Int × Int × List (Int × Int))
 | (a, none) => some (a.1)
 | _ => none
theorem Zsg : ∀ b r, Zkm b = some r → Zky r = b := by
 rintro ⟨a, o⟩ r h
 cases o with
 | none => injection h with h; subst h; rfl
 | some _ => cases h
noncomputable def Z4t : Nat → Int → Int → List (Int × Int) → Int → Int → List (Int × Int) → Option (Int × Int × List (Int × Int)) := fun k b1_0 b1_1 b1_2 b2_0 b2_1 o3 =>
    if (0 : Nat) + List.length b1_2 ≤ (140737488355328 / 16 : Nat) then some (b1_0, b1_1, b1_2) else none
noncomputable def Z8j : Nat → Int → Int → List (Int × Int) → Int → Int → List (Int × Int) → Option (List (Int × Int × List (Int × Int))) := fun k b1_0 b1_1 b1_2 b2_0 b2_1 o3 =>
    joinL (joinL (if (0 : Nat) + List.length b1_2 ≤ (140737488355328 / 16 : Nat) then some [(b1_0, b1_1, b1_2)] else none) (joinL (if (0 : Nat) + List.length b1_2 ≤ (140737488355328 / 16 : Nat) then some [(b1_0, b1_1, b1_2)] else none) (if (0 : Nat) + List.length b1_2 ≤ (140737488355328 / 16 : Nat) then some [(b1_0, b1_1, b1_2)] else none))) (joinL (joinL (if (0 : Nat) + List.length b1_2 ≤ (140737488355328 / 16 : Nat) then some [(b1_0, b1_1, b1_2)] else none) (joinL (if (0 : Nat) + List.length b1_2 ≤ (140737488355328 / 16 : Nat) then some [(b1_0, b1_1, b1_2)] else none) (if (0 : Nat) + List.length b1_2 ≤ (140737488355328 / 16 : Nat) then some [(b1_0, b1_1, b1_2)] else none))) (joinL (joinL (if (0 : Nat) + List.length b1_2 ≤ (140737488355328 / 16 : Nat) then some [(b1_0, b1_1, b1_2)] else none) (if (0 : Nat) + List.length b1_2 ≤ (140737488355328 / 16 : Nat) then some [(b1_0, b1_1, b1_2)] else none)) (joinL (joinL (if (0 : Nat) + List.length b1_2 ≤ (140737488355328 / 16 : Nat) then some [(b1_0, b1_1, b1_2)] else none) (if (0 : Nat) + List.length b1_2 ≤ (140737488355328 / 16 : Nat) then some [(b1_0, b1_1, b1_2)] else none)) (if (0 : Nat) + List.length b1_2 ≤ (140737488355328 / 16 : Nat) then joinL (some [(b1_0, b1_1, b1_2)]) (some [(b1_0, b1_1, b1_2)]) else none))))
noncomputable def Zhm : Spec := Spec.mk [OSh.ro, OSh.box (26 : Nat) [Sh.int .i64, Sh.int .i64, Sh.snap (0 : Nat) (Ty.pair (Ty.int .i64) (Ty.int .i64))], OSh.box (26 : Nat) [Sh.int .i64, Sh.int .i64, Sh.sl (3 : Nat)], OSh.row true (122 : Nat) (Ty.pair (Ty.int .i64) (Ty.int .i64))] [((1 : Nat), TSh.at (Sh.ptr (1 : Nat) (0 : Nat))), ((2 : Nat), TSh.at (Sh.ptr (2 : Nat) (0 : Nat)))]
noncomputable def ZrO : Spec := Spec.mk [OSh.ro, OSh.box (26 : Nat) [Sh.int .i64, Sh.int .i64, Sh.sl (2 : Nat)], OSh.row true (122 : Nat) (Ty.pair (Ty.int .i64) (Ty.int .i64))] [((2 : Nat), TSh.at (Sh.ptr (1 : Nat) (0 : Nat)))]
noncomputable def Z3X : LoopDef (Tup Z6V × OutD) := .plain Zhm ZrO (Int × Int × List (Int × Int)) (fun k x => Z4t k x.1.2.1.1 x.1.2.1.2.1 x.1.2.1.2.2.1 x.1.2.2.1.1 x.1.2.2.1.2.1 x.1.2.2.2.1) (fun z => (((), (z.1, z.2.1, (), ()), z.2.2, ()), ((), ()))) (fun y => (y.1.2.1.1, y.1.2.1.2.1, y.1.2.2.1)) (fun _ => rfl)
theorem Zs1 (k : Nat) (b1_0 : Int) (b1_1 : Int) (b1_2 : List (Int × Int)) (b2_0 : Int) (b2_1 : Int) (o3 : List (Int × Int)) : Z8j k b1_0 b1_1 b1_2 b2_0 b2_1 o3 = repl 12 (Z4t k b1_0 b1_1 b1_2 b2_0 b2_1 o3) := by
 first
 | (simp only [Z8j, Z4t, Zd, Zi, Zf, Zg, Ze, Z4, if_true]; done)
 | (simp only [Z8j, Z4t, Zd, Zi, Zf, Zg, Ze, Z4, if_true]; simp only [Z1n, Z1o, Z2J, Z4]; simp only [Z44]; exact Z22 ⟨fun h => by simp only [h, and_self], fun h => by simp only [h, and_self]⟩)
noncomputable def Z9r : Nat → Int × Int × List (Int × Int) → Option (Int × Int × List (Int × Int))
 | 0, _ => none
 | k + 1, p0 =>
  Option.bind (Z4t k p0.1 p0.2.1 p0.2.2 (0 : Int) (0 : Int) []) fun z0 => some (Prod.fst z0, Prod.fst z0.2, Prod.snd z0.2)
noncomputable def Z2G : FnDef := .of ZlK Z6V (Int × Int × List (Int × Int)) (fun k x => Z9r k x.1) Zky Zkm Zsg
noncomputable def Zc3 : Code := Tryz.f116.body.getD .skip
noncomputable def Z24 : Ctx (Tup Z6V × OutD) := { T := T, G := [], mvs := [], no := 0, n := 12, res := resOf T ZlK Z6V Tryz.f116.results.toList, loops := [], regs := [(1, Z3X.E)], conds := [], cuts := [] }
theorem ZmX (k : Nat) : EnvOK Tryz.prog k Z24.G := (EnvOK.nil mixed)
noncomputable def ZcD : Array Oper := (findReg 1 Zc3).getD #[]
theorem ZrL (k : Nat) (x : Zhm.D) : execD Z24.T Z24.G Z24.mvs k ZcD (Z3X.inp.st Z24.n x) (outK Z24 Z3X) = Z8j k x.1.2.1.1 x.1.2.1.2.1 x.1.2.1.2.2.1 x.1.2.2.1.1 x.1.2.2.1.2.1 x.1.2.2.2.1 := by kernel_rfl
theorem Zr2 (k : Nat) : EOK Tryz.prog Z24 k Z3X.E (.region 1 ZcD true) := Z5X (D := Z3X) (m := 12) T_ok (ZmX k) (fun x => (ZrL k x).trans (Zs1 k x.1.2.1.1 x.1.2.1.2.1 x.1.2.1.2.2.1 x.1.2.2.1.1 x.1.2.2.1.2.1 x.1.2.2.2.1))
theorem Zzu (k : Nat) (x : Tup Z2G.ps) : Z2G.f (k + 1) x = fnK Z2G Z24 Zc3 k x := by kernel_rfl
theorem ZzS (x : Tup Z2G.ps) : Z2G.f 0 x = none := by kernel_rfl
theorem ZzI (k : Nat) : LOK Tryz.prog Z24 k Zc3 := LOK.by [(Z3X.E, .region 1 ZcD true)] (by kernel_rfl) (AllOK.cons (Zr2 k) AllOK.nil)
theorem ZlV (k : Nat) : SoundAt Tryz.prog k 116 Z2G.E := @Z3 Tryz.prog Z2G Z24 116 Tryz.f116 Zc3 (by kernel_rfl) (by kernel_rfl) (by kernel_rfl) Tryz.func116 (by kernel_rfl) (by kernel_rfl) (by kernel_rfl) T_ok ZmX ZzI ZzS Zzu k
noncomputable def Z4s : List PK := [PK.mk (Ty.slice (3 : Nat) (Ty.int .i64)) false none false none]
noncomputable def Zie : List PK := [PK.mk (Ty.pair (Ty.int .i64) (Ty.pair (Ty.int .i64) (Ty.slice (122 : Nat) (Ty.pair (Ty.int .i64) (Ty.int .i64))))) true none false none, PK.mk (Ty.slice (42 : Nat) (Ty.pair (Ty.int .i64) (Ty.pair (Ty.int .i64) (Ty.int .i64)))) false none false none]
noncomputable def ZgL (r : List Int) : Tup Z4s × OutD := ((r, ()), none)
noncomputable def Zh9 : Tup Z4s × OutD → Option (List Int)
 | (a, none) => some (a.1)
 | _ => none
theorem ZnM : ∀ b r, Zh9 b = some r → ZgL r = b := by
 rintro ⟨a, o⟩ r h
 cases o with
 | none => injection h with h; subst h; rfl
 | some _ => cases h
noncomputable def Z3q : Nat → Int → Int → List (Int × Int) → List Int → List (Int × Int × Int) → Int → Int → Option (List Int)
 | 0, _, _, _, _, _, _, _ => none
 | k + 1, b1_0, b1_1, b1_2, o2, v12, v13, v14 =>
  if decide (v14 < v13) = true then if (0 : Int) ≤ v14 then if v14 < (↑(List.length v12) : Int) then if (0 : Int) ≤ wrap64 (wrap64 (Prod.fst (Prod.snd (List.getD v12 (Int.toNat v14) ((0 : Int), (0 : Int), (0 : Int)))) * b1_1) + Prod.snd (Prod.snd (List.getD v12 (Int.toNat v14) ((0 : Int), (0 : Int), (0 : Int))))) then if wrap64 (wrap64 (Prod.fst (Prod.snd (List.getD v12 (Int.toNat v14) ((0 : Int), (0 : Int), (0 : Int)))) * b1_1) + Prod.snd (Prod.snd (List.getD v12 (Int.toNat v14) ((0 : Int), (0 : Int), (0 : Int))))) < (↑(List.length o2) : Int) then Z3q k b1_0 b1_1 b1_2 (List.set o2 (Int.toNat (wrap64 (wrap64 (Prod.fst (Prod.snd (List.getD v12 (Int.toNat v14) ((0 : Int), (0 : Int), (0 : Int)))) * b1_1) + Prod.snd (Prod.snd (List.getD v12 (Int.toNat v14) ((0 : Int), (0 : Int), (0 : Int))))))) (Prod.fst (List.getD v12 (Int.toNat v14) ((0 : Int), (0 : Int), (0 : Int))))) v12 v13 (wrap64 (v14 + (1 : Int))) else none else none else none else none else some o2
noncomputable def ZaM : Spec := Spec.mk [OSh.ro, OSh.box (26 : Nat) [Sh.int .i64, Sh.int .i64, Sh.snap (0 : Nat) (Ty.pair (Ty.int .i64) (Ty.int .i64))], OSh.row true (3 : Nat) (Ty.int .i64)] [((2 : Nat), TSh.at (Sh.ptr (1 : Nat) (0 : Nat))), ((5 : Nat), TSh.at (Sh.sl (2 : Nat))), ((12 : Nat), TSh.at (Sh.snap (0 : Nat) (Ty.pair (Ty.int .i64) (Ty.pair (Ty.int .i64) (Ty.int .i64))))), ((13 : Nat), TSh.at (Sh.int .i64)), ((14 : Nat), TSh.at (Sh.int .i64))]
noncomputable def ZpY : Spec := Spec.mk [OSh.ro, OSh.row true (3 : Nat) (Ty.int .i64)] [((5 : Nat), TSh.at (Sh.sl (1 : Nat)))]
noncomputable def Z36 : LoopDef (Tup Z4s × OutD) := .plain ZaM ZpY (List Int) (fun k x => Z3q k x.1.2.1.1 x.1.2.1.2.1 x.1.2.1.2.2.1 x.1.2.2.1 x.2.2.2.1 x.2.2.2.2.1 x.2.2.2.2.2.1) (fun z => (((), z, ()), ((), ()))) (fun y => (y.1.2.1)) (fun _ => rfl)
noncomputable def Z9P : Nat → Int × Int × List (Int × Int) → List (Int × Int × Int) → Option (List Int)
 | 0, _, _ => none
 | k + 1, p0, p1 =>
  if Int.toNat (↑(List.length p0.2.2) : Int) * (8 : Nat) ≤ (281474976710656 : Nat) then Option.bind (Z3q k p0.1 p0.2.1 p0.2.2 (List.replicate (Int.toNat (↑(List.length p0.2.2) : Int)) (0 : Int)) p1 (↑(List.length p1) : Int) (0 : Int)) fun z0 => some z0 else none
noncomputable def Z2d : FnDef := .of Zie Z4s (List Int) (fun k x => Z9P k x.1 x.2.1) ZgL Zh9 ZnM
noncomputable def Z9D : Code := Tryz.f118.body.getD .skip
noncomputable def Z3f : Ctx (Tup Z4s × OutD) := { T := T, G := [], mvs := [], no := 0, n := 32, res := resOf T Zie Z4s Tryz.f118.results.toList, loops := [(0, Z36.E)], regs := [], conds := [], cuts := [] }
theorem ZhZ (k : Nat) : EnvOK Tryz.prog k Z3f.G := (EnvOK.nil mixed)
noncomputable def Z7j : Code := (findLoop 0 Z9D).getD .skip
theorem Zp6 (k : Nat) (x : ZaM.D) : Z36.lp (k + 1) x = loopK Z3f Z36 0 Z7j k x := by kernel_rfl
theorem Zpm (k : Nat) : LOK Tryz.prog Z3f k Z7j := LOK.by [] (by kernel_rfl) AllOK.nil
theorem Zp9 (x : ZaM.D) : Z36.lp 0 x = none := by kernel_rfl
theorem Zny (k : Nat) : EOK Tryz.prog Z3f k Z36.E (.block 0 (.loop Z7j)) := Zb T_ok ZhZ Zp9 Zp6 Zpm k
theorem Zud (k : Nat) (x : Tup Z2d.ps) : Z2d.f (k + 1) x = fnK Z2d Z3f Z9D k x := by kernel_rfl
theorem Zu8 (x : Tup Z2d.ps) : Z2d.f 0 x = none := by kernel_rfl
theorem ZuG (k : Nat) : LOK Tryz.prog Z3f k Z9D := LOK.by [(Z36.E, .block 0 (.loop Z7j))] (by kernel_rfl) (AllOK.cons (Zny k) AllOK.nil)
theorem ZuB (k : Nat) : SoundAt Tryz.prog k 118 Z2d.E := @Z3 Tryz.prog Z2d Z3f 118 Tryz.f118 Z9D (by kernel_rfl) (by kernel_rfl) (by kernel_rfl) Tryz.func118 (by kernel_rfl) (by kernel_rfl) (by kernel_rfl) T_ok ZhZ ZuG Zu8 Zud k
noncomputable def Z9f : List PK := [PK.mk Ty.bool false none false none]
noncomputable def Zm6 : List PK := [PK.mk (Ty.pair (Ty.int .i64) (Ty.int .i64)) true none false none]
noncomputable def Zke (r : Bool) : Tup Z9f × OutD := ((r, ()), none)
noncomputable def Zkv : Tup Z9f × OutD → Option (Bool)
 | (a, none) => some (a.1)
 | _ => none
theorem Zsh : ∀ b r, Zkv b = some r → Zke r = b := by
 rintro ⟨a, o⟩ r h
 cases o with
 | none => injection h with h; subst h; rfl
 | some _ => cases h
noncomputable def Z4V : Nat → Int × Int → Option Bool
 | 0, _ => none
 | k + 1, p0 =>
  if decide (Prod.fst p0 = (3 : Int)) = true then some true else some (decide (Prod.fst p0 = (6 : Int)))
noncomputable def Z26 : FnDef := .of Zm6 Z9f (Bool) (fun k x => Z4V k x.1) Zke Zkv Zsh
noncomputable def ZfV : Code := Tryz.f128.body.getD .skip
noncomputable def Zc0 : Ctx (Tup Z9f × OutD) := { T := T, G := [], mvs := [], no := 0, n := 11, res := resOf T Zm6 Z9f Tryz.f128.results.toList, loops := [], regs := [], conds := [], cuts := [] }
theorem ZAa (k : Nat) : EnvOK Tryz.prog k Zc0.G := (EnvOK.nil mixed)
theorem ZB2 (k : Nat) (x : Tup Z26.ps) : Z26.f (k + 1) x = fnK Z26 Zc0 ZfV k x := by kernel_rfl
theorem ZAb (x : Tup Z26.ps) : Z26.f 0 x = none := by kernel_rfl
theorem ZAn (k : Nat) : LOK Tryz.prog Zc0 k ZfV := LOK.by [] (by kernel_rfl) AllOK.nil
theorem ZfZ (k : Nat) : SoundAt Tryz.prog k 128 Z26.E := @Z3 Tryz.prog Z26 Zc0 128 Tryz.f128 ZfV (by kernel_rfl) (by kernel_rfl) (by kernel_rfl) Tryz.func128 (by kernel_rfl) (by kernel_rfl) (by kernel_rfl) T_ok ZAa ZAn ZAb ZB2 k
noncomputable def Z1u : List PK := [PK.mk Ty.bool false none false none]
noncomputable def Z9n : List PK := [PK.mk Ty.str false none false none, PK.mk Ty.str false none false none]
noncomputable def Z8L (r : Bool) : Tup Z1u × OutD := ((r, ()), none)
noncomputable def Z8H : Tup Z1u × OutD → Option (Bool)
 | (a, none) => some (a.1)
 | _ => none
theorem ZdO : ∀ b r, Z8H b = some r → Z8L r = b := by
 rintro ⟨a, o⟩ r h
 cases o with
 | none => injection h with h; subst h; rfl
 | some _ => cases h
noncomputable def Z4Y : Nat → ByteArray → ByteArray → Option Bool
 | 0, _, _ => none
 | k + 1, p0, p1 =>
  if decide ((↑(ByteArray.size p0) : Int) ≥ (↑(ByteArray.size p1) : Int)) = true then if (↑(ByteArray.size p1) : Int) ≤ (↑(ByteArray.size p0) : Int) then some (ByteArray.toList (subS p0 (Int.toNat (0 : Int)) (Int.toNat (↑(ByteArray.size p1) : Int))) == ByteArray.toList p1) else none else some false
noncomputable def Zv : FnDef := .of Z9n Z1u (Bool) (fun k x => Z4Y k x.1 x.2.1) Z8L Z8H ZdO
noncomputable def Z4U : Code := Tryz.f129.body.getD .skip
noncomputable def Z2H : Ctx (Tup Z1u × OutD) := { T := T, G := [], mvs := [], no := 0, n := 18, res := resOf T Z9n Z1u Tryz.f129.results.toList, loops := [], regs := [], conds := [], cuts := [] }
theorem ZfG (k : Nat) : EnvOK Tryz.prog k Z2H.G := (EnvOK.nil mixed)
theorem ZfK (k : Nat) (x : Tup Zv.ps) : Zv.f (k + 1) x = fnK Zv Z2H Z4U k x := by kernel_rfl
theorem Zgg (x : Tup Zv.ps) : Zv.f 0 x = none := by kernel_rfl
theorem Zgd (k : Nat) : LOK Tryz.prog Z2H k Z4U := LOK.by [] (by kernel_rfl) AllOK.nil
theorem ZfM (k : Nat) : SoundAt Tryz.prog k 129 Zv.E := @Z3 Tryz.prog Zv Z2H 129 Tryz.f129 Z4U (by kernel_rfl) (by kernel_rfl) (by kernel_rfl) Tryz.func129 (by kernel_rfl) (by kernel_rfl) (by kernel_rfl) T_ok ZfG Zgd Zgg ZfK k
noncomputable def ZcU : List PK := [PK.mk Ty.bool false none false none]
noncomputable def Ztt : List PK := [PK.mk (Ty.pair (Ty.int .i64) (Ty.int .i64)) true none false none]
noncomputable def ZqQ (r : Bool) : Tup ZcU × OutD := ((r, ()), none)
noncomputable def ZqC : Tup ZcU × OutD → Option (Bool)
 | (a, none) => some (a.1)
 | _ => none
theorem Zyf : ∀ b r, ZqC b = some r → ZqQ r = b := by
 rintro ⟨a, o⟩ r h
 cases o with
 | none => injection h with h; subst h; rfl
 | some _ => cases h
noncomputable def Zaa : Nat → Int × Int → Option Bool
 | 0, _ => none
 | k + 1, p0 =>
  if decide (Prod.fst p0 < (0 : Int)) = true then some false else if decide (Prod.fst p0 > (7 : Int)) = true then some false else if decide (Prod.snd p0 < (0 : Int)) = true then some false else if decide (Prod.snd p0 > (1 : Int)) = true then some false else if decide (Prod.snd p0 = (0 : Int)) = true then some true else if decide (Prod.fst p0 = (3 : Int)) = true then some true else some (decide (Prod.fst p0 = (6 : Int)))
noncomputable def Z3O : FnDef := .of Ztt ZcU (Bool) (fun k x => Zaa k x.1) ZqQ ZqC Zyf
noncomputable def ZjS : Code := Tryz.f130.body.getD .skip
noncomputable def Zfl : Ctx (Tup ZcU × OutD) := { T := T, G := [], mvs := [], no := 0, n := 34, res := resOf T Ztt ZcU Tryz.f130.results.toList, loops := [], regs := [], conds := [], cuts := [] }
theorem ZEo (k : Nat) : EnvOK Tryz.prog k Zfl.G := (EnvOK.nil mixed)
theorem ZFb (k : Nat) (x : Tup Z3O.ps) : Z3O.f (k + 1) x = fnK Z3O Zfl ZjS k x := by kernel_rfl
theorem ZF8 (x : Tup Z3O.ps) : Z3O.f 0 x = none := by kernel_rfl
theorem ZFf (k : Nat) : LOK Tryz.prog Zfl k ZjS := LOK.by [] (by kernel_rfl) AllOK.nil
theorem ZjR (k : Nat) : SoundAt Tryz.prog k 130 Z3O.E := @Z3 Tryz.prog Z3O Zfl 130 Tryz.f130 ZjS (by kernel_rfl) (by kernel_rfl) (by kernel_rfl) Tryz.func130 (by kernel_rfl) (by kernel_rfl) (by kernel_rfl) T_ok ZEo ZFf ZF8 ZFb k
noncomputable def ZcV : List PK := [PK.mk Ty.bool false none false none]
noncomputable def ZtE : List PK := [PK.mk (Ty.pair (Ty.int .i64) (Ty.int .i64)) true none false none]
noncomputable def Zql (r : Bool) : Tup ZcV × OutD := ((r, ()), none)
noncomputable def Zqg : Tup ZcV × OutD → Option (Bool)
 | (a, none) => some (a.1)
 | _ => none
theorem Zya : ∀ b r, Zqg b = some r → Zql r = b := by
 rintro ⟨a, o⟩ r h
 cases o with
 | none => injection h with h; subst h; rfl
 | some _ => cases h
noncomputable def ZcK : Nat → Int × Int → Option Bool
 | 0, _ => none
 | k + 1, p0 =>
  if decide (Prod.fst p0 = (6 : Int)) = true then some true else some (decide (Prod.fst p0 = (7 : Int)))
noncomputable def Z6l : FnDef := .of ZtE ZcV (Bool) (fun k x => ZcK k x.1) Zql Zqg Zya
noncomputable def Zjv : Code := Tryz.f131.body.getD .skip
noncomputable def Zfm : Ctx (Tup ZcV × OutD) := { T := T, G := [], mvs := [], no := 0, n := 11, res := resOf T ZtE ZcV Tryz.f131.results.toList, loops := [], regs := [], conds := [], cuts := [] }
theorem ZEO (k : Nat) : EnvOK Tryz.prog k Zfm.G := (EnvOK.nil mixed)
theorem ZEL (k : Nat) (x : Tup Z6l.ps) : Z6l.f (k + 1) x = fnK Z6l Zfm Zjv k x := by kernel_rfl
theorem ZE6 (x : Tup Z6l.ps) : Z6l.f 0 x = none := by kernel_rfl
theorem ZFc (k : Nat) : LOK Tryz.prog Zfm k Zjv := LOK.by [] (by kernel_rfl) AllOK.nil
theorem ZFe (k : Nat) : SoundAt Tryz.prog k 131 Z6l.E := @Z3 Tryz.prog Z6l Zfm 131 Tryz.f131 Zjv (by kernel_rfl) (by kernel_rfl) (by kernel_rfl) Tryz.func131 (by kernel_rfl) (by kernel_rfl) (by kernel_rfl) T_ok ZEO ZFc ZE6 ZEL k
noncomputable def ZcQ : List PK := [PK.mk (Ty.slice (3 : Nat) (Ty.int .i64)) false none false none]
noncomputable def Ztq : List PK := [PK.mk (Ty.pair (Ty.int .i64) (Ty.pair (Ty.int .i64) (Ty.slice (122 : Nat) (Ty.pair (Ty.int .i64) (Ty.int .i64))))) true none false none, PK.mk (Ty.int .i64) false none false none]
noncomputable def Zri (r : List Int) : Tup ZcQ × OutD := ((r, ()), none)
noncomputable def Zqj : Tup ZcQ × OutD → Option (List Int)
 | (a, none) => some (a.1)
 | _ => none
theorem Zy4 : ∀ b r, Zqj b = some r → Zri r = b := by
 rintro ⟨a, o⟩ r h
 cases o with
 | none => injection h with h; subst h; rfl
 | some _ => cases h
noncomputable def ZfA : Nat → Int × Int × List (Int × Int) → Int → Option (List Int)
 | 0, _, _ => none
 | k + 1, p0, p1 =>
  if Prod.fst p0.2 = (0 : Int) then none else if Prod.fst p0.2 = (0 : Int) then none else if decide (wrap64 (Int.tdiv p1 p0.2.1) > (0 : Int)) = true then if decide (Int.tmod p1 p0.2.1 > (0 : Int)) = true then if decide (wrap64 (Int.tmod p1 p0.2.1 + (1 : Int)) < Prod.fst p0.2) = true then if decide (wrap64 (wrap64 (Int.tdiv p1 p0.2.1) + (1 : Int)) < Prod.fst p0) = true then some ([wrap64 (p1 - Prod.fst p0.2)] ++ [wrap64 (p1 - (1 : Int))] ++ [wrap64 (p1 + (1 : Int))] ++ [wrap64 (p1 + Prod.fst p0.2)]) else some ([wrap64 (p1 - Prod.fst p0.2)] ++ [wrap64 (p1 - (1 : Int))] ++ [wrap64 (p1 + (1 : Int))]) else if decide (wrap64 (wrap64 (Int.tdiv p1 p0.2.1) + (1 : Int)) < Prod.fst p0) = true then some ([wrap64 (p1 - Prod.fst p0.2)] ++ [wrap64 (p1 - (1 : Int))] ++ [wrap64 (p1 + Prod.fst p0.2)]) else some ([wrap64 (p1 - Prod.fst p0.2)] ++ [wrap64 (p1 - (1 : Int))]) else if decide (wrap64 (Int.tmod p1 p0.2.1 + (1 : Int)) < Prod.fst p0.2) = true then if decide (wrap64 (wrap64 (Int.tdiv p1 p0.2.1) + (1 : Int)) < Prod.fst p0) = true then some ([wrap64 (p1 - Prod.fst p0.2)] ++ [wrap64 (p1 + (1 : Int))] ++ [wrap64 (p1 + Prod.fst p0.2)]) else some ([wrap64 (p1 - Prod.fst p0.2)] ++ [wrap64 (p1 + (1 : Int))]) else if decide (wrap64 (wrap64 (Int.tdiv p1 p0.2.1) + (1 : Int)) < Prod.fst p0) = true then some ([wrap64 (p1 - Prod.fst p0.2)] ++ [wrap64 (p1 + Prod.fst p0.2)]) else some [wrap64 (p1 - Prod.fst p0.2)] else if decide (Int.tmod p1 p0.2.1 > (0 : Int)) = true then if decide (wrap64 (Int.tmod p1 p0.2.1 + (1 : Int)) < Prod.fst p0.2) = true then if decide (wrap64 (wrap64 (Int.tdiv p1 p0.2.1) + (1 : Int)) < Prod.fst p0) = true then some ([wrap64 (p1 - (1 : Int))] ++ [wrap64 (p1 + (1 : Int))] ++ [wrap64 (p1 + Prod.fst p0.2)]) else some ([wrap64 (p1 - (1 : Int))] ++ [wrap64 (p1 + (1 : Int))]) else if decide (wrap64 (wrap64 (Int.tdiv p1 p0.2.1) + (1 : Int)) < Prod.fst p0) = true then some ([wrap64 (p1 - (1 : Int))] ++ [wrap64 (p1 + Prod.fst p0.2)]) else some [wrap64 (p1 - (1 : Int))] else if decide (wrap64 (Int.tmod p1 p0.2.1 + (1 : Int)) < Prod.fst p0.2) = true then if decide (wrap64 (wrap64 (Int.tdiv p1 p0.2.1) + (1 : Int)) < Prod.fst p0) = true then some ([wrap64 (p1 + (1 : Int))] ++ [wrap64 (p1 + Prod.fst p0.2)]) else some [wrap64 (p1 + (1 : Int))] else if decide (wrap64 (wrap64 (Int.tdiv p1 p0.2.1) + (1 : Int)) < Prod.fst p0) = true then some [wrap64 (p1 + Prod.fst p0.2)] else some []
noncomputable def Z6q : FnDef := .of Ztq ZcQ (List Int) (fun k x => ZfA k x.1 x.2.1) Zri Zqj Zy4
noncomputable def ZjL : Code := Tryz.f132.body.getD .skip
noncomputable def Zfv : Ctx (Tup ZcQ × OutD) := { T := T, G := [], mvs := [], no := 0, n := 55, res := resOf T Ztq ZcQ Tryz.f132.results.toList, loops := [], regs := [], conds := [], cuts := [] }
theorem ZEF (k : Nat) : EnvOK Tryz.prog k Zfv.G := (EnvOK.nil mixed)
theorem ZEb (k : Nat) (x : Tup Z6q.ps) : Z6q.f (k + 1) x = fnK Z6q Zfv ZjL k x := by kernel_rfl
theorem ZEE (x : Tup Z6q.ps) : Z6q.f 0 x = none := by kernel_rfl
theorem ZER (k : Nat) : LOK Tryz.prog Zfv k ZjL := LOK.by [] (by kernel_rfl) AllOK.nil
theorem ZES (k : Nat) : SoundAt Tryz.prog k 132 Z6q.E := @Z3 Tryz.prog Z6q Zfv 132 Tryz.f132 ZjL (by kernel_rfl) (by kernel_rfl) (by kernel_rfl) Tryz.func132 (by kernel_rfl) (by kernel_rfl) (by kernel_rfl) T_ok ZEF ZER ZEE ZEb k
noncomputable def ZcM : List PK := [PK.mk (Ty.int .i64) false none false none]
noncomputable def ZtU : List PK := [PK.mk (Ty.pair (Ty.int .i64) (Ty.int .i64)) true none false none, PK.mk (Ty.int .i64) false none false none]
noncomputable def Zqp (r : Int) : Tup ZcM × OutD := ((r, ()), none)
noncomputable def Zr7 : Tup ZcM × OutD → Option (Int)
 | (a, none) => some (a.1)
 | _ => none
theorem ZxA : ∀ b r, Zr7 b = some r → Zqp r = b := by
 rintro ⟨a, o⟩ r h
 cases o with
 | none => injection h with h; subst h; rfl
 | some _ => cases h
noncomputable def Zae : Nat → Int × Int → Int → Option Int
 | 0, _, _ => none
 | k + 1, p0, p1 =>
  if decide (Prod.fst p0 = (1 : Int)) = true then some (-1 : Int) else if decide (Prod.fst p0 = (2 : Int)) = true then some (1 : Int) else if decide (Prod.fst p0 = (3 : Int)) = true then some (wrap64 (wrap64 ((2 : Int) * Prod.snd p0) - (1 : Int))) else if decide (Prod.fst p0 = (6 : Int)) = true then some (wrap64 (wrap64 ((2 : Int) * Prod.snd p0) - (1 : Int))) else if decide (Prod.fst p0 = (4 : Int)) = true then some (wrap64 ((0 : Int) - p1)) else some (0 : Int)
noncomputable def Z4M : FnDef := .of ZtU ZcM (Int) (fun k x => Zae k x.1 x.2.1) Zqp Zr7 ZxA
noncomputable def ZjA : Code := Tryz.f133.body.getD .skip
noncomputable def Zfx : Ctx (Tup ZcM × OutD) := { T := T, G := [], mvs := [], no := 0, n := 22, res := resOf T ZtU ZcM Tryz.f133.results.toList, loops := [], regs := [], conds := [], cuts := [] }
theorem ZEk (k : Nat) : EnvOK Tryz.prog k Zfx.G := (EnvOK.nil mixed)
theorem ZE4 (k : Nat) (x : Tup Z4M.ps) : Z4M.f (k + 1) x = fnK Z4M Zfx ZjA k x := by kernel_rfl
theorem ZEe (x : Tup Z4M.ps) : Z4M.f 0 x = none := by kernel_rfl
theorem ZEY (k : Nat) : LOK Tryz.prog Zfx k ZjA := LOK.by [] (by kernel_rfl) AllOK.nil
theorem ZtO (k : Nat) : SoundAt Tryz.prog k 133 Z4M.E := @Z3 Tryz.prog Z4M Zfx 133 Tryz.f133 ZjA (by kernel_rfl) (by kernel_rfl) (by kernel_rfl) Tryz.func133 (by kernel_rfl) (by kernel_rfl) (by kernel_rfl) T_ok ZEk ZEY ZEe ZE4 k
noncomputable def Zd0 : List PK := [PK.mk (Ty.int .i64) false none false none]
noncomputable def ZyF : List PK := [PK.mk (Ty.slice (42 : Nat) (Ty.pair (Ty.int .i64) (Ty.pair (Ty.int .i64) (Ty.int .i64)))) false none false none, PK.mk (Ty.int .i64) false none false none, PK.mk (Ty.int .i64) false none false none]
noncomputable def Zln (r : Int) : Tup Zd0 × OutD := ((r, ()), none)
noncomputable def Znh : Tup Zd0 × OutD → Option (Int)
 | (a, none) => some (a.1)
 | _ => none
theorem ZoK : ∀ b r, Znh b = some r → Zln r = b := by
 rintro ⟨a, o⟩ r h
 cases o with
 | none => injection h with h; subst h; rfl
 | some _ => cases h
noncomputable def Z6n : Nat → Int → Int → List (Int × Int × Int) → Int → Int → Option (LR Unit Int)
 | 0, _, _, _, _, _ => none
 | k + 1, v1, v2, v9, v10, v11 =>
  if decide (v11 < v10) = true then if (0 : Int) ≤ v11 then if v11 < (↑(List.length v9) : Int) then if decide (Prod.fst (Prod.snd (List.getD v9 (Int.toNat v11) ((0 : Int), (0 : Int), (0 : Int)))) = v1) = true then if decide (Prod.snd (Prod.snd (List.getD v9 (Int.toNat v11) ((0 : Int), (0 : Int), (0 : Int)))) = v2) = true then some (LR.ret (Prod.fst (List.getD v9 (Int.toNat v11) ((0 : Int), (0 : Int), (0 : Int))))) else Z6n k v1 v2 v9 v10 (wrap64 (v11 + (1 : Int))) else Z6n k v1 v2 v9 v10 (wrap64 (v11 + (1 : Int))) else none else none else some (LR.go ())
noncomputable def ZiC : Spec := Spec.mk [OSh.ro] [((1 : Nat), TSh.at (Sh.int .i64)), ((2 : Nat), TSh.at (Sh.int .i64)), ((9 : Nat), TSh.at (Sh.snap (0 : Nat) (Ty.pair (Ty.int .i64) (Ty.pair (Ty.int .i64) (Ty.int .i64))))), ((10 : Nat), TSh.at (Sh.int .i64)), ((11 : Nat), TSh.at (Sh.int .i64))]
noncomputable def ZDh : Spec := Spec.mk [OSh.ro] []
noncomputable def Z8W : LoopDef (Tup Zd0 × OutD) := .rets ZiC ZDh (Unit) (Int) (fun k x => Z6n k x.2.1 x.2.2.1 x.2.2.2.1 x.2.2.2.2.1 x.2.2.2.2.2.1) (fun z => (((), ()), (()))) (fun y => ()) (fun _ => rfl) Zln Znh ZoK
noncomputable def ZiQ : Nat → List (Int × Int × Int) → Int → Int → Option Int
 | 0, _, _, _ => none
 | k + 1, p0, p1, p2 =>
  Option.bind (Z6n k p1 p2 p0 (↑(List.length p0) : Int) (0 : Int)) fun z0 => LR.on z0 (fun y0 => some (0 : Int)) fun r0 => some r0
noncomputable def Z8K : FnDef := .of ZyF Zd0 (Int) (fun k x => ZiQ k x.1 x.2.1 x.2.2.1) Zln Znh ZoK
noncomputable def ZiX : Code := Tryz.f135.body.getD .skip
noncomputable def ZaJ : Ctx (Tup Zd0 × OutD) := { T := T, G := [], mvs := [], no := 0, n := 28, res := resOf T ZyF Zd0 Tryz.f135.results.toList, loops := [(0, Z8W.E)], regs := [], conds := [], cuts := [] }
theorem Zyo (k : Nat) : EnvOK Tryz.prog k ZaJ.G := (EnvOK.nil mixed)
noncomputable def Zee : Code := (findLoop 0 ZiX).getD .skip
theorem ZDx (k : Nat) (x : ZiC.D) : Z8W.lp (k + 1) x = loopK ZaJ Z8W 0 Zee k x := by kernel_rfl
theorem ZDI (k : Nat) : LOK Tryz.prog ZaJ k Zee := LOK.by [] (by kernel_rfl) AllOK.nil
theorem ZCH (x : ZiC.D) : Z8W.lp 0 x = none := by kernel_rfl
theorem ZBS (k : Nat) : EOK Tryz.prog ZaJ k Z8W.E (.block 0 (.loop Zee)) := Zb T_ok Zyo ZCH ZDx ZDI k
theorem ZGu (k : Nat) (x : Tup Z8K.ps) : Z8K.f (k + 1) x = fnK Z8K ZaJ ZiX k x := by kernel_rfl
theorem ZGB (x : Tup Z8K.ps) : Z8K.f 0 x = none := by kernel_rfl
theorem ZGe (k : Nat) : LOK Tryz.prog ZaJ k ZiX := LOK.by [(Z8W.E, .block 0 (.loop Zee))] (by kernel_rfl) (AllOK.cons (ZBS k) AllOK.nil)
theorem ZGg (k : Nat) : SoundAt Tryz.prog k 135 Z8K.E := @Z3 Tryz.prog Z8K ZaJ 135 Tryz.f135 ZiX (by kernel_rfl) (by kernel_rfl) (by kernel_rfl) Tryz.func135 (by kernel_rfl) (by kernel_rfl) (by kernel_rfl) T_ok Zyo ZGe ZGB ZGu k
noncomputable def Zaq : List PK := [PK.mk Ty.bool false none false none]
noncomputable def Zoo : List PK := [PK.mk (Ty.pair (Ty.int .i64) (Ty.int .i64)) true none false none]
noncomputable def Zms (r : Bool) : Tup Zaq × OutD := ((r, ()), none)
noncomputable def Zmh : Tup Zaq × OutD → Option (Bool)
 | (a, none) => some (a.1)
 | _ => none
theorem Zv1 : ∀ b r, Zmh b = some r → Zms r = b := by
 rintro ⟨a, o⟩ r h
 cases o with
 | none => injection h with h; subst h; rfl
 | some _ => cases h
noncomputable def Zar : Nat → Int × Int → Option Bool
 | 0, _ => none
 | k + 1, p0 =>
  if decide (Prod.fst p0 = (6 : Int)) = true then some true else some (decide (Prod.fst p0 = (7 : Int)))
noncomputable def Z4f : FnDef := .of Zoo Zaq (Bool) (fun k x => Zar k x.1) Zms Zmh Zv1
noncomputable def Zhk : Code := Tryz.f136.body.getD .skip
noncomputable def Zdf : Ctx (Tup Zaq × OutD) := { T := T, G := [], mvs := [], no := 0, n := 11, res := resOf T Zoo Zaq Tryz.f136.results.toList, loops := [], regs := [], conds := [], cuts := [] }
theorem ZBO (k : Nat) : EnvOK Tryz.prog k Zdf.G := (EnvOK.nil mixed)
theorem ZCl (k : Nat) (x : Tup Z4f.ps) : Z4f.f (k + 1) x = fnK Z4f Zdf Zhk k x := by kernel_rfl
theorem ZCf (x : Tup Z4f.ps) : Z4f.f 0 x = none := by kernel_rfl
theorem ZCB (k : Nat) : LOK Tryz.prog Zdf k Zhk := LOK.by [] (by kernel_rfl) AllOK.nil
theorem ZCd (k : Nat) : SoundAt Tryz.prog k 136 Z4f.E := @Z3 Tryz.prog Z4f Zdf 136 Tryz.f136 Zhk (by kernel_rfl) (by kernel_rfl) (by kernel_rfl) Tryz.func136 (by kernel_rfl) (by kernel_rfl) (by kernel_rfl) T_ok ZBO ZCB ZCf ZCl k
noncomputable def Zat : List PK := [PK.mk (Ty.slice (3 : Nat) (Ty.int .i64)) false none false none]
noncomputable def ZoG : List PK := [PK.mk (Ty.pair (Ty.int .i64) (Ty.pair (Ty.int .i64) (Ty.slice (122 : Nat) (Ty.pair (Ty.int .i64) (Ty.int .i64))))) true none false none, PK.mk (Ty.int .i64) false none false none]
noncomputable def ZlP (r : List Int) : Tup Zat × OutD := ((r, ()), none)
noncomputable def ZmN : Tup Zat × OutD → Option (List Int)
 | (a, none) => some (a.1)
 | _ => none
theorem Zvh : ∀ b r, ZmN b = some r → ZlP r = b := by
 rintro ⟨a, o⟩ r h
 cases o with
 | none => injection h with h; subst h; rfl
 | some _ => cases h
noncomputable def Zdk : Nat → Int × Int × List (Int × Int) → Int → Option (List Int)
 | 0, _, _ => none
 | k + 1, p0, p1 =>
  if Prod.fst p0.2 = (0 : Int) then none else if Prod.fst p0.2 = (0 : Int) then none else if decide (wrap64 (Int.tdiv p1 p0.2.1) > (0 : Int)) = true then if decide (Int.tmod p1 p0.2.1 > (0 : Int)) = true then if decide (wrap64 (Int.tmod p1 p0.2.1 + (1 : Int)) < Prod.fst p0.2) = true then if decide (wrap64 (wrap64 (Int.tdiv p1 p0.2.1) + (1 : Int)) < Prod.fst p0) = true then some ([wrap64 (p1 - Prod.fst p0.2)] ++ [wrap64 (p1 - (1 : Int))] ++ [wrap64 (p1 + (1 : Int))] ++ [wrap64 (p1 + Prod.fst p0.2)]) else some ([wrap64 (p1 - Prod.fst p0.2)] ++ [wrap64 (p1 - (1 : Int))] ++ [wrap64 (p1 + (1 : Int))]) else if decide (wrap64 (wrap64 (Int.tdiv p1 p0.2.1) + (1 : Int)) < Prod.fst p0) = true then some ([wrap64 (p1 - Prod.fst p0.2)] ++ [wrap64 (p1 - (1 : Int))] ++ [wrap64 (p1 + Prod.fst p0.2)]) else some ([wrap64 (p1 - Prod.fst p0.2)] ++ [wrap64 (p1 - (1 : Int))]) else if decide (wrap64 (Int.tmod p1 p0.2.1 + (1 : Int)) < Prod.fst p0.2) = true then if decide (wrap64 (wrap64 (Int.tdiv p1 p0.2.1) + (1 : Int)) < Prod.fst p0) = true then some ([wrap64 (p1 - Prod.fst p0.2)] ++ [wrap64 (p1 + (1 : Int))] ++ [wrap64 (p1 + Prod.fst p0.2)]) else some ([wrap64 (p1 - Prod.fst p0.2)] ++ [wrap64 (p1 + (1 : Int))]) else if decide (wrap64 (wrap64 (Int.tdiv p1 p0.2.1) + (1 : Int)) < Prod.fst p0) = true then some ([wrap64 (p1 - Prod.fst p0.2)] ++ [wrap64 (p1 + Prod.fst p0.2)]) else some [wrap64 (p1 - Prod.fst p0.2)] else if decide (Int.tmod p1 p0.2.1 > (0 : Int)) = true then if decide (wrap64 (Int.tmod p1 p0.2.1 + (1 : Int)) < Prod.fst p0.2) = true then if decide (wrap64 (wrap64 (Int.tdiv p1 p0.2.1) + (1 : Int)) < Prod.fst p0) = true then some ([wrap64 (p1 - (1 : Int))] ++ [wrap64 (p1 + (1 : Int))] ++ [wrap64 (p1 + Prod.fst p0.2)]) else some ([wrap64 (p1 - (1 : Int))] ++ [wrap64 (p1 + (1 : Int))]) else if decide (wrap64 (wrap64 (Int.tdiv p1 p0.2.1) + (1 : Int)) < Prod.fst p0) = true then some ([wrap64 (p1 - (1 : Int))] ++ [wrap64 (p1 + Prod.fst p0.2)]) else some [wrap64 (p1 - (1 : Int))] else if decide (wrap64 (Int.tmod p1 p0.2.1 + (1 : Int)) < Prod.fst p0.2) = true then if decide (wrap64 (wrap64 (Int.tdiv p1 p0.2.1) + (1 : Int)) < Prod.fst p0) = true then some ([wrap64 (p1 + (1 : Int))] ++ [wrap64 (p1 + Prod.fst p0.2)]) else some [wrap64 (p1 + (1 : Int))] else if decide (wrap64 (wrap64 (Int.tdiv p1 p0.2.1) + (1 : Int)) < Prod.fst p0) = true then some [wrap64 (p1 + Prod.fst p0.2)] else some []
noncomputable def Z4i : FnDef := .of ZoG Zat (List Int) (fun k x => Zdk k x.1 x.2.1) ZlP ZmN Zvh
noncomputable def Zh3 : Code := Tryz.f137.body.getD .skip
noncomputable def Zdt : Ctx (Tup Zat × OutD) := { T := T, G := [], mvs := [], no := 0, n := 56, res := resOf T ZoG Zat Tryz.f137.results.toList, loops := [], regs := [], conds := [], cuts := [] }
theorem ZBB (k : Nat) : EnvOK Tryz.prog k Zdt.G := (EnvOK.nil mixed)
theorem ZC7 (k : Nat) (x : Tup Z4i.ps) : Z4i.f (k + 1) x = fnK Z4i Zdt Zh3 k x := by kernel_rfl
theorem ZCu (x : Tup Z4i.ps) : Z4i.f 0 x = none := by kernel_rfl
theorem ZC0 (k : Nat) : LOK Tryz.prog Zdt k Zh3 := LOK.by [] (by kernel_rfl) AllOK.nil
theorem ZCm (k : Nat) : SoundAt Tryz.prog k 137 Z4i.E := @Z3 Tryz.prog Z4i Zdt 137 Tryz.f137 Zh3 (by kernel_rfl) (by kernel_rfl) (by kernel_rfl) Tryz.func137 (by kernel_rfl) (by kernel_rfl) (by kernel_rfl) T_ok ZBB ZC0 ZCu ZC7 k
noncomputable def Z6a : List PK := []
noncomputable def Zkf : List PK := [PK.mk (Ty.pair (Ty.int .i64) (Ty.pair (Ty.int .i64) (Ty.slice (122 : Nat) (Ty.pair (Ty.int .i64) (Ty.int .i64))))) true (some ((2 : Nat), (122 : Nat), Ty.pair (Ty.int .i64) (Ty.int .i64))) false none, PK.mk (Ty.slice (3 : Nat) (Ty.int .i64)) false none false none, PK.mk (Ty.slice (3 : Nat) (Ty.int .i64)) false none false none, PK.mk (Ty.int .i64) false none false none]
noncomputable def Zj5 (r : List (Int × Int)) : Tup Z6a × OutD := ((()), some ⟨Ty.pair (Ty.int .i64) (Ty.int .i64), r⟩)
noncomputable def ZdB : Tup Z6a × OutD → Option (List (Int × Int))
 | (a, some ⟨u, ys⟩) => if h : u = Ty.pair (Ty.int .i64) (Ty.int .i64) then some (castU h ys) else none
 | _ => none
theorem Zrr : ∀ b r, ZdB b = some r → Zj5 r = b := by
 rintro ⟨a, o⟩ r h
 cases o with
 | none => cases h
 | some s =>
  obtain ⟨u, ys⟩ := s
  simp only [ZdB] at h
  split at h
  ·rename_i hu; subst hu; injection h with h; subst h; rfl
  ·cases h
noncomputable def Zx : Nat → List (Int × Int) → Int → Int → List Int → List Int → Int → Int → Int → Option (List (Int × Int))
 | 0, _, _, _, _, _, _, _, _ => none
 | k + 1, o1, b2_0, b2_1, v1, v2, v3, v12, v13 =>
  if decide (v13 < v12) = true then if decide (v13 = v3) = true then if (0 : Int) ≤ v13 then if v13 < (↑(List.length v2) : Int) then if decide (List.getD v2 (Int.toNat v13) (0 : Int) ≠ (1 : Int)) = true then if (0 : Int) ≤ v13 then if v13 < (↑(List.length o1) : Int) then if (0 : Int) ≤ v13 then if v13 < (↑(List.length o1) : Int) then Zx k (List.set o1 (Int.toNat v13) (Prod.fst (List.getD o1 (Int.toNat v13) ((0 : Int), (0 : Int))), wrap64 ((1 : Int) - Prod.snd (List.getD o1 (Int.toNat v13) ((0 : Int), (0 : Int)))))) b2_0 b2_1 v1 v2 v3 v12 (wrap64 (v13 + (1 : Int))) else none else none else none else none else Zx k o1 b2_0 b2_1 v1 v2 v3 v12 (wrap64 (v13 + (1 : Int))) else none else none else if (0 : Int) ≤ v3 then if v3 < (↑(List.length o1) : Int) then if decide (Prod.fst (List.getD o1 (Int.toNat v3) ((0 : Int), (0 : Int))) = (6 : Int)) = true then if (0 : Int) ≤ v13 then if v13 < (↑(List.length o1) : Int) then if decide (Prod.fst (List.getD o1 (Int.toNat v13) ((0 : Int), (0 : Int))) = (6 : Int)) = true then if (0 : Int) ≤ v13 then if v13 < (↑(List.length v1) : Int) then if (0 : Int) ≤ v3 then if v3 < (↑(List.length v1) : Int) then if decide (List.getD v1 (Int.toNat v13) (0 : Int) = List.getD v1 (Int.toNat v3) (0 : Int)) = true then if (0 : Int) ≤ v13 then if v13 < (↑(List.length v2) : Int) then if decide (List.getD v2 (Int.toNat v13) (0 : Int) ≠ (1 : Int)) = true then if (0 : Int) ≤ v13 then if v13 < (↑(List.length o1) : Int) then if (0 : Int) ≤ v13 then if v13 < (↑(List.length o1) : Int) then Zx k (List.set o1 (Int.toNat v13) (Prod.fst (List.getD o1 (Int.toNat v13) ((0 : Int), (0 : Int))), wrap64 ((1 : Int) - Prod.snd (List.getD o1 (Int.toNat v13) ((0 : Int), (0 : Int)))))) b2_0 b2_1 v1 v2 v3 v12 (wrap64 (v13 + (1 : Int))) else none else none else none else none else Zx k o1 b2_0 b2_1 v1 v2 v3 v12 (wrap64 (v13 + (1 : Int))) else none else none else Zx k o1 b2_0 b2_1 v1 v2 v3 v12 (wrap64 (v13 + (1 : Int))) else none else none else none else none else Zx k o1 b2_0 b2_1 v1 v2 v3 v12 (wrap64 (v13 + (1 : Int))) else none else none else Zx k o1 b2_0 b2_1 v1 v2 v3 v12 (wrap64 (v13 + (1 : Int))) else none else none else some o1
noncomputable def ZbN : Spec := Spec.mk [OSh.ro, OSh.row false (122 : Nat) (Ty.pair (Ty.int .i64) (Ty.int .i64)), OSh.box (26 : Nat) [Sh.int .i64, Sh.int .i64, Sh.sl (1 : Nat)]] [((1 : Nat), TSh.at (Sh.snap (0 : Nat) (Ty.int .i64))), ((2 : Nat), TSh.at (Sh.snap (0 : Nat) (Ty.int .i64))), ((3 : Nat), TSh.at (Sh.int .i64)), ((4 : Nat), TSh.at (Sh.ptr (2 : Nat) (0 : Nat))), ((12 : Nat), TSh.at (Sh.int .i64)), ((13 : Nat), TSh.at (Sh.int .i64))]
noncomputable def ZsI : Spec := Spec.mk [OSh.ro, OSh.row false (122 : Nat) (Ty.pair (Ty.int .i64) (Ty.int .i64))] []
noncomputable def Z3S : LoopDef (Tup Z6a × OutD) := .plain ZbN ZsI (List (Int × Int)) (fun k x => Zx k x.1.2.1 x.1.2.2.1.1 x.1.2.2.1.2.1 x.2.1 x.2.2.1 x.2.2.2.1 x.2.2.2.2.2.1 x.2.2.2.2.2.2.1) (fun z => (((), z, ()), (()))) (fun y => (y.1.2.1)) (fun _ => rfl)
noncomputable def Z6d : Nat → Int × Int × List (Int × Int) → List Int → List Int → Int → Option (List (Int × Int))
 | 0, _, _, _, _ => none
 | k + 1, p0, p1, p2, p3 =>
  Option.bind (Zx k p0.2.2 p0.1 p0.2.1 p1 p2 p3 (↑(List.length p0.2.2) : Int) (0 : Int)) fun z0 => some z0
noncomputable def Z3a : FnDef := .of Zkf Z6a (List (Int × Int)) (fun k x => Z6d k x.1 x.2.1 x.2.2.1 x.2.2.2.1) Zj5 ZdB Zrr
noncomputable def Zbc : Code := Tryz.f139.body.getD .skip
noncomputable def Z4d : Ctx (Tup Z6a × OutD) := { T := T, G := [], mvs := [], no := 1, n := 69, res := resOf T Zkf Z6a Tryz.f139.results.toList, loops := [(0, Z3S.E)], regs := [], conds := [], cuts := [] }
theorem Zkj (k : Nat) : EnvOK Tryz.prog k Z4d.G := (EnvOK.nil mixed)
noncomputable def Z8B : Code := (findLoop 0 Zbc).getD .skip
theorem ZsN (k : Nat) (x : ZbN.D) : Z3S.lp (k + 1) x = loopK Z4d Z3S 0 Z8B k x := by kernel_rfl
theorem ZrU (k : Nat) : LOK Tryz.prog Z4d k Z8B := LOK.by [] (by kernel_rfl) AllOK.nil
theorem ZsO (x : ZbN.D) : Z3S.lp 0 x = none := by kernel_rfl
theorem Zqr (k : Nat) : EOK Tryz.prog Z4d k Z3S.E (.block 0 (.loop Z8B)) := Zb T_ok Zkj ZsO ZsN ZrU k
theorem ZxF (k : Nat) (x : Tup Z3a.ps) : Z3a.f (k + 1) x = fnK Z3a Z4d Zbc k x := by kernel_rfl
theorem Zxe (x : Tup Z3a.ps) : Z3a.f 0 x = none := by kernel_rfl
theorem ZxZ (k : Nat) : LOK Tryz.prog Z4d k Zbc := LOK.by [(Z3S.E, .block 0 (.loop Z8B))] (by kernel_rfl) (AllOK.cons (Zqr k) AllOK.nil)
theorem ZxB (k : Nat) : SoundAt Tryz.prog k 139 Z3a.E := @Z3 Tryz.prog Z3a Z4d 139 Tryz.f139 Zbc (by kernel_rfl) (by kernel_rfl) (by kernel_rfl) Tryz.func139 (by kernel_rfl) (by kernel_rfl) (by kernel_rfl) T_ok Zkj ZxZ Zxe ZxF k
noncomputable def Z3B : List PK := [PK.mk Ty.str false none false none]
noncomputable def Ze4 : List PK := [PK.mk (Ty.int .i64) false none false none]
noncomputable def Zdl (r : ByteArray) : Tup Z3B × OutD := ((r, ()), none)
noncomputable def Zdw : Tup Z3B × OutD → Option (ByteArray)
 | (a, none) => some (a.1)
 | _ => none
theorem Zil : ∀ b r, Zdw b = some r → Zdl r = b := by
 rintro ⟨a, o⟩ r h
 cases o with
 | none => injection h with h; subst h; rfl
 | some _ => cases h
noncomputable def Z9b : Nat → Int → Option ByteArray
 | 0, _ => none
 | k + 1, p0 =>
  if decide (p0 < (10 : Int)) = true then if (0 : Int) ≤ p0 then if p0 ≤ wrap64 (p0 + (1 : Int)) then if wrap64 (p0 + (1 : Int)) ≤ (↑(ByteArray.size (ByteArray.mk #[(48 : UInt8), (49 : UInt8), (50 : UInt8), (51 : UInt8), (52 : UInt8), (53 : UInt8), (54 : UInt8), (55 : UInt8), (56 : UInt8), (57 : UInt8), (97 : UInt8), (98 : UInt8), (99 : UInt8), (100 : UInt8), (101 : UInt8), (102 : UInt8), (103 : UInt8), (104 : UInt8), (105 : UInt8), (106 : UInt8), (107 : UInt8), (108 : UInt8), (109 : UInt8), (110 : UInt8), (111 : UInt8), (112 : UInt8), (113 : UInt8), (114 : UInt8), (115 : UInt8), (116 : UInt8), (117 : UInt8), (118 : UInt8), (119 : UInt8), (120 : UInt8), (121 : UInt8), (122 : UInt8)])) : Int) then some (subS (ByteArray.mk #[(48 : UInt8), (49 : UInt8), (50 : UInt8), (51 : UInt8), (52 : UInt8), (53 : UInt8), (54 : UInt8), (55 : UInt8), (56 : UInt8), (57 : UInt8), (97 : UInt8), (98 : UInt8), (99 : UInt8), (100 : UInt8), (101 : UInt8), (102 : UInt8), (103 : UInt8), (104 : UInt8), (105 : UInt8), (106 : UInt8), (107 : UInt8), (108 : UInt8), (109 : UInt8), (110 : UInt8), (111 : UInt8), (112 : UInt8), (113 : UInt8), (114 : UInt8), (115 : UInt8), (116 : UInt8), (117 : UInt8), (118 : UInt8), (119 : UInt8), (120 : UInt8), (121 : UInt8), (122 : UInt8)]) (Int.toNat p0) (Int.toNat (wrap64 (p0 + (1 : Int))))) else none else none else none else if (0 : Int) ≤ wrap64 (p0 * (2 : Int)) then if wrap64 (p0 * (2 : Int)) ≤ wrap64 (wrap64 (p0 * (2 : Int)) + (2 : Int)) then if wrap64 (wrap64 (p0 * (2 : Int)) + (2 : Int)) ≤ (↑(ByteArray.size (ByteArray.mk (List.toArray (List.append (List.append [(48 : UInt8), (48 : UInt8), (48 : UInt8), (49 : UInt8), (48 : UInt8), (50 : UInt8), (48 : UInt8), (51 : UInt8), (48 : UInt8), (52 : UInt8), (48 : UInt8), (53 : UInt8), (48 : UInt8), (54 : UInt8), (48 : UInt8), (55 : UInt8), (48 : UInt8), (56 : UInt8), (48 : UInt8), (57 : UInt8), (49 : UInt8), (48 : UInt8), (49 : UInt8), (49 : UInt8), (49 : UInt8), (50 : UInt8), (49 : UInt8), (51 : UInt8), (49 : UInt8), (52 : UInt8), (49 : UInt8), (53 : UInt8), (49 : UInt8), (54 : UInt8), (49 : UInt8), (55 : UInt8), (49 : UInt8), (56 : UInt8), (49 : UInt8), (57 : UInt8), (50 : UInt8), (48 : UInt8), (50 : UInt8), (49 : UInt8), (50 : UInt8), (50 : UInt8), (50 : UInt8), (51 : UInt8), (50 : UInt8), (52 : UInt8)] [(50 : UInt8), (53 : UInt8), (50 : UInt8), (54 : UInt8), (50 : UInt8), (55 : UInt8), (50 : UInt8), (56 : UInt8), (50 : UInt8), (57 : UInt8), (51 : UInt8), (48 : UInt8), (51 : UInt8), (49 : UInt8), (51 : UInt8), (50 : UInt8), (51 : UInt8), (51 : UInt8), (51 : UInt8), (52 : UInt8), (51 : UInt8), (53 : UInt8), (51 : UInt8), (54 : UInt8), (51 : UInt8), (55 : UInt8), (51 : UInt8), (56 : UInt8), (51 : UInt8), (57 : UInt8), (52 : UInt8), (48 : UInt8), (52 : UInt8), (49 : UInt8), (52 : UInt8), (50 : UInt8), (52 : UInt8), (51 : UInt8), (52 : UInt8), (52 : UInt8), (52 : UInt8), (53 : UInt8), (52 : UInt8), (54 : UInt8), (52 : UInt8), (55 : UInt8), (52 : UInt8), (56 : UInt8), (52 : UInt8), (57 : UInt8)]) (List.append [(53 : UInt8), (48 : UInt8), (53 : UInt8), (49 : UInt8), (53 : UInt8), (50 : UInt8), (53 : UInt8), (51 : UInt8), (53 : UInt8), (52 : UInt8), (53 : UInt8), (53 : UInt8), (53 : UInt8), (54 : UInt8), (53 : UInt8), (55 : UInt8), (53 : UInt8), (56 : UInt8), (53 : UInt8), (57 : UInt8), (54 : UInt8), (48 : UInt8), (54 : UInt8), (49 : UInt8), (54 : UInt8), (50 : UInt8), (54 : UInt8), (51 : UInt8), (54 : UInt8), (52 : UInt8), (54 : UInt8), (53 : UInt8), (54 : UInt8), (54 : UInt8), (54 : UInt8), (55 : UInt8), (54 : UInt8), (56 : UInt8), (54 : UInt8), (57 : UInt8), (55 : UInt8), (48 : UInt8), (55 : UInt8), (49 : UInt8), (55 : UInt8), (50 : UInt8), (55 : UInt8), (51 : UInt8), (55 : UInt8), (52 : UInt8)] [(55 : UInt8), (53 : UInt8), (55 : UInt8), (54 : UInt8), (55 : UInt8), (55 : UInt8), (55 : UInt8), (56 : UInt8), (55 : UInt8), (57 : UInt8), (56 : UInt8), (48 : UInt8), (56 : UInt8), (49 : UInt8), (56 : UInt8), (50 : UInt8), (56 : UInt8), (51 : UInt8), (56 : UInt8), (52 : UInt8), (56 : UInt8), (53 : UInt8), (56 : UInt8), (54 : UInt8), (56 : UInt8), (55 : UInt8), (56 : UInt8), (56 : UInt8), (56 : UInt8), (57 : UInt8), (57 : UInt8), (48 : UInt8), (57 : UInt8), (49 : UInt8), (57 : UInt8), (50 : UInt8), (57 : UInt8), (51 : UInt8), (57 : UInt8), (52 : UInt8), (57 : UInt8), (53 : UInt8), (57 : UInt8), (54 : UInt8), (57 : UInt8), (55 : UInt8), (57 : UInt8), (56 : UInt8), (57 : UInt8), (57 : UInt8)]))))) : Int) then some (subS (ByteArray.mk (List.toArray (List.append (List.append [(48 : UInt8), (48 : UInt8), (48 : UInt8), (49 : UInt8), (48 : UInt8), (50 : UInt8), (48 : UInt8), (51 : UInt8), (48 : UInt8), (52 : UInt8), (48 : UInt8), (53 : UInt8), (48 : UInt8), (54 : UInt8), (48 : UInt8), (55 : UInt8), (48 : UInt8), (56 : UInt8), (48 : UInt8), (57 : UInt8), (49 : UInt8), (48 : UInt8), (49 : UInt8), (49 : UInt8), (49 : UInt8), (50 : UInt8), (49 : UInt8), (51 : UInt8), (49 : UInt8), (52 : UInt8), (49 : UInt8), (53 : UInt8), (49 : UInt8), (54 : UInt8), (49 : UInt8), (55 : UInt8), (49 : UInt8), (56 : UInt8), (49 : UInt8), (57 : UInt8), (50 : UInt8), (48 : UInt8), (50 : UInt8), (49 : UInt8), (50 : UInt8), (50 : UInt8), (50 : UInt8), (51 : UInt8), (50 : UInt8), (52 : UInt8)] [(50 : UInt8), (53 : UInt8), (50 : UInt8), (54 : UInt8), (50 : UInt8), (55 : UInt8), (50 : UInt8), (56 : UInt8), (50 : UInt8), (57 : UInt8), (51 : UInt8), (48 : UInt8), (51 : UInt8), (49 : UInt8), (51 : UInt8), (50 : UInt8), (51 : UInt8), (51 : UInt8), (51 : UInt8), (52 : UInt8), (51 : UInt8), (53 : UInt8), (51 : UInt8), (54 : UInt8), (51 : UInt8), (55 : UInt8), (51 : UInt8), (56 : UInt8), (51 : UInt8), (57 : UInt8), (52 : UInt8), (48 : UInt8), (52 : UInt8), (49 : UInt8), (52 : UInt8), (50 : UInt8), (52 : UInt8), (51 : UInt8), (52 : UInt8), (52 : UInt8), (52 : UInt8), (53 : UInt8), (52 : UInt8), (54 : UInt8), (52 : UInt8), (55 : UInt8), (52 : UInt8), (56 : UInt8), (52 : UInt8), (57 : UInt8)]) (List.append [(53 : UInt8), (48 : UInt8), (53 : UInt8), (49 : UInt8), (53 : UInt8), (50 : UInt8), (53 : UInt8), (51 : UInt8), (53 : UInt8), (52 : UInt8), (53 : UInt8), (53 : UInt8), (53 : UInt8), (54 : UInt8), (53 : UInt8), (55 : UInt8), (53 : UInt8), (56 : UInt8), (53 : UInt8), (57 : UInt8), (54 : UInt8), (48 : UInt8), (54 : UInt8), (49 : UInt8), (54 : UInt8), (50 : UInt8), (54 : UInt8), (51 : UInt8), (54 : UInt8), (52 : UInt8), (54 : UInt8), (53 : UInt8), (54 : UInt8), (54 : UInt8), (54 : UInt8), (55 : UInt8), (54 : UInt8), (56 : UInt8), (54 : UInt8), (57 : UInt8), (55 : UInt8), (48 : UInt8), (55 : UInt8), (49 : UInt8), (55 : UInt8), (50 : UInt8), (55 : UInt8), (51 : UInt8), (55 : UInt8), (52 : UInt8)] [(55 : UInt8), (53 : UInt8), (55 : UInt8), (54 : UInt8), (55 : UInt8), (55 : UInt8), (55 : UInt8), (56 : UInt8), (55 : UInt8), (57 : UInt8), (56 : UInt8), (48 : UInt8), (56 : UInt8), (49 : UInt8), (56 : UInt8), (50 : UInt8), (56 : UInt8), (51 : UInt8), (56 : UInt8), (52 : UInt8), (56 : UInt8), (53 : UInt8), (56 : UInt8), (54 : UInt8), (56 : UInt8), (55 : UInt8), (56 : UInt8), (56 : UInt8), (56 : UInt8), (57 : UInt8), (57 : UInt8), (48 : UInt8), (57 : UInt8), (49 : UInt8), (57 : UInt8), (50 : UInt8), (57 : UInt8), (51 : UInt8), (57 : UInt8), (52 : UInt8), (57 : UInt8), (53 : UInt8), (57 : UInt8), (54 : UInt8), (57 : UInt8), (55 : UInt8), (57 : UInt8), (56 : UInt8), (57 : UInt8), (57 : UInt8)])))) (Int.toNat (wrap64 (p0 * (2 : Int)))) (Int.toNat (wrap64 (wrap64 (p0 * (2 : Int)) + (2 : Int))))) else none else none else none
noncomputable def Z1b : FnDef := .of Ze4 Z3B (ByteArray) (fun k x => Z9b k x.1) Zdl Zdw Zil
noncomputable def Z9g : Code := Tryz.f140.body.getD .skip
noncomputable def Z64 : Ctx (Tup Z3B × OutD) := { T := T, G := [], mvs := [], no := 0, n := 15, res := resOf T Ze4 Z3B Tryz.f140.results.toList, loops := [], regs := [], conds := [], cuts := [] }
theorem Zlk (k : Nat) : EnvOK Tryz.prog k Z64.G := (EnvOK.nil mixed)
theorem Znj (k : Nat) (x : Tup Z1b.ps) : Z1b.f (k + 1) x = fnK Z1b Z64 Z9g k x := by kernel_rfl
theorem ZlG (x : Tup Z1b.ps) : Z1b.f 0 x = none := by kernel_rfl
theorem Zlq (k : Nat) : LOK Tryz.prog Z64 k Z9g := LOK.by [] (by kernel_rfl) AllOK.nil
theorem Zlo (k : Nat) : SoundAt Tryz.prog k 140 Z1b.E := @Z3 Tryz.prog Z1b Z64 140 Tryz.f140 Z9g (by kernel_rfl) (by kernel_rfl) (by kernel_rfl) Tryz.func140 (by kernel_rfl) (by kernel_rfl) (by kernel_rfl) T_ok Zlk Zlq ZlG Znj k
noncomputable def ZdM : List PK := [PK.mk (Ty.int .i64) false none false none]
noncomputable def Zwh : List PK := [PK.mk (Ty.int .i64) false none false none, PK.mk (Ty.int .i64) false none false none]
noncomputable def ZtX (r : Int) : Tup ZdM × OutD := ((r, ()), none)
noncomputable def Zta : Tup ZdM × OutD → Option (Int)
 | (a, none) => some (a.1)
 | _ => none
theorem ZAs : ∀ b r, Zta b = some r → ZtX r = b := by
 rintro ⟨a, o⟩ r h
 cases o with
 | none => injection h with h; subst h; rfl
 | some _ => cases h
noncomputable def Zhb : Nat → Int → Int → Option Int
 | 0, _, _ => none
 | k + 1, p0, p1 =>
  if IntKind.wrap IntKind.u64 p1 < (0 : Int) then none else some (bits BinOp.and IntKind.i64 (Int.fdiv p0 ((2 : Int) ^ min (Int.toNat (IntKind.wrap IntKind.u64 p1)) (IntKind.bits IntKind.i64))) (1 : Int))
noncomputable def Z7D : FnDef := .of Zwh ZdM (Int) (fun k x => Zhb k x.1 x.2.1) ZtX Zta ZAs
noncomputable def Zml : Code := Tryz.f145.body.getD .skip
noncomputable def ZhJ : Ctx (Tup ZdM × OutD) := { T := T, G := [], mvs := [], no := 0, n := 10, res := resOf T Zwh ZdM Tryz.f145.results.toList, loops := [], regs := [], conds := [], cuts := [] }
theorem ZG0 (k : Nat) : EnvOK Tryz.prog k ZhJ.G := (EnvOK.nil mixed)
theorem ZFG (k : Nat) (x : Tup Z7D.ps) : Z7D.f (k + 1) x = fnK Z7D ZhJ Zml k x := by kernel_rfl
theorem ZFC (x : Tup Z7D.ps) : Z7D.f 0 x = none := by kernel_rfl
theorem ZFv (k : Nat) : LOK Tryz.prog ZhJ k Zml := LOK.by [] (by kernel_rfl) AllOK.nil
theorem ZFN (k : Nat) : SoundAt Tryz.prog k 145 Z7D.E := @Z3 Tryz.prog Z7D ZhJ 145 Tryz.f145 Zml (by kernel_rfl) (by kernel_rfl) (by kernel_rfl) Tryz.func145 (by kernel_rfl) (by kernel_rfl) (by kernel_rfl) T_ok ZG0 ZFv ZFC ZFG k
noncomputable def Z6J : List PK := []
noncomputable def Zm7 : List PK := [PK.mk (Ty.pair (Ty.int .i64) (Ty.pair (Ty.int .i64) (Ty.slice (122 : Nat) (Ty.pair (Ty.int .i64) (Ty.int .i64))))) true (some ((2 : Nat), (122 : Nat), Ty.pair (Ty.int .i64) (Ty.int .i64))) false none, PK.mk (Ty.slice (3 : Nat) (Ty.int .i64)) false none false none, PK.mk (Ty.int .i64) false none false none]
noncomputable def Zk9 (r : List (Int × Int)) : Tup Z6J × OutD := ((()), some ⟨Ty.pair (Ty.int .i64) (Ty.int .i64), r⟩)
noncomputable def ZeS : Tup Z6J × OutD → Option (List (Int × Int))
 | (a, some ⟨u, ys⟩) => if h : u = Ty.pair (Ty.int .i64) (Ty.int .i64) then some (castU h ys) else none
 | _ => none
theorem Zsc : ∀ b r, ZeS b = some r → Zk9 r = b := by
 rintro ⟨a, o⟩ r h
 cases o with
 | none => cases h
 | some s =>
  obtain ⟨u, ys⟩ := s
  simp only [ZeS] at h
  split at h
  ·rename_i hu; subst hu; injection h with h; subst h; rfl
  ·cases h
noncomputable def Z1Z : Nat → List (Int × Int) → Int → Int → List Int → Int → Int → Int → Option (List (Int × Int))
 | 0, _, _, _, _, _, _, _ => none
 | k + 1, o1, b2_0, b2_1, v1, v2, v9, v10 =>
  if decide (v10 < v9) = true then if (0 : Int) ≤ v10 then if v10 < (↑(List.length o1) : Int) then if decide (Prod.fst (List.getD o1 (Int.toNat v10) ((0 : Int), (0 : Int))) = (6 : Int)) = true then if (0 : Int) ≤ v10 then if v10 < (↑(List.length v1) : Int) then if (0 : Int) ≤ v2 then if v2 < (↑(List.length v1) : Int) then if decide (List.getD v1 (Int.toNat v10) (0 : Int) = List.getD v1 (Int.toNat v2) (0 : Int)) = true then if (0 : Int) ≤ v10 then if v10 < (↑(List.length o1) : Int) then if (0 : Int) ≤ v10 then if v10 < (↑(List.length o1) : Int) then Z1Z k (List.set o1 (Int.toNat v10) (Prod.fst (List.getD o1 (Int.toNat v10) ((0 : Int), (0 : Int))), wrap64 ((1 : Int) - Prod.snd (List.getD o1 (Int.toNat v10) ((0 : Int), (0 : Int)))))) b2_0 b2_1 v1 v2 v9 (wrap64 (v10 + (1 : Int))) else none else none else none else none else Z1Z k o1 b2_0 b2_1 v1 v2 v9 (wrap64 (v10 + (1 : Int))) else none else none else none else none else Z1Z k o1 b2_0 b2_1 v1 v2 v9 (wrap64 (v10 + (1 : Int))) else none else none else some o1
noncomputable def Zdb : Spec := Spec.mk [OSh.ro, OSh.row false (122 : Nat) (Ty.pair (Ty.int .i64) (Ty.int .i64)), OSh.box (26 : Nat) [Sh.int .i64, Sh.int .i64, Sh.sl (1 : Nat)]] [((1 : Nat), TSh.at (Sh.snap (0 : Nat) (Ty.int .i64))), ((2 : Nat), TSh.at (Sh.int .i64)), ((3 : Nat), TSh.at (Sh.ptr (2 : Nat) (0 : Nat))), ((9 : Nat), TSh.at (Sh.int .i64)), ((10 : Nat), TSh.at (Sh.int .i64))]
noncomputable def Zuf : Spec := Spec.mk [OSh.ro, OSh.row false (122 : Nat) (Ty.pair (Ty.int .i64) (Ty.int .i64))] []
noncomputable def Z4p : LoopDef (Tup Z6J × OutD) := .plain Zdb Zuf (List (Int × Int)) (fun k x => Z1Z k x.1.2.1 x.1.2.2.1.1 x.1.2.2.1.2.1 x.2.1 x.2.2.1 x.2.2.2.2.1 x.2.2.2.2.2.1) (fun z => (((), z, ()), (()))) (fun y => (y.1.2.1)) (fun _ => rfl)
noncomputable def Z9z : Nat → Int × Int × List (Int × Int) → List Int → Int → Option (List (Int × Int))
 | 0, _, _, _ => none
 | k + 1, p0, p1, p2 =>
  Option.bind (Z1Z k p0.2.2 p0.1 p0.2.1 p1 p2 (↑(List.length p0.2.2) : Int) (0 : Int)) fun z0 => some z0
noncomputable def Z3H : FnDef := .of Zm7 Z6J (List (Int × Int)) (fun k x => Z9z k x.1 x.2.1 x.2.2.1) Zk9 ZeS Zsc
noncomputable def Zc1 : Code := Tryz.f147.body.getD .skip
noncomputable def Z4X : Ctx (Tup Z6J × OutD) := { T := T, G := [], mvs := [], no := 1, n := 44, res := resOf T Zm7 Z6J Tryz.f147.results.toList, loops := [(0, Z4p.E)], regs := [], conds := [], cuts := [] }
theorem Zlz (k : Nat) : EnvOK Tryz.prog k Z4X.G := (EnvOK.nil mixed)
noncomputable def Z9F : Code := (findLoop 0 Zc1).getD .skip
theorem Zuu (k : Nat) (x : Zdb.D) : Z4p.lp (k + 1) x = loopK Z4X Z4p 0 Z9F k x := by kernel_rfl
theorem Zuq (k : Nat) : LOK Tryz.prog Z4X k Z9F := LOK.by [] (by kernel_rfl) AllOK.nil
theorem ZuW (x : Zdb.D) : Z4p.lp 0 x = none := by kernel_rfl
theorem ZrC (k : Nat) : EOK Tryz.prog Z4X k Z4p.E (.block 0 (.loop Z9F)) := Zb T_ok Zlz ZuW Zuu Zuq k
theorem ZA5 (k : Nat) (x : Tup Z3H.ps) : Z3H.f (k + 1) x = fnK Z3H Z4X Zc1 k x := by kernel_rfl
theorem ZA8 (x : Tup Z3H.ps) : Z3H.f 0 x = none := by kernel_rfl
theorem Zz1 (k : Nat) : LOK Tryz.prog Z4X k Zc1 := LOK.by [(Z4p.E, .block 0 (.loop Z9F))] (by kernel_rfl) (AllOK.cons (ZrC k) AllOK.nil)
theorem ZAP (k : Nat) : SoundAt Tryz.prog k 147 Z3H.E := @Z3 Tryz.prog Z3H Z4X 147 Tryz.f147 Zc1 (by kernel_rfl) (by kernel_rfl) (by kernel_rfl) Tryz.func147 (by kernel_rfl) (by kernel_rfl) (by kernel_rfl) T_ok Zlz Zz1 ZA8 ZA5 k
noncomputable def ZcJ : List PK := [PK.mk (Ty.pair (Ty.int .i64) (Ty.int .i64)) true none false none]
noncomputable def Ztl : List PK := [PK.mk (Ty.pair (Ty.int .i64) (Ty.int .i64)) true none false none]
noncomputable def Zr8 (r : Int × Int) : Tup ZcJ × OutD := ((r, ()), none)
noncomputable def Zrt : Tup ZcJ × OutD → Option (Int × Int)
 | (a, none) => some (a.1)
 | _ => none
theorem Zyd : ∀ b r, Zrt b = some r → Zr8 r = b := by
 rintro ⟨a, o⟩ r h
 cases o with
 | none => injection h with h; subst h; rfl
 | some _ => cases h
noncomputable def Z86 : Nat → Int × Int → Option (Int × Int)
 | 0, _ => none
 | k + 1, p0 =>
  some (Prod.fst p0, wrap64 ((1 : Int) - Prod.snd p0))
noncomputable def Z4K : FnDef := .of Ztl ZcJ (Int × Int) (fun k x => Z86 k x.1) Zr8 Zrt Zyd
noncomputable def ZjD : Code := Tryz.f148.body.getD .skip
noncomputable def Zfw : Ctx (Tup ZcJ × OutD) := { T := T, G := [], mvs := [], no := 0, n := 9, res := resOf T Ztl ZcJ Tryz.f148.results.toList, loops := [], regs := [], conds := [], cuts := [] }
theorem ZEC (k : Nat) : EnvOK Tryz.prog k Zfw.G := (EnvOK.nil mixed)
theorem ZF0 (k : Nat) (x : Tup Z4K.ps) : Z4K.f (k + 1) x = fnK Z4K Zfw ZjD k x := by kernel_rfl
theorem ZEB (x : Tup Z4K.ps) : Z4K.f 0 x = none := by kernel_rfl
theorem ZE5 (k : Nat) : LOK Tryz.prog Zfw k ZjD := LOK.by [] (by kernel_rfl) AllOK.nil
theorem Ztb (k : Nat) : SoundAt Tryz.prog k 148 Z4K.E := @Z3 Tryz.prog Z4K Zfw 148 Tryz.f148 ZjD (by kernel_rfl) (by kernel_rfl) (by kernel_rfl) Tryz.func148 (by kernel_rfl) (by kernel_rfl) (by kernel_rfl) T_ok ZEC ZE5 ZEB ZF0 k
end
end Go.Proofs.YtglkedenkcpcbaaGreatDoor.Vs
