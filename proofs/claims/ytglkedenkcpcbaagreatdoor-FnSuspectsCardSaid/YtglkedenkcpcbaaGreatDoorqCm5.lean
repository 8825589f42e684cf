/- The proof, part 6. -/
import Derived.Test.YtglkedenkcpcbaaGreatDoorqCm4
set_option maxRecDepth 100000
set_option maxHeartbeats 2000000
set_option linter.unusedVariables false
set_option linter.unusedSimpArgs false
namespace Go.Proofs.YtglkedenkcpcbaaGreatDoor.Vs
open Go.RowKit
noncomputable section
noncomputable def ZbB : List PK := [PK.mk Ty.str false none false none]
noncomputable def Zqc : List PK := [PK.mk (Ty.pair (Ty.int .i64) (Ty.pair (Ty.int .i64) (Ty.int .i64))) true none false none]
noncomputable def Zoy (r : ByteArray) : Tup ZbB × OutD := ((r, ()), none)
noncomputable def Zni : Tup ZbB × OutD → Option (ByteArray)
 | (a, none) => some (a.1)
 | _ => none
theorem Zv8 : ∀ b r, Zni b = some r → Zoy r = b := by
 rintro ⟨a, o⟩ r h
 cases o with
 | none => injection h with h; subst h; rfl
 | some _ => cases h
noncomputable def Ze9 : Nat → Int × Int × Int → Option ByteArray
 | 0, _ => none
 | k + 1, p0 =>
  Option.bind (ZnI k) fun z0 => if (0 : Int) ≤ Prod.fst p0 then if Prod.fst p0 < (↑(List.length z0) : Int) then if ByteArray.size (List.getD z0 (Int.toNat p0.1) (ByteArray.mk #[])) + ByteArray.size (ByteArray.mk #[(32 : UInt8), (97 : UInt8), (116 : UInt8), (32 : UInt8)]) ≤ (9223372036854775807 : Nat) then Option.bind (Z8C k p0.2.1) fun z1 => if ByteArray.size (List.getD z0 (Int.toNat p0.1) (ByteArray.mk #[]) ++ ByteArray.mk #[(32 : UInt8), (97 : UInt8), (116 : UInt8), (32 : UInt8)]) + ByteArray.size z1 ≤ (9223372036854775807 : Nat) then if ByteArray.size (List.getD z0 (Int.toNat p0.1) (ByteArray.mk #[]) ++ ByteArray.mk #[(32 : UInt8), (97 : UInt8), (116 : UInt8), (32 : UInt8)] ++ z1) + ByteArray.size (ByteArray.mk #[(44 : UInt8)]) ≤ (9223372036854775807 : Nat) then Option.bind (Z8C k p0.2.2) fun z2 => if ByteArray.size (List.getD z0 (Int.toNat p0.1) (ByteArray.mk #[]) ++ ByteArray.mk #[(32 : UInt8), (97 : UInt8), (116 : UInt8), (32 : UInt8)] ++ z1 ++ ByteArray.mk #[(44 : UInt8)]) + ByteArray.size z2 ≤ (9223372036854775807 : Nat) then some (List.getD z0 (Int.toNat p0.1) (ByteArray.mk #[]) ++ ByteArray.mk #[(32 : UInt8), (97 : UInt8), (116 : UInt8), (32 : UInt8)] ++ z1 ++ ByteArray.mk #[(44 : UInt8)] ++ z2) else none else none else none else none else none else none
noncomputable def Z5R : FnDef := .of Zqc ZbB (ByteArray) (fun k x => Ze9 k x.1) Zoy Zni Zv8
noncomputable def ZhM : Code := Tryz.f55.body.getD .skip
noncomputable def Ze5 : Ctx (Tup ZbB × OutD) := { T := T, G := [(81, Z5a.E), (76, Z6Y.E)], mvs := [], no := 0, n := 18, res := resOf T Zqc ZbB Tryz.f55.results.toList, loops := [], regs := [], conds := [], cuts := [] }
theorem ZBx (k : Nat) : EnvOK Tryz.prog k Ze5.G := (EnvOK.cons (ZzX k) (EnvOK.cons (ZDN k) (EnvOK.nil mixed)))
theorem ZBi (k : Nat) (x : Tup Z5R.ps) : Z5R.f (k + 1) x = fnK Z5R Ze5 ZhM k x := by kernel_rfl
theorem ZAV (x : Tup Z5R.ps) : Z5R.f 0 x = none := by kernel_rfl
theorem ZBB (k : Nat) : LOK Tryz.prog Ze5 k ZhM := LOK.by [] (by kernel_rfl) AllOK.nil
theorem ZBg (k : Nat) : SoundAt Tryz.prog k 55 Z5R.E := @Zk Tryz.prog Z5R Ze5 55 Tryz.f55 ZhM (by kernel_rfl) (by kernel_rfl) (by kernel_rfl) Tryz.func55 (by kernel_rfl) (by kernel_rfl) (by kernel_rfl) T_ok ZBx ZBB ZAV ZBi k
noncomputable def Z7J : List PK := [PK.mk (Ty.int .i64) false none false none]
noncomputable def Ziq : List PK := [PK.mk (Ty.pair (Ty.slice (5 : Nat) (Ty.int .u8)) (Ty.pair (Ty.int .i64) (Ty.int .u64))) false none false (some (82 : Nat)), PK.mk (Ty.int .i64) false none false none]
noncomputable def ZhE (r : Int × Int × Int) : Tup Z7J × OutD := ((r.1, ()), some ⟨Ty.pair (Ty.slice (5 : Nat) (Ty.int .u8)) (Ty.pair (Ty.int .i64) (Ty.int .u64)), [([], r.2)]⟩)
noncomputable def Zcv : Tup Z7J × OutD → Option (Int × Int × Int)
 | (a, some ⟨u, ys⟩) => if h : u = Ty.pair (Ty.slice (5 : Nat) (Ty.int .u8)) (Ty.pair (Ty.int .i64) (Ty.int .u64)) then (match castU h ys with
  | [([], y)] => some (a.1, y)
  | _ => none) else none
 | _ => none
theorem ZnG : ∀ b r, Zcv b = some r → ZhE r = b := by
 rintro ⟨a, o⟩ r h
 cases o with
 | none => cases h
 | some s =>
  obtain ⟨u, ys⟩ := s
  simp only [Zcv] at h
  split at h
  ·rename_i hu
   subst hu
   match ys, h with
   | [], h => cases (show (none : Option _) = some r from h)
   | [([], y)], h => injection (show some _ = some r from h) with h; subst h; rfl
   | [(_ :: _, y)], h => cases (show (none : Option _) = some r from h)
   | (h1, _) :: _ :: _, h => cases h1 <;> cases (show (none : Option _) = some r from h)
  ·cases h
noncomputable def Z8 : Nat → List Int × Int × Int → Int → Option (Int × Int × Int)
 | 0, _, _ => none
 | k + 1, p0, p1 =>
  if decide (p1 ≤ (1 : Int)) = true then some ((0 : Int), Prod.fst p0.2, Prod.snd p0.2) else Option.bind (Z5G k (Prod.fst p0, Prod.fst p0.2, Prod.snd p0.2)) fun z0 => if decide (p1 > (200 : Int)) = true then Option.bind (Z5G k (Prod.fst p0, Prod.fst z0.2, Prod.snd z0.2)) fun z1 => if p1 = (0 : Int) then none else some (Int.tmod (wrap64 (wrap64 (Prod.fst z0 * (256 : Int)) + Prod.fst z1)) p1, Prod.fst z1.2, Prod.snd z1.2) else if p1 = (0 : Int) then none else some (Int.tmod z0.1 p1, Prod.fst z0.2, Prod.snd z0.2)
noncomputable def ZD : FnDef := .of Ziq Z7J (Int × Int × Int) (fun k x => Z8 k x.1 x.2.1) ZhE Zcv ZnG
noncomputable def ZdB : Code := Tryz.f73.body.getD .skip
noncomputable def Zad : Ctx (Tup Z7J × OutD) := { T := T, G := [(107, Z3e.E)], mvs := [], no := 2, n := 20, res := resOf T Ziq Z7J Tryz.f73.results.toList, loops := [], regs := [], conds := [], cuts := [] }
theorem Zvp (k : Nat) : EnvOK Tryz.prog k Zad.G := (EnvOK.cons (Zvx k) (EnvOK.nil mixed))
theorem Zvg (k : Nat) (x : Tup ZD.ps) : ZD.f (k + 1) x = fnK ZD Zad ZdB k x := by kernel_rfl
theorem Zuu (x : Tup ZD.ps) : ZD.f 0 x = none := by kernel_rfl
theorem ZuZ (k : Nat) : LOK Tryz.prog Zad k ZdB := LOK.by [] (by kernel_rfl) AllOK.nil
theorem Z2s (k : Nat) : SoundAt Tryz.prog k 73 ZD.E := @Zk Tryz.prog ZD Zad 73 Tryz.f73 ZdB (by kernel_rfl) (by kernel_rfl) (by kernel_rfl) Tryz.func73 (by kernel_rfl) (by kernel_rfl) (by kernel_rfl) T_ok Zvp ZuZ Zuu Zvg k
noncomputable def ZaD : List PK := [PK.mk Ty.bool false none false none]
noncomputable def Zsr : List PK := [PK.mk (Ty.slice (3 : Nat) (Ty.int .i64)) false none false none, PK.mk (Ty.int .i64) false none false none, PK.mk (Ty.int .i64) false none false none]
noncomputable def Zi8 (r : Bool) : Tup ZaD × OutD := ((r, ()), none)
noncomputable def Zi4 : Tup ZaD × OutD → Option (Bool)
 | (a, none) => some (a.1)
 | _ => none
theorem ZjF : ∀ b r, Zi4 b = some r → Zi8 r = b := by
 rintro ⟨a, o⟩ r h
 cases o with
 | none => injection h with h; subst h; rfl
 | some _ => cases h
noncomputable def Z8m : Nat → Int → Int → List Int → Int → Int → Option (LR Unit Bool)
 | 0, _, _, _, _, _ => none
 | k + 1, v1, v2, v9, v10, v11 =>
  if decide (v11 < v10) = true then if (0 : Int) ≤ v11 then if v11 < (↑(List.length v9) : Int) then Option.bind (Z2L k (List.getD v9 (Int.toNat v11) (0 : Int)) v1 v2) fun z0 => if (!z0) = true then some (LR.ret false) else Z8m k v1 v2 v9 v10 (wrap64 (v11 + (1 : Int))) else none else none else some (LR.go ())
noncomputable def ZfQ : Spec := Spec.mk [OSh.ro] [((1 : Nat), TSh.at (Sh.int .i64)), ((2 : Nat), TSh.at (Sh.int .i64)), ((9 : Nat), TSh.at (Sh.snap (0 : Nat) (Ty.int .i64))), ((10 : Nat), TSh.at (Sh.int .i64)), ((11 : Nat), TSh.at (Sh.int .i64))]
noncomputable def ZyO : Spec := Spec.mk [OSh.ro] []
noncomputable def Z79 : LoopDef (Tup ZaD × OutD) := .rets ZfQ ZyO (Unit) (Bool) (fun k x => Z8m k x.2.1 x.2.2.1 x.2.2.2.1 x.2.2.2.2.1 x.2.2.2.2.2.1) (fun z => (((), ()), (()))) (fun y => ()) (fun _ => rfl) Zi8 Zi4 ZjF
noncomputable def Zf6 : Nat → List Int → Int → Int → Option Bool
 | 0, _, _, _ => none
 | k + 1, p0, p1, p2 =>
  Option.bind (Z8m k p1 p2 p0 (↑(List.length p0) : Int) (0 : Int)) fun z1 => LR.on z1 (fun y1 => some true) fun r1 => some r1
noncomputable def Z71 : FnDef := .of Zsr ZaD (Bool) (fun k x => Zf6 k x.1 x.2.1 x.2.2.1) Zi8 Zi4 ZjF
noncomputable def ZfS : Code := Tryz.f90.body.getD .skip
noncomputable def Z8w : Ctx (Tup ZaD × OutD) := { T := T, G := [(59, Z2K.E)], mvs := [], no := 0, n := 21, res := resOf T Zsr ZaD Tryz.f90.results.toList, loops := [(0, Z79.E)], regs := [], conds := [], cuts := [] }
theorem ZtB (k : Nat) : EnvOK Tryz.prog k Z8w.G := (EnvOK.cons (Za5 k) (EnvOK.nil mixed))
noncomputable def Zcn : Code := (findLoop 0 ZfS).getD .skip
theorem ZyM (k : Nat) (x : ZfQ.D) : Z79.lp (k + 1) x = loopK Z8w Z79 0 Zcn k x := by kernel_rfl
theorem Zzm (k : Nat) : LOK Tryz.prog Z8w k Zcn := LOK.by [] (by kernel_rfl) AllOK.nil
theorem Zzg (x : ZfQ.D) : Z79.lp 0 x = none := by kernel_rfl
theorem Zwe (k : Nat) : EOK Tryz.prog Z8w k Z79.E (.block 0 (.loop Zcn)) := Zr T_ok ZtB Zzg ZyM Zzm k
theorem ZEM (k : Nat) (x : Tup Z71.ps) : Z71.f (k + 1) x = fnK Z71 Z8w ZfS k x := by kernel_rfl
theorem ZDC (x : Tup Z71.ps) : Z71.f 0 x = none := by kernel_rfl
theorem ZEl (k : Nat) : LOK Tryz.prog Z8w k ZfS := LOK.by [(Z79.E, .block 0 (.loop Zcn))] (by kernel_rfl) (AllOK.cons (Zwe k) AllOK.nil)
theorem ZE8 (k : Nat) : SoundAt Tryz.prog k 90 Z71.E := @Zk Tryz.prog Z71 Z8w 90 Tryz.f90 ZfS (by kernel_rfl) (by kernel_rfl) (by kernel_rfl) Tryz.func90 (by kernel_rfl) (by kernel_rfl) (by kernel_rfl) T_ok ZtB ZEl ZDC ZEM k
noncomputable def Zby : List PK := [PK.mk Ty.bool false none false none]
noncomputable def Zqp : List PK := [PK.mk (Ty.pair (Ty.int .i64) (Ty.int .i64)) true none false none, PK.mk (Ty.int .i64) false none false none]
noncomputable def Zoh (r : Bool) : Tup Zby × OutD := ((r, ()), none)
noncomputable def Zof : Tup Zby × OutD → Option (Bool)
 | (a, none) => some (a.1)
 | _ => none
theorem Zvh : ∀ b r, Zof b = some r → Zoh r = b := by
 rintro ⟨a, o⟩ r h
 cases o with
 | none => injection h with h; subst h; rfl
 | some _ => cases h
noncomputable def ZbF : Nat → Int × Int → Int → Option Bool
 | 0, _, _ => none
 | k + 1, p0, p1 =>
  if decide (p1 = (1 : Int)) = true then Option.bind (Z4N k (Prod.fst p0, Prod.snd p0)) fun z0 => some z0 else if decide (p1 = (2 : Int)) = true then some true else if decide (p1 = (3 : Int)) = true then Option.bind (Z4N k (Prod.fst p0, Prod.snd p0)) fun z1 => if z1 = true then some true else if decide (Prod.fst p0 = (1 : Int)) = true then some true else some (decide (Prod.fst p0 = (2 : Int))) else some false
noncomputable def Z4M : FnDef := .of Zqp Zby (Bool) (fun k x => ZbF k x.1 x.2.1) Zoh Zof Zvh
noncomputable def ZhV : Code := Tryz.f103.body.getD .skip
noncomputable def ZdV : Ctx (Tup Zby × OutD) := { T := T, G := [(128, Z26.E)], mvs := [], no := 0, n := 26, res := resOf T Zqp Zby Tryz.f103.results.toList, loops := [], regs := [], conds := [], cuts := [] }
theorem ZAA (k : Nat) : EnvOK Tryz.prog k ZdV.G := (EnvOK.cons (Zex k) (EnvOK.nil mixed))
theorem ZAJ (k : Nat) (x : Tup Z4M.ps) : Z4M.f (k + 1) x = fnK Z4M ZdV ZhV k x := by kernel_rfl
theorem ZBa (x : Tup Z4M.ps) : Z4M.f 0 x = none := by kernel_rfl
theorem ZAS (k : Nat) : LOK Tryz.prog ZdV k ZhV := LOK.by [] (by kernel_rfl) AllOK.nil
theorem Zqe (k : Nat) : SoundAt Tryz.prog k 103 Z4M.E := @Zk Tryz.prog Z4M ZdV 103 Tryz.f103 ZhV (by kernel_rfl) (by kernel_rfl) (by kernel_rfl) Tryz.func103 (by kernel_rfl) (by kernel_rfl) (by kernel_rfl) T_ok ZAA ZAS ZBa ZAJ k
noncomputable def Z5A : List PK := [PK.mk Ty.bool false none false none]
noncomputable def Zij : List PK := [PK.mk (Ty.slice (122 : Nat) (Ty.pair (Ty.int .i64) (Ty.int .i64))) false none false none]
noncomputable def ZcF (r : Bool) : Tup Z5A × OutD := ((r, ()), none)
noncomputable def ZcE : Tup Z5A × OutD → Option (Bool)
 | (a, none) => some (a.1)
 | _ => none
theorem ZeG : ∀ b r, ZcE b = some r → ZcF r = b := by
 rintro ⟨a, o⟩ r h
 cases o with
 | none => injection h with h; subst h; rfl
 | some _ => cases h
noncomputable def Z4v : Nat → List (Int × Int) → Int → Int → Option (LR Unit Bool)
 | 0, _, _, _ => none
 | k + 1, v8, v9, v10 =>
  if decide (v10 < v9) = true then if (0 : Int) ≤ v10 then if v10 < (↑(List.length v8) : Int) then Option.bind (Z9l k (Prod.fst (List.getD v8 (Int.toNat v10) ((0 : Int), (0 : Int))), Prod.snd (List.getD v8 (Int.toNat v10) ((0 : Int), (0 : Int))))) fun z0 => if (!z0) = true then some (LR.ret false) else Z4v k v8 v9 (wrap64 (v10 + (1 : Int))) else none else none else some (LR.go ())
noncomputable def Zbi : Spec := Spec.mk [OSh.ro] [((8 : Nat), TSh.at (Sh.snap (0 : Nat) (Ty.pair (Ty.int .i64) (Ty.int .i64)))), ((9 : Nat), TSh.at (Sh.int .i64)), ((10 : Nat), TSh.at (Sh.int .i64))]
noncomputable def Zp2 : Spec := Spec.mk [OSh.ro] []
noncomputable def Z3Y : LoopDef (Tup Z5A × OutD) := .rets Zbi Zp2 (Unit) (Bool) (fun k x => Z4v k x.2.1 x.2.2.1 x.2.2.2.1) (fun z => (((), ()), (()))) (fun y => ()) (fun _ => rfl) ZcF ZcE ZeG
noncomputable def Zae : Nat → List (Int × Int) → Option Bool
 | 0, _ => none
 | k + 1, p0 =>
  if decide ((↑(List.length p0) : Int) > (90 : Int)) = true then some false else Option.bind (Z4v k p0 (↑(List.length p0) : Int) (0 : Int)) fun z1 => LR.on z1 (fun y1 => some true) fun r1 => some r1
noncomputable def Z39 : FnDef := .of Zij Z5A (Bool) (fun k x => Zae k x.1) ZcF ZcE ZeG
noncomputable def Zam : Code := Tryz.f109.body.getD .skip
noncomputable def Z4b : Ctx (Tup Z5A × OutD) := { T := T, G := [(130, Z3J.E)], mvs := [], no := 0, n := 18, res := resOf T Zij Z5A Tryz.f109.results.toList, loops := [(0, Z3Y.E)], regs := [], conds := [], cuts := [] }
theorem ZiT (k : Nat) : EnvOK Tryz.prog k Z4b.G := (EnvOK.cons (Zi9 k) (EnvOK.nil mixed))
noncomputable def Z82 : Code := (findLoop 0 Zam).getD .skip
theorem Zp6 (k : Nat) (x : Zbi.D) : Z3Y.lp (k + 1) x = loopK Z4b Z3Y 0 Z82 k x := by kernel_rfl
theorem Zpq (k : Nat) : LOK Tryz.prog Z4b k Z82 := LOK.by [] (by kernel_rfl) AllOK.nil
theorem Zpx (x : Zbi.D) : Z3Y.lp 0 x = none := by kernel_rfl
theorem ZnQ (k : Nat) : EOK Tryz.prog Z4b k Z3Y.E (.block 0 (.loop Z82)) := Zr T_ok ZiT Zpx Zp6 Zpq k
theorem Zvl (k : Nat) (x : Tup Z39.ps) : Z39.f (k + 1) x = fnK Z39 Z4b Zam k x := by kernel_rfl
theorem Zuc (x : Tup Z39.ps) : Z39.f 0 x = none := by kernel_rfl
theorem ZuD (k : Nat) : LOK Tryz.prog Z4b k Zam := LOK.by [(Z3Y.E, .block 0 (.loop Z82))] (by kernel_rfl) (AllOK.cons (ZnQ k) AllOK.nil)
theorem Zuo (k : Nat) : SoundAt Tryz.prog k 109 Z39.E := @Zk Tryz.prog Z39 Z4b 109 Tryz.f109 Zam (by kernel_rfl) (by kernel_rfl) (by kernel_rfl) Tryz.func109 (by kernel_rfl) (by kernel_rfl) (by kernel_rfl) T_ok ZiT ZuD Zuc Zvl k
noncomputable def ZbC : List PK := [PK.mk Ty.bool false none false none]
noncomputable def Zqq : List PK := [PK.mk (Ty.pair (Ty.int .i64) (Ty.int .i64)) true none false none]
noncomputable def ZoN (r : Bool) : Tup ZbC × OutD := ((r, ()), none)
noncomputable def Zoc : Tup ZbC × OutD → Option (Bool)
 | (a, none) => some (a.1)
 | _ => none
theorem Zug : ∀ b r, Zoc b = some r → ZoN r = b := by
 rintro ⟨a, o⟩ r h
 cases o with
 | none => injection h with h; subst h; rfl
 | some _ => cases h
noncomputable def Ze2 : Nat → Int × Int → Option Bool
 | 0, _ => none
 | k + 1, p0 =>
  Option.bind (Z2L k p0.1 (0 : Int) (7 : Int)) fun z0 => if z0 = true then if decide (Prod.snd p0 = (0 : Int)) = true then some true else if decide (Prod.snd p0 = (1 : Int)) = true then Option.bind (Z4N k (Prod.fst p0, Prod.snd p0)) fun z1 => some z1 else some false else some false
noncomputable def Z5V : FnDef := .of Zqq ZbC (Bool) (fun k x => Ze2 k x.1) ZoN Zoc Zug
noncomputable def ZhU : Code := Tryz.f110.body.getD .skip
noncomputable def Zea : Ctx (Tup ZbC × OutD) := { T := T, G := [(59, Z2K.E), (128, Z26.E)], mvs := [], no := 0, n := 20, res := resOf T Zqq ZbC Tryz.f110.results.toList, loops := [], regs := [], conds := [], cuts := [] }
theorem ZBd (k : Nat) : EnvOK Tryz.prog k Zea.G := (EnvOK.cons (Za5 k) (EnvOK.cons (Zex k) (EnvOK.nil mixed)))
theorem ZAK (k : Nat) (x : Tup Z5V.ps) : Z5V.f (k + 1) x = fnK Z5V Zea ZhU k x := by kernel_rfl
theorem ZBo (x : Tup Z5V.ps) : Z5V.f 0 x = none := by kernel_rfl
theorem ZAF (k : Nat) : LOK Tryz.prog Zea k ZhU := LOK.by [] (by kernel_rfl) AllOK.nil
theorem ZAT (k : Nat) : SoundAt Tryz.prog k 110 Z5V.E := @Zk Tryz.prog Z5V Zea 110 Tryz.f110 ZhU (by kernel_rfl) (by kernel_rfl) (by kernel_rfl) Tryz.func110 (by kernel_rfl) (by kernel_rfl) (by kernel_rfl) T_ok ZBd ZAF ZBo ZAK k
noncomputable def Z3p : List PK := [PK.mk (Ty.slice (3 : Nat) (Ty.int .i64)) false none false none]
noncomputable def ZlK : List PK := [PK.mk (Ty.pair (Ty.int .i64) (Ty.pair (Ty.int .i64) (Ty.slice (122 : Nat) (Ty.pair (Ty.int .i64) (Ty.int .i64))))) true none false none]
noncomputable def ZjV (r : List Int) : Tup Z3p × OutD := ((r, ()), none)
noncomputable def ZjN : Tup Z3p × OutD → Option (List Int)
 | (a, none) => some (a.1)
 | _ => none
theorem Zr6 : ∀ b r, ZjN b = some r → ZjV r = b := by
 rintro ⟨a, o⟩ r h
 cases o with
 | none => injection h with h; subst h; rfl
 | some _ => cases h
noncomputable def Z5H : Nat → Int → Int → List (Int × Int) → List Int → Int → Int → Option (Int × Int × List (Int × Int) × List Int)
 | 0, _, _, _, _, _, _ => none
 | k + 1, b1_0, b1_1, b1_2, o2, v17, v18 =>
  if decide (v18 < v17) = true then if (0 : Int) ≤ v18 then if v18 < (↑(List.length o2) : Int) then Z5H k b1_0 b1_1 b1_2 (List.set o2 (Int.toNat v18) (-1 : Int)) v17 (wrap64 (v18 + (1 : Int))) else none else none else some (b1_0, b1_1, b1_2, o2)
noncomputable def ZcJ : Spec := Spec.mk [OSh.ro, OSh.box (26 : Nat) [Sh.int .i64, Sh.int .i64, Sh.snap (0 : Nat) (Ty.pair (Ty.int .i64) (Ty.int .i64))], OSh.row true (3 : Nat) (Ty.int .i64)] [((1 : Nat), TSh.at (Sh.ptr (1 : Nat) (0 : Nat))), ((3 : Nat), TSh.at (Sh.sl (2 : Nat))), ((17 : Nat), TSh.at (Sh.int .i64)), ((18 : Nat), TSh.at (Sh.int .i64))]
noncomputable def Ztb : Spec := Spec.mk [OSh.ro, OSh.box (26 : Nat) [Sh.int .i64, Sh.int .i64, Sh.snap (0 : Nat) (Ty.pair (Ty.int .i64) (Ty.int .i64))], OSh.row true (3 : Nat) (Ty.int .i64)] [((1 : Nat), TSh.at (Sh.ptr (1 : Nat) (0 : Nat))), ((3 : Nat), TSh.at (Sh.sl (2 : Nat)))]
noncomputable def Z56 : LoopDef (Tup Z3p × OutD) := .plain ZcJ Ztb (Int × Int × List (Int × Int) × List Int) (fun k x => Z5H k x.1.2.1.1 x.1.2.1.2.1 x.1.2.1.2.2.1 x.1.2.2.1 x.2.2.2.1 x.2.2.2.2.1) (fun z => (((), (z.1, z.2.1, z.2.2.1, ()), z.2.2.2, ()), ((), (), ()))) (fun y => (y.1.2.1.1, y.1.2.1.2.1, y.1.2.1.2.2.1, y.1.2.2.1)) (fun _ => rfl)
noncomputable def Z3b : Nat → Int → Int → List (Int × Int) → List Int → List Int → List Int → Int → Int → List (Int × Int) → Int → Int → Int → Int → Option (Int × Int × List (Int × Int) × List Int × List Int × Int × Int × List (Int × Int) × Int × Int)
 | 0, _, _, _, _, _, _, _, _, _, _, _, _, _ => none
 | k + 1, b1_0, b1_1, b1_2, o2, o3, o4, v5, v9, v26, v27, v28, v61, v62 =>
  if decide (v62 < v61) = true then if (0 : Int) ≤ v62 then if v62 < (↑(List.length o4) : Int) then if (0 : Int) ≤ List.getD o4 (Int.toNat v62) (0 : Int) then if List.getD o4 (Int.toNat v62) (0 : Int) < (↑(List.length b1_2) : Int) then Option.bind (ZbJ k (Prod.fst (List.getD b1_2 (Int.toNat (List.getD o4 (Int.toNat v62) (0 : Int))) ((0 : Int), (0 : Int))), Prod.snd (List.getD b1_2 (Int.toNat (List.getD o4 (Int.toNat v62) (0 : Int))) ((0 : Int), (0 : Int))))) fun z3 => if z3 = true then if (0 : Int) ≤ List.getD o4 (Int.toNat v62) (0 : Int) then if List.getD o4 (Int.toNat v62) (0 : Int) < (↑(List.length o2) : Int) then if decide (List.getD o2 (Int.toNat (List.getD o4 (Int.toNat v62) (0 : Int))) (0 : Int) < (0 : Int)) = true then if (0 : Int) ≤ List.getD o4 (Int.toNat v62) (0 : Int) then if List.getD o4 (Int.toNat v62) (0 : Int) < (↑(List.length o2) : Int) then if List.length o3 + List.length [List.getD o4 (Int.toNat v62) (0 : Int)] ≤ (140737488355328 / 8 : Nat) then Z3b k b1_0 b1_1 b1_2 (List.set o2 (Int.toNat (List.getD o4 (Int.toNat v62) (0 : Int))) v5) (o3 ++ [List.getD o4 (Int.toNat v62) (0 : Int)]) o4 v5 v9 v26 v27 v28 v61 (wrap64 (v62 + (1 : Int))) else none else none else none else Z3b k b1_0 b1_1 b1_2 o2 o3 o4 v5 v9 v26 v27 v28 v61 (wrap64 (v62 + (1 : Int))) else none else none else Z3b k b1_0 b1_1 b1_2 o2 o3 o4 v5 v9 v26 v27 v28 v61 (wrap64 (v62 + (1 : Int))) else none else none else none else none else some (b1_0, b1_1, b1_2, o2, o3, v5, v9, v26, v27, v28)
noncomputable def ZcO : Spec := Spec.mk [OSh.ro, OSh.box (26 : Nat) [Sh.int .i64, Sh.int .i64, Sh.snap (0 : Nat) (Ty.pair (Ty.int .i64) (Ty.int .i64))], OSh.row true (3 : Nat) (Ty.int .i64), OSh.row true (3 : Nat) (Ty.int .i64), OSh.row true (3 : Nat) (Ty.int .i64)] [((1 : Nat), TSh.at (Sh.ptr (1 : Nat) (0 : Nat))), ((3 : Nat), TSh.at (Sh.sl (2 : Nat))), ((5 : Nat), TSh.at (Sh.int .i64)), ((8 : Nat), TSh.at (Sh.sl (3 : Nat))), ((9 : Nat), TSh.at (Sh.int .i64)), ((26 : Nat), TSh.at (Sh.snap (0 : Nat) (Ty.pair (Ty.int .i64) (Ty.int .i64)))), ((27 : Nat), TSh.at (Sh.int .i64)), ((28 : Nat), TSh.at (Sh.int .i64)), ((60 : Nat), TSh.at (Sh.sl (4 : Nat))), ((61 : Nat), TSh.at (Sh.int .i64)), ((62 : Nat), TSh.at (Sh.int .i64))]
noncomputable def ZtX : Spec := Spec.mk [OSh.ro, OSh.box (26 : Nat) [Sh.int .i64, Sh.int .i64, Sh.snap (0 : Nat) (Ty.pair (Ty.int .i64) (Ty.int .i64))], OSh.row true (3 : Nat) (Ty.int .i64), OSh.row true (3 : Nat) (Ty.int .i64)] [((1 : Nat), TSh.at (Sh.ptr (1 : Nat) (0 : Nat))), ((3 : Nat), TSh.at (Sh.sl (2 : Nat))), ((5 : Nat), TSh.at (Sh.int .i64)), ((8 : Nat), TSh.at (Sh.sl (3 : Nat))), ((9 : Nat), TSh.at (Sh.int .i64)), ((26 : Nat), TSh.at (Sh.snap (0 : Nat) (Ty.pair (Ty.int .i64) (Ty.int .i64)))), ((27 : Nat), TSh.at (Sh.int .i64)), ((28 : Nat), TSh.at (Sh.int .i64))]
noncomputable def Z59 : LoopDef (Tup Z3p × OutD) := .plain ZcO ZtX (Int × Int × List (Int × Int) × List Int × List Int × Int × Int × List (Int × Int) × Int × Int) (fun k x => Z3b k x.1.2.1.1 x.1.2.1.2.1 x.1.2.1.2.2.1 x.1.2.2.1 x.1.2.2.2.1 x.1.2.2.2.2.1 x.2.2.2.1 x.2.2.2.2.2.1 x.2.2.2.2.2.2.1 x.2.2.2.2.2.2.2.1 x.2.2.2.2.2.2.2.2.1 x.2.2.2.2.2.2.2.2.2.2.1 x.2.2.2.2.2.2.2.2.2.2.2.1) (fun z => (((), (z.1, z.2.1, z.2.2.1, ()), z.2.2.2.1, z.2.2.2.2.1, ()), ((), (), z.2.2.2.2.2.1, (), z.2.2.2.2.2.2.1, z.2.2.2.2.2.2.2.1, z.2.2.2.2.2.2.2.2.1, z.2.2.2.2.2.2.2.2.2, ()))) (fun y => (y.1.2.1.1, y.1.2.1.2.1, y.1.2.1.2.2.1, y.1.2.2.1, y.1.2.2.2.1, y.2.2.2.1, y.2.2.2.2.2.1, y.2.2.2.2.2.2.1, y.2.2.2.2.2.2.2.1, y.2.2.2.2.2.2.2.2.1)) (fun _ => rfl)
noncomputable def Z49 : Nat → Int → Int → List (Int × Int) → List Int → List Int → Int → Int → List (Int × Int) → Int → Int → Option (Int × Int × List (Int × Int) × List Int × Int × List (Int × Int) × Int × Int)
 | 0, _, _, _, _, _, _, _, _, _, _ => none
 | k + 1, b1_0, b1_1, b1_2, o2, o3, v5, v9, v26, v27, v28 =>
  if decide (v9 < (↑(List.length o3) : Int)) = true then if (0 : Int) ≤ v9 then if v9 < (↑(List.length o3) : Int) then Option.bind (Ze1 k (b1_0, b1_1, b1_2) (List.getD o3 (Int.toNat v9) (0 : Int))) fun z2 => Option.bind (Z3b k b1_0 b1_1 b1_2 o2 o3 z2 v5 v9 v26 v27 v28 (↑(List.length z2) : Int) (0 : Int)) fun z4 => Z49 k z4.1 z4.2.1 z4.2.2.1 z4.2.2.2.1 z4.2.2.2.2.1 z4.2.2.2.2.2.1 (wrap64 (Prod.fst z4.2.2.2.2.2.2 + (1 : Int))) z4.2.2.2.2.2.2.2.1 z4.2.2.2.2.2.2.2.2.1 z4.2.2.2.2.2.2.2.2.2 else none else none else some (b1_0, b1_1, b1_2, o2, v5, v26, v27, v28)
noncomputable def ZcH : Spec := Spec.mk [OSh.ro, OSh.box (26 : Nat) [Sh.int .i64, Sh.int .i64, Sh.snap (0 : Nat) (Ty.pair (Ty.int .i64) (Ty.int .i64))], OSh.row true (3 : Nat) (Ty.int .i64), OSh.row true (3 : Nat) (Ty.int .i64)] [((1 : Nat), TSh.at (Sh.ptr (1 : Nat) (0 : Nat))), ((3 : Nat), TSh.at (Sh.sl (2 : Nat))), ((5 : Nat), TSh.at (Sh.int .i64)), ((8 : Nat), TSh.at (Sh.sl (3 : Nat))), ((9 : Nat), TSh.at (Sh.int .i64)), ((26 : Nat), TSh.at (Sh.snap (0 : Nat) (Ty.pair (Ty.int .i64) (Ty.int .i64)))), ((27 : Nat), TSh.at (Sh.int .i64)), ((28 : Nat), TSh.at (Sh.int .i64))]
noncomputable def ZsR : Spec := Spec.mk [OSh.ro, OSh.box (26 : Nat) [Sh.int .i64, Sh.int .i64, Sh.snap (0 : Nat) (Ty.pair (Ty.int .i64) (Ty.int .i64))], OSh.row true (3 : Nat) (Ty.int .i64)] [((1 : Nat), TSh.at (Sh.ptr (1 : Nat) (0 : Nat))), ((3 : Nat), TSh.at (Sh.sl (2 : Nat))), ((5 : Nat), TSh.at (Sh.int .i64)), ((26 : Nat), TSh.at (Sh.snap (0 : Nat) (Ty.pair (Ty.int .i64) (Ty.int .i64)))), ((27 : Nat), TSh.at (Sh.int .i64)), ((28 : Nat), TSh.at (Sh.int .i64))]
noncomputable def Z4U : LoopDef (Tup Z3p × OutD) := .plain ZcH ZsR (Int × Int × List (Int × Int) × List Int × Int × List (Int × Int) × Int × Int) (fun k x => Z49 k x.1.2.1.1 x.1.2.1.2.1 x.1.2.1.2.2.1 x.1.2.2.1 x.1.2.2.2.1 x.2.2.2.1 x.2.2.2.2.2.1 x.2.2.2.2.2.2.1 x.2.2.2.2.2.2.2.1 x.2.2.2.2.2.2.2.2.1) (fun z => (((), (z.1, z.2.1, z.2.2.1, ()), z.2.2.2.1, ()), ((), (), z.2.2.2.2.1, z.2.2.2.2.2.1, z.2.2.2.2.2.2.1, z.2.2.2.2.2.2.2, ()))) (fun y => (y.1.2.1.1, y.1.2.1.2.1, y.1.2.1.2.2.1, y.1.2.2.1, y.2.2.2.1, y.2.2.2.2.1, y.2.2.2.2.2.1, y.2.2.2.2.2.2.1)) (fun _ => rfl)
noncomputable def Z2u : Nat → Int → Int → List (Int × Int) → List Int → Int → List (Int × Int) → Int → Int → Option (List Int)
 | 0, _, _, _, _, _, _, _, _ => none
 | k + 1, b1_0, b1_1, b1_2, o2, v5, v26, v27, v28 =>
  if decide (v28 < v27) = true then if (0 : Int) ≤ v28 then if v28 < (↑(List.length v26) : Int) then Option.bind (ZbJ k (Prod.fst (List.getD v26 (Int.toNat v28) ((0 : Int), (0 : Int))), Prod.snd (List.getD v26 (Int.toNat v28) ((0 : Int), (0 : Int))))) fun z1 => if (!z1) = true then Z2u k b1_0 b1_1 b1_2 o2 v5 v26 v27 (wrap64 (v28 + (1 : Int))) else if (0 : Int) ≤ v28 then if v28 < (↑(List.length o2) : Int) then if decide (List.getD o2 (Int.toNat v28) (0 : Int) ≥ (0 : Int)) = true then Z2u k b1_0 b1_1 b1_2 o2 v5 v26 v27 (wrap64 (v28 + (1 : Int))) else if (0 : Int) ≤ v28 then if v28 < (↑(List.length o2) : Int) then Option.bind (Z49 k b1_0 b1_1 b1_2 (List.set o2 (Int.toNat v28) v5) [v28] v5 (0 : Int) v26 v27 v28) fun z5 => Z2u k z5.1 z5.2.1 z5.2.2.1 z5.2.2.2.1 (wrap64 (Prod.fst z5.2.2.2.2 + (1 : Int))) z5.2.2.2.2.2.1 z5.2.2.2.2.2.2.1 (wrap64 (Prod.snd z5.2.2.2.2.2.2 + (1 : Int))) else none else none else none else none else none else none else some o2
noncomputable def ZcQ : Spec := Spec.mk [OSh.ro, OSh.box (26 : Nat) [Sh.int .i64, Sh.int .i64, Sh.snap (0 : Nat) (Ty.pair (Ty.int .i64) (Ty.int .i64))], OSh.row true (3 : Nat) (Ty.int .i64)] [((1 : Nat), TSh.at (Sh.ptr (1 : Nat) (0 : Nat))), ((3 : Nat), TSh.at (Sh.sl (2 : Nat))), ((5 : Nat), TSh.at (Sh.int .i64)), ((26 : Nat), TSh.at (Sh.snap (0 : Nat) (Ty.pair (Ty.int .i64) (Ty.int .i64)))), ((27 : Nat), TSh.at (Sh.int .i64)), ((28 : Nat), TSh.at (Sh.int .i64))]
noncomputable def ZsK : Spec := Spec.mk [OSh.ro, OSh.row true (3 : Nat) (Ty.int .i64)] [((3 : Nat), TSh.at (Sh.sl (1 : Nat)))]
noncomputable def Z4X : LoopDef (Tup Z3p × OutD) := .plain ZcQ ZsK (List Int) (fun k x => Z2u k x.1.2.1.1 x.1.2.1.2.1 x.1.2.1.2.2.1 x.1.2.2.1 x.2.2.2.1 x.2.2.2.2.1 x.2.2.2.2.2.1 x.2.2.2.2.2.2.1) (fun z => (((), z, ()), ((), ()))) (fun y => (y.1.2.1)) (fun _ => rfl)
noncomputable def Z5h : Nat → Int × Int × List (Int × Int) → Option (List Int)
 | 0, _ => none
 | k + 1, p0 =>
  if Int.toNat (↑(List.length p0.2.2) : Int) * (8 : Nat) ≤ (281474976710656 : Nat) then Option.bind (Z5H k p0.1 p0.2.1 p0.2.2 (List.replicate (Int.toNat (↑(List.length p0.2.2) : Int)) (0 : Int)) (↑(List.length (List.replicate (Int.toNat (↑(List.length p0.2.2) : Int)) (0 : Int))) : Int) (0 : Int)) fun z0 => Option.bind (Z2u k z0.1 z0.2.1 z0.2.2.1 z0.2.2.2 (0 : Int) z0.2.2.1 (↑(List.length z0.2.2.1) : Int) (0 : Int)) fun z6 => some z6 else none
noncomputable def Z4o : FnDef := .of ZlK Z3p (List Int) (fun k x => Z5h k x.1) ZjV ZjN Zr6
noncomputable def Z5u : Code := Tryz.f112.body.getD .skip
noncomputable def ZQ : Ctx (Tup Z3p × OutD) := { T := T, G := [(131, Z5M.E), (132, Z5T.E)], mvs := [], no := 0, n := 92, res := resOf T ZlK Z3p Tryz.f112.results.toList, loops := [(0, Z56.E), (6, Z59.E), (4, Z4U.E), (2, Z4X.E)], regs := [], conds := [], cuts := [] }
theorem Z9u (k : Nat) : EnvOK Tryz.prog k ZQ.G := (EnvOK.cons (ZBn k) (EnvOK.cons (ZBw k) (EnvOK.nil mixed)))
noncomputable def Z9B : Code := (findLoop 0 Z5u).getD .skip
theorem ZsW (k : Nat) (x : ZcJ.D) : Z56.lp (k + 1) x = loopK ZQ Z56 0 Z9B k x := by kernel_rfl
theorem Ztw (k : Nat) : LOK Tryz.prog ZQ k Z9B := LOK.by [] (by kernel_rfl) AllOK.nil
theorem Ztl (x : ZcJ.D) : Z56.lp 0 x = none := by kernel_rfl
theorem Zsh (k : Nat) : EOK Tryz.prog ZQ k Z56.E (.block 0 (.loop Z9B)) := Zr T_ok Z9u Ztl ZsW Ztw k
noncomputable def Z9r : Code := (findLoop 6 Z5u).getD .skip
theorem Zta (k : Nat) (x : ZcO.D) : Z59.lp (k + 1) x = loopK ZQ Z59 6 Z9r k x := by kernel_rfl
theorem Ztk (k : Nat) : LOK Tryz.prog ZQ k Z9r := LOK.by [] (by kernel_rfl) AllOK.nil
theorem ZtK (x : ZcO.D) : Z59.lp 0 x = none := by kernel_rfl
theorem Zsc (k : Nat) : EOK Tryz.prog ZQ k Z59.E (.block 6 (.loop Z9r)) := Zr T_ok Z9u ZtK Zta Ztk k
noncomputable def Z9I : Code := (findLoop 4 Z5u).getD .skip
theorem Zso (k : Nat) (x : ZcH.D) : Z4U.lp (k + 1) x = loopK ZQ Z4U 4 Z9I k x := by kernel_rfl
theorem Ztu (k : Nat) : LOK Tryz.prog ZQ k Z9I := LOK.by [(Z59.E, .block 6 (.loop Z9r))] (by kernel_rfl) (AllOK.cons (Zsc k) AllOK.nil)
theorem ZsC (x : ZcH.D) : Z4U.lp 0 x = none := by kernel_rfl
theorem ZrX (k : Nat) : EOK Tryz.prog ZQ k Z4U.E (.block 4 (.loop Z9I)) := Zr T_ok Z9u ZsC Zso Ztu k
noncomputable def Z9N : Code := (findLoop 2 Z5u).getD .skip
theorem Zt3 (k : Nat) (x : ZcQ.D) : Z4X.lp (k + 1) x = loopK ZQ Z4X 2 Z9N k x := by kernel_rfl
theorem ZtS (k : Nat) : LOK Tryz.prog ZQ k Z9N := LOK.by [(Z4U.E, .block 4 (.loop Z9I))] (by kernel_rfl) (AllOK.cons (ZrX k) AllOK.nil)
theorem Zsp (x : ZcQ.D) : Z4X.lp 0 x = none := by kernel_rfl
theorem Zrk (k : Nat) : EOK Tryz.prog ZQ k Z4X.E (.block 2 (.loop Z9N)) := Zr T_ok Z9u Zsp Zt3 ZtS k
theorem ZyF (k : Nat) (x : Tup Z4o.ps) : Z4o.f (k + 1) x = fnK Z4o ZQ Z5u k x := by kernel_rfl
theorem Zxx (x : Tup Z4o.ps) : Z4o.f 0 x = none := by kernel_rfl
theorem Zzf (k : Nat) : LOK Tryz.prog ZQ k Z5u := LOK.by [(Z56.E, .block 0 (.loop Z9B)), (Z4X.E, .block 2 (.loop Z9N))] (by kernel_rfl) (AllOK.cons (Zsh k) (AllOK.cons (Zrk k) AllOK.nil))
theorem Zxq (k : Nat) : SoundAt Tryz.prog k 112 Z4o.E := @Zk Tryz.prog Z4o ZQ 112 Tryz.f112 Z5u (by kernel_rfl) (by kernel_rfl) (by kernel_rfl) Tryz.func112 (by kernel_rfl) (by kernel_rfl) (by kernel_rfl) T_ok Z9u Zzf Zxx ZyF k
noncomputable def Z1H : List PK := [PK.mk (Ty.slice (3 : Nat) (Ty.int .i64)) false none false none]
noncomputable def Zgz : List PK := [PK.mk (Ty.pair (Ty.int .i64) (Ty.pair (Ty.int .i64) (Ty.slice (122 : Nat) (Ty.pair (Ty.int .i64) (Ty.int .i64))))) true none false none]
noncomputable def Zfz (r : List Int) : Tup Z1H × OutD := ((r, ()), none)
noncomputable def Zfo : Tup Z1H × OutD → Option (List Int)
 | (a, none) => some (a.1)
 | _ => none
theorem Zl3 : ∀ b r, Zfo b = some r → Zfz r = b := by
 rintro ⟨a, o⟩ r h
 cases o with
 | none => injection h with h; subst h; rfl
 | some _ => cases h
noncomputable def Z3C : Nat → Int → Int → List (Int × Int) → List Int → Int → Int → Option (Int × Int × List (Int × Int) × List Int)
 | 0, _, _, _, _, _, _ => none
 | k + 1, b1_0, b1_1, b1_2, o2, v17, v18 =>
  if decide (v18 < v17) = true then if (0 : Int) ≤ v18 then if v18 < (↑(List.length o2) : Int) then Z3C k b1_0 b1_1 b1_2 (List.set o2 (Int.toNat v18) (-1 : Int)) v17 (wrap64 (v18 + (1 : Int))) else none else none else some (b1_0, b1_1, b1_2, o2)
noncomputable def Za2 : Spec := Spec.mk [OSh.ro, OSh.box (26 : Nat) [Sh.int .i64, Sh.int .i64, Sh.snap (0 : Nat) (Ty.pair (Ty.int .i64) (Ty.int .i64))], OSh.row true (3 : Nat) (Ty.int .i64)] [((1 : Nat), TSh.at (Sh.ptr (1 : Nat) (0 : Nat))), ((3 : Nat), TSh.at (Sh.sl (2 : Nat))), ((17 : Nat), TSh.at (Sh.int .i64)), ((18 : Nat), TSh.at (Sh.int .i64))]
noncomputable def Zmj : Spec := Spec.mk [OSh.ro, OSh.box (26 : Nat) [Sh.int .i64, Sh.int .i64, Sh.snap (0 : Nat) (Ty.pair (Ty.int .i64) (Ty.int .i64))], OSh.row true (3 : Nat) (Ty.int .i64)] [((1 : Nat), TSh.at (Sh.ptr (1 : Nat) (0 : Nat))), ((3 : Nat), TSh.at (Sh.sl (2 : Nat)))]
noncomputable def Z33 : LoopDef (Tup Z1H × OutD) := .plain Za2 Zmj (Int × Int × List (Int × Int) × List Int) (fun k x => Z3C k x.1.2.1.1 x.1.2.1.2.1 x.1.2.1.2.2.1 x.1.2.2.1 x.2.2.2.1 x.2.2.2.2.1) (fun z => (((), (z.1, z.2.1, z.2.2.1, ()), z.2.2.2, ()), ((), (), ()))) (fun y => (y.1.2.1.1, y.1.2.1.2.1, y.1.2.1.2.2.1, y.1.2.2.1)) (fun _ => rfl)
noncomputable def Z1R : Nat → Int → Int → List (Int × Int) → List Int → List Int → List Int → Int → List (Int × Int) → Int → Int → Int → Int → Option (Int × Int × List (Int × Int) × List Int × List Int × Int × List (Int × Int) × Int × Int)
 | 0, _, _, _, _, _, _, _, _, _, _, _, _ => none
 | k + 1, b1_0, b1_1, b1_2, o2, o3, o4, v5, v26, v27, v28, v60, v61 =>
  if decide (v61 < v60) = true then if (0 : Int) ≤ v61 then if v61 < (↑(List.length o4) : Int) then if (0 : Int) ≤ List.getD o4 (Int.toNat v61) (0 : Int) then if List.getD o4 (Int.toNat v61) (0 : Int) < (↑(List.length b1_2) : Int) then Option.bind (Z9x k (Prod.fst (List.getD b1_2 (Int.toNat (List.getD o4 (Int.toNat v61) (0 : Int))) ((0 : Int), (0 : Int))), Prod.snd (List.getD b1_2 (Int.toNat (List.getD o4 (Int.toNat v61) (0 : Int))) ((0 : Int), (0 : Int))))) fun z3 => if z3 = true then if (0 : Int) ≤ List.getD o4 (Int.toNat v61) (0 : Int) then if List.getD o4 (Int.toNat v61) (0 : Int) < (↑(List.length o2) : Int) then if decide (List.getD o2 (Int.toNat (List.getD o4 (Int.toNat v61) (0 : Int))) (0 : Int) < (0 : Int)) = true then if (0 : Int) ≤ List.getD o4 (Int.toNat v61) (0 : Int) then if List.getD o4 (Int.toNat v61) (0 : Int) < (↑(List.length o2) : Int) then if List.length o3 + List.length [List.getD o4 (Int.toNat v61) (0 : Int)] ≤ (140737488355328 / 8 : Nat) then Z1R k b1_0 b1_1 b1_2 (List.set o2 (Int.toNat (List.getD o4 (Int.toNat v61) (0 : Int))) v5) (o3 ++ [List.getD o4 (Int.toNat v61) (0 : Int)]) o4 v5 v26 v27 v28 v60 (wrap64 (v61 + (1 : Int))) else none else none else none else Z1R k b1_0 b1_1 b1_2 o2 o3 o4 v5 v26 v27 v28 v60 (wrap64 (v61 + (1 : Int))) else none else none else Z1R k b1_0 b1_1 b1_2 o2 o3 o4 v5 v26 v27 v28 v60 (wrap64 (v61 + (1 : Int))) else none else none else none else none else some (b1_0, b1_1, b1_2, o2, o3, v5, v26, v27, v28)
noncomputable def Z9W : Spec := Spec.mk [OSh.ro, OSh.box (26 : Nat) [Sh.int .i64, Sh.int .i64, Sh.snap (0 : Nat) (Ty.pair (Ty.int .i64) (Ty.int .i64))], OSh.row true (3 : Nat) (Ty.int .i64), OSh.row true (3 : Nat) (Ty.int .i64), OSh.row true (3 : Nat) (Ty.int .i64)] [((1 : Nat), TSh.at (Sh.ptr (1 : Nat) (0 : Nat))), ((3 : Nat), TSh.at (Sh.sl (2 : Nat))), ((5 : Nat), TSh.at (Sh.int .i64)), ((8 : Nat), TSh.at (Sh.sl (3 : Nat))), ((26 : Nat), TSh.at (Sh.snap (0 : Nat) (Ty.pair (Ty.int .i64) (Ty.int .i64)))), ((27 : Nat), TSh.at (Sh.int .i64)), ((28 : Nat), TSh.at (Sh.int .i64)), ((59 : Nat), TSh.at (Sh.sl (4 : Nat))), ((60 : Nat), TSh.at (Sh.int .i64)), ((61 : Nat), TSh.at (Sh.int .i64))]
noncomputable def Zmd : Spec := Spec.mk [OSh.ro, OSh.box (26 : Nat) [Sh.int .i64, Sh.int .i64, Sh.snap (0 : Nat) (Ty.pair (Ty.int .i64) (Ty.int .i64))], OSh.row true (3 : Nat) (Ty.int .i64), OSh.row true (3 : Nat) (Ty.int .i64)] [((1 : Nat), TSh.at (Sh.ptr (1 : Nat) (0 : Nat))), ((3 : Nat), TSh.at (Sh.sl (2 : Nat))), ((5 : Nat), TSh.at (Sh.int .i64)), ((8 : Nat), TSh.at (Sh.sl (3 : Nat))), ((26 : Nat), TSh.at (Sh.snap (0 : Nat) (Ty.pair (Ty.int .i64) (Ty.int .i64)))), ((27 : Nat), TSh.at (Sh.int .i64)), ((28 : Nat), TSh.at (Sh.int .i64))]
noncomputable def Z2Y : LoopDef (Tup Z1H × OutD) := .plain Z9W Zmd (Int × Int × List (Int × Int) × List Int × List Int × Int × List (Int × Int) × Int × Int) (fun k x => Z1R k x.1.2.1.1 x.1.2.1.2.1 x.1.2.1.2.2.1 x.1.2.2.1 x.1.2.2.2.1 x.1.2.2.2.2.1 x.2.2.2.1 x.2.2.2.2.2.1 x.2.2.2.2.2.2.1 x.2.2.2.2.2.2.2.1 x.2.2.2.2.2.2.2.2.2.1 x.2.2.2.2.2.2.2.2.2.2.1) (fun z => (((), (z.1, z.2.1, z.2.2.1, ()), z.2.2.2.1, z.2.2.2.2.1, ()), ((), (), z.2.2.2.2.2.1, (), z.2.2.2.2.2.2.1, z.2.2.2.2.2.2.2.1, z.2.2.2.2.2.2.2.2, ()))) (fun y => (y.1.2.1.1, y.1.2.1.2.1, y.1.2.1.2.2.1, y.1.2.2.1, y.1.2.2.2.1, y.2.2.2.1, y.2.2.2.2.2.1, y.2.2.2.2.2.2.1, y.2.2.2.2.2.2.2.1)) (fun _ => rfl)
noncomputable def Z2v : Nat → Int → Int → List (Int × Int) → List Int → List Int → Int → List (Int × Int) → Int → Int → Option (Int × Int × List (Int × Int) × List Int × Int × List (Int × Int) × Int × Int)
 | 0, _, _, _, _, _, _, _, _, _ => none
 | k + 1, b1_0, b1_1, b1_2, o2, o3, v5, v26, v27, v28 =>
  if decide ((↑(List.length o3) : Int) > (0 : Int)) = true then if (0 : Int) < (↑(List.length o3) : Int) then if (1 : Int) ≤ (↑(List.length o3) : Int) then if (↑(List.length o3) : Int) ≤ (↑(List.length o3) : Int) then Option.bind (Zce k (b1_0, b1_1, b1_2) (List.getD o3 (Int.toNat (0 : Int)) (0 : Int))) fun z2 => Option.bind (Z1R k b1_0 b1_1 b1_2 o2 (List.drop (Int.toNat (1 : Int)) o3) z2 v5 v26 v27 v28 (↑(List.length z2) : Int) (0 : Int)) fun z4 => Z2v k z4.1 z4.2.1 z4.2.2.1 z4.2.2.2.1 z4.2.2.2.2.1 z4.2.2.2.2.2.1 z4.2.2.2.2.2.2.1 z4.2.2.2.2.2.2.2.1 z4.2.2.2.2.2.2.2.2 else none else none else none else some (b1_0, b1_1, b1_2, o2, v5, v26, v27, v28)
noncomputable def Z9V : Spec := Spec.mk [OSh.ro, OSh.box (26 : Nat) [Sh.int .i64, Sh.int .i64, Sh.snap (0 : Nat) (Ty.pair (Ty.int .i64) (Ty.int .i64))], OSh.row true (3 : Nat) (Ty.int .i64), OSh.row true (3 : Nat) (Ty.int .i64)] [((1 : Nat), TSh.at (Sh.ptr (1 : Nat) (0 : Nat))), ((3 : Nat), TSh.at (Sh.sl (2 : Nat))), ((5 : Nat), TSh.at (Sh.int .i64)), ((8 : Nat), TSh.at (Sh.sl (3 : Nat))), ((26 : Nat), TSh.at (Sh.snap (0 : Nat) (Ty.pair (Ty.int .i64) (Ty.int .i64)))), ((27 : Nat), TSh.at (Sh.int .i64)), ((28 : Nat), TSh.at (Sh.int .i64))]
noncomputable def Zn4 : Spec := Spec.mk [OSh.ro, OSh.box (26 : Nat) [Sh.int .i64, Sh.int .i64, Sh.snap (0 : Nat) (Ty.pair (Ty.int .i64) (Ty.int .i64))], OSh.row true (3 : Nat) (Ty.int .i64)] [((1 : Nat), TSh.at (Sh.ptr (1 : Nat) (0 : Nat))), ((3 : Nat), TSh.at (Sh.sl (2 : Nat))), ((5 : Nat), TSh.at (Sh.int .i64)), ((26 : Nat), TSh.at (Sh.snap (0 : Nat) (Ty.pair (Ty.int .i64) (Ty.int .i64)))), ((27 : Nat), TSh.at (Sh.int .i64)), ((28 : Nat), TSh.at (Sh.int .i64))]
noncomputable def Z30 : LoopDef (Tup Z1H × OutD) := .plain Z9V Zn4 (Int × Int × List (Int × Int) × List Int × Int × List (Int × Int) × Int × Int) (fun k x => Z2v k x.1.2.1.1 x.1.2.1.2.1 x.1.2.1.2.2.1 x.1.2.2.1 x.1.2.2.2.1 x.2.2.2.1 x.2.2.2.2.2.1 x.2.2.2.2.2.2.1 x.2.2.2.2.2.2.2.1) (fun z => (((), (z.1, z.2.1, z.2.2.1, ()), z.2.2.2.1, ()), ((), (), z.2.2.2.2.1, z.2.2.2.2.2.1, z.2.2.2.2.2.2.1, z.2.2.2.2.2.2.2, ()))) (fun y => (y.1.2.1.1, y.1.2.1.2.1, y.1.2.1.2.2.1, y.1.2.2.1, y.2.2.2.1, y.2.2.2.2.1, y.2.2.2.2.2.1, y.2.2.2.2.2.2.1)) (fun _ => rfl)
noncomputable def Z1n : Nat → Int → Int → List (Int × Int) → List Int → Int → List (Int × Int) → Int → Int → Option (List Int)
 | 0, _, _, _, _, _, _, _, _ => none
 | k + 1, b1_0, b1_1, b1_2, o2, v5, v26, v27, v28 =>
  if decide (v28 < v27) = true then if (0 : Int) ≤ v28 then if v28 < (↑(List.length v26) : Int) then Option.bind (Z9x k (Prod.fst (List.getD v26 (Int.toNat v28) ((0 : Int), (0 : Int))), Prod.snd (List.getD v26 (Int.toNat v28) ((0 : Int), (0 : Int))))) fun z1 => if (!z1) = true then Z1n k b1_0 b1_1 b1_2 o2 v5 v26 v27 (wrap64 (v28 + (1 : Int))) else if (0 : Int) ≤ v28 then if v28 < (↑(List.length o2) : Int) then if decide (List.getD o2 (Int.toNat v28) (0 : Int) ≥ (0 : Int)) = true then Z1n k b1_0 b1_1 b1_2 o2 v5 v26 v27 (wrap64 (v28 + (1 : Int))) else if (0 : Int) ≤ v28 then if v28 < (↑(List.length o2) : Int) then Option.bind (Z2v k b1_0 b1_1 b1_2 (List.set o2 (Int.toNat v28) v5) [v28] v5 v26 v27 v28) fun z5 => Z1n k z5.1 z5.2.1 z5.2.2.1 z5.2.2.2.1 (wrap64 (Prod.fst z5.2.2.2.2 + (1 : Int))) z5.2.2.2.2.2.1 z5.2.2.2.2.2.2.1 (wrap64 (Prod.snd z5.2.2.2.2.2.2 + (1 : Int))) else none else none else none else none else none else none else some o2
noncomputable def Za4 : Spec := Spec.mk [OSh.ro, OSh.box (26 : Nat) [Sh.int .i64, Sh.int .i64, Sh.snap (0 : Nat) (Ty.pair (Ty.int .i64) (Ty.int .i64))], OSh.row true (3 : Nat) (Ty.int .i64)] [((1 : Nat), TSh.at (Sh.ptr (1 : Nat) (0 : Nat))), ((3 : Nat), TSh.at (Sh.sl (2 : Nat))), ((5 : Nat), TSh.at (Sh.int .i64)), ((26 : Nat), TSh.at (Sh.snap (0 : Nat) (Ty.pair (Ty.int .i64) (Ty.int .i64)))), ((27 : Nat), TSh.at (Sh.int .i64)), ((28 : Nat), TSh.at (Sh.int .i64))]
noncomputable def ZmJ : Spec := Spec.mk [OSh.ro, OSh.row true (3 : Nat) (Ty.int .i64)] [((3 : Nat), TSh.at (Sh.sl (1 : Nat)))]
noncomputable def Z32 : LoopDef (Tup Z1H × OutD) := .plain Za4 ZmJ (List Int) (fun k x => Z1n k x.1.2.1.1 x.1.2.1.2.1 x.1.2.1.2.2.1 x.1.2.2.1 x.2.2.2.1 x.2.2.2.2.1 x.2.2.2.2.2.1 x.2.2.2.2.2.2.1) (fun z => (((), z, ()), ((), ()))) (fun y => (y.1.2.1)) (fun _ => rfl)
noncomputable def Z8K : Nat → Int × Int × List (Int × Int) → Option (List Int)
 | 0, _ => none
 | k + 1, p0 =>
  if Int.toNat (↑(List.length p0.2.2) : Int) * (8 : Nat) ≤ (281474976710656 : Nat) then Option.bind (Z3C k p0.1 p0.2.1 p0.2.2 (List.replicate (Int.toNat (↑(List.length p0.2.2) : Int)) (0 : Int)) (↑(List.length (List.replicate (Int.toNat (↑(List.length p0.2.2) : Int)) (0 : Int))) : Int) (0 : Int)) fun z0 => Option.bind (Z1n k z0.1 z0.2.1 z0.2.2.1 z0.2.2.2 (0 : Int) z0.2.2.1 (↑(List.length z0.2.2.1) : Int) (0 : Int)) fun z6 => some z6 else none
noncomputable def Z2b : FnDef := .of Zgz Z1H (List Int) (fun k x => Z8K k x.1) Zfz Zfo Zl3
noncomputable def Z3l : Code := Tryz.f117.body.getD .skip
noncomputable def Zy : Ctx (Tup Z1H × OutD) := { T := T, G := [(136, Z4i.E), (137, Z4h.E)], mvs := [56], no := 0, n := 91, res := resOf T Zgz Z1H Tryz.f117.results.toList, loops := [(0, Z33.E), (6, Z2Y.E), (4, Z30.E), (2, Z32.E)], regs := [], conds := [], cuts := [] }
theorem Z65 (k : Nat) : EnvOK Tryz.prog k Zy.G := (EnvOK.cons (Zzd k) (EnvOK.cons (Zyx k) (EnvOK.nil mixed)))
noncomputable def Z6L : Code := (findLoop 0 Z3l).getD .skip
theorem Zme (k : Nat) (x : Za2.D) : Z33.lp (k + 1) x = loopK Zy Z33 0 Z6L k x := by kernel_rfl
theorem Zmu (k : Nat) : LOK Tryz.prog Zy k Z6L := LOK.by [] (by kernel_rfl) AllOK.nil
theorem ZmI (x : Za2.D) : Z33.lp 0 x = none := by kernel_rfl
theorem ZkZ (k : Nat) : EOK Tryz.prog Zy k Z33.E (.block 0 (.loop Z6L)) := Zr T_ok Z65 ZmI Zme Zmu k
noncomputable def Z6y : Code := (findLoop 6 Z3l).getD .skip
theorem ZmX (k : Nat) (x : Z9W.D) : Z2Y.lp (k + 1) x = loopK Zy Z2Y 6 Z6y k x := by kernel_rfl
theorem ZmV (k : Nat) : LOK Tryz.prog Zy k Z6y := LOK.by [] (by kernel_rfl) AllOK.nil
theorem ZmF (x : Z9W.D) : Z2Y.lp 0 x = none := by kernel_rfl
theorem Zlp (k : Nat) : EOK Tryz.prog Zy k Z2Y.E (.block 6 (.loop Z6y)) := Zr T_ok Z65 ZmF ZmX ZmV k
noncomputable def Z6B : Code := (findLoop 4 Z3l).getD .skip
theorem Zn0 (k : Nat) (x : Z9V.D) : Z30.lp (k + 1) x = loopK Zy Z30 4 Z6B k x := by kernel_rfl
theorem Zmy (k : Nat) : LOK Tryz.prog Zy k Z6B := LOK.by [(Z2Y.E, .block 6 (.loop Z6y))] (by kernel_rfl) (AllOK.cons (Zlp k) AllOK.nil)
theorem ZmQ (x : Z9V.D) : Z30.lp 0 x = none := by kernel_rfl
theorem Zl0 (k : Nat) : EOK Tryz.prog Zy k Z30.E (.block 4 (.loop Z6B)) := Zr T_ok Z65 ZmQ Zn0 Zmy k
noncomputable def Z6A : Code := (findLoop 2 Z3l).getD .skip
theorem ZmP (k : Nat) (x : Za4.D) : Z32.lp (k + 1) x = loopK Zy Z32 2 Z6A k x := by kernel_rfl
theorem Zn9 (k : Nat) : LOK Tryz.prog Zy k Z6A := LOK.by [(Z30.E, .block 4 (.loop Z6B))] (by kernel_rfl) (AllOK.cons (Zl0 k) AllOK.nil)
theorem ZmG (x : Za4.D) : Z32.lp 0 x = none := by kernel_rfl
theorem Zl2 (k : Nat) : EOK Tryz.prog Zy k Z32.E (.block 2 (.loop Z6A)) := Zr T_ok Z65 ZmG ZmP Zn9 k
theorem Zrw (k : Nat) (x : Tup Z2b.ps) : Z2b.f (k + 1) x = fnK Z2b Zy Z3l k x := by kernel_rfl
theorem Zr3 (x : Tup Z2b.ps) : Z2b.f 0 x = none := by kernel_rfl
theorem Zry (k : Nat) : LOK Tryz.prog Zy k Z3l := LOK.by [(Z33.E, .block 0 (.loop Z6L)), (Z32.E, .block 2 (.loop Z6A))] (by kernel_rfl) (AllOK.cons (ZkZ k) (AllOK.cons (Zl2 k) AllOK.nil))
theorem Zr4 (k : Nat) : SoundAt Tryz.prog k 117 Z2b.E := @Zk Tryz.prog Z2b Zy 117 Tryz.f117 Z3l (by kernel_rfl) (by kernel_rfl) (by kernel_rfl) Tryz.func117 (by kernel_rfl) (by kernel_rfl) (by kernel_rfl) T_ok Z65 Zry Zr3 Zrw k
noncomputable def Z2E : List PK := [PK.mk Ty.str false none false none]
noncomputable def ZaI : List PK := [PK.mk (Ty.int .i64) false none false none, PK.mk (Ty.int .i64) false none false none]
noncomputable def Za8 (r : ByteArray) : Tup Z2E × OutD := ((r, ()), none)
noncomputable def Za7 : Tup Z2E × OutD → Option (ByteArray)
 | (a, none) => some (a.1)
 | _ => none
theorem ZeC : ∀ b r, Za7 b = some r → Za8 r = b := by
 rintro ⟨a, o⟩ r h
 cases o with
 | none => injection h with h; subst h; rfl
 | some _ => cases h
noncomputable def Z6p : Nat → Int → Int → Option ByteArray
 | 0, _, _ => none
 | k + 1, p0, p1 =>
  if decide (p1 = (10 : Int)) = true then if decide ((0 : Int) ≤ p0) = true then if decide (p0 < (100 : Int)) = true then Option.bind (Z8u k p0) fun z0 => some z0 else if decide (p0 < (0 : Int)) = true then none else none else if decide (p0 < (0 : Int)) = true then none else none else none
noncomputable def ZS : FnDef := .of ZaI Z2E (ByteArray) (fun k x => Z6p k x.1 x.2.1) Za8 Za7 ZeC
noncomputable def Z6i : Code := Tryz.f120.body.getD .skip
noncomputable def Z3R : Ctx (Tup Z2E × OutD) := { T := T, G := [(140, Z1m.E)], mvs := [], no := 0, n := 54, res := resOf T ZaI Z2E Tryz.f120.results.toList, loops := [], regs := [], conds := [], cuts := [] }
theorem ZgS (k : Nat) : EnvOK Tryz.prog k Z3R.G := (EnvOK.cons (ZjJ k) (EnvOK.nil mixed))
theorem ZgD (k : Nat) (x : Tup ZS.ps) : ZS.f (k + 1) x = fnK ZS Z3R Z6i k x := by kernel_rfl
theorem ZgW (x : Tup ZS.ps) : ZS.f 0 x = none := by kernel_rfl
theorem ZgG (k : Nat) : LOK Tryz.prog Z3R k Z6i := LOK.by [] (by kernel_rfl) AllOK.nil
theorem ZgX (k : Nat) : SoundAt Tryz.prog k 120 ZS.E := @Zk Tryz.prog ZS Z3R 120 Tryz.f120 Z6i (by kernel_rfl) (by kernel_rfl) (by kernel_rfl) Tryz.func120 (by kernel_rfl) (by kernel_rfl) (by kernel_rfl) T_ok ZgS ZgG ZgW ZgD k
noncomputable def Z8I : List PK := [PK.mk Ty.bool false none false none]
noncomputable def Zk4 : List PK := [PK.mk (Ty.pair (Ty.int .i64) (Ty.int .i64)) true none false none]
noncomputable def Zis (r : Bool) : Tup Z8I × OutD := ((r, ()), none)
noncomputable def ZiF : Tup Z8I × OutD → Option (Bool)
 | (a, none) => some (a.1)
 | _ => none
theorem ZoS : ∀ b r, ZiF b = some r → Zis r = b := by
 rintro ⟨a, o⟩ r h
 cases o with
 | none => injection h with h; subst h; rfl
 | some _ => cases h
noncomputable def Z2S : Nat → Int × Int → Option Bool
 | 0, _ => none
 | k + 1, p0 =>
  Option.bind (Z9l k (Prod.fst p0, Prod.snd p0)) fun z0 => if z0 = true then if decide (Prod.fst p0 = (3 : Int)) = true then some true else some (decide (Prod.fst p0 = (6 : Int))) else some false
noncomputable def Z2U : FnDef := .of Zk4 Z8I (Bool) (fun k x => Z2S k x.1) Zis ZiF ZoS
noncomputable def ZeD : Code := Tryz.f126.body.getD .skip
noncomputable def Zb5 : Ctx (Tup Z8I × OutD) := { T := T, G := [(130, Z3J.E)], mvs := [], no := 0, n := 15, res := resOf T Zk4 Z8I Tryz.f126.results.toList, loops := [], regs := [], conds := [], cuts := [] }
theorem ZwN (k : Nat) : EnvOK Tryz.prog k Zb5.G := (EnvOK.cons (Zi9 k) (EnvOK.nil mixed))
theorem Zxd (k : Nat) (x : Tup Z2U.ps) : Z2U.f (k + 1) x = fnK Z2U Zb5 ZeD k x := by kernel_rfl
theorem Zwz (x : Tup Z2U.ps) : Z2U.f 0 x = none := by kernel_rfl
theorem Zwh (k : Nat) : LOK Tryz.prog Zb5 k ZeD := LOK.by [] (by kernel_rfl) AllOK.nil
theorem Zk5 (k : Nat) : SoundAt Tryz.prog k 126 Z2U.E := @Zk Tryz.prog Z2U Zb5 126 Tryz.f126 ZeD (by kernel_rfl) (by kernel_rfl) (by kernel_rfl) Tryz.func126 (by kernel_rfl) (by kernel_rfl) (by kernel_rfl) T_ok ZwN Zwh Zwz Zxd k
noncomputable def Z9n : List PK := []
noncomputable def Zqb : List PK := [PK.mk (Ty.pair (Ty.int .i64) (Ty.pair (Ty.int .i64) (Ty.slice (122 : Nat) (Ty.pair (Ty.int .i64) (Ty.int .i64))))) true (some ((2 : Nat), (122 : Nat), Ty.pair (Ty.int .i64) (Ty.int .i64))) false none, PK.mk (Ty.slice (3 : Nat) (Ty.int .i64)) false none false none, PK.mk (Ty.int .i64) false none false none]
noncomputable def ZnJ (r : List (Int × Int)) : Tup Z9n × OutD := ((()), some ⟨Ty.pair (Ty.int .i64) (Ty.int .i64), r⟩)
noncomputable def ZgU : Tup Z9n × OutD → Option (List (Int × Int))
 | (a, some ⟨u, ys⟩) => if h : u = Ty.pair (Ty.int .i64) (Ty.int .i64) then some (castU h ys) else none
 | _ => none
theorem Zuv : ∀ b r, ZgU b = some r → ZnJ r = b := by
 rintro ⟨a, o⟩ r h
 cases o with
 | none => cases h
 | some s =>
  obtain ⟨u, ys⟩ := s
  simp only [ZgU] at h
  split at h
  ·rename_i hu; subst hu; injection h with h; subst h; rfl
  ·cases h
noncomputable def Z3s : Nat → List (Int × Int) → Int → Int → List Int → Int → Int → Int → Option (List (Int × Int))
 | 0, _, _, _, _, _, _, _ => none
 | k + 1, o1, b2_0, b2_1, v1, v2, v28, v29 =>
  if decide (v29 < v28) = true then if (0 : Int) ≤ v29 then if v29 < (↑(List.length o1) : Int) then if decide (Prod.fst (List.getD o1 (Int.toNat v29) ((0 : Int), (0 : Int))) = (6 : Int)) = true then if (0 : Int) ≤ v29 then if v29 < (↑(List.length v1) : Int) then if (0 : Int) ≤ v2 then if v2 < (↑(List.length v1) : Int) then if decide (List.getD v1 (Int.toNat v29) (0 : Int) = List.getD v1 (Int.toNat v2) (0 : Int)) = true then Option.bind (ZbM k (Prod.fst (List.getD o1 (Int.toNat v29) ((0 : Int), (0 : Int))), Prod.snd (List.getD o1 (Int.toNat v29) ((0 : Int), (0 : Int))))) fun z1 => if (0 : Int) ≤ v29 then if v29 < (↑(List.length o1) : Int) then Z3s k (List.set o1 (Int.toNat v29) (Prod.fst z1, Prod.snd z1)) b2_0 b2_1 v1 v2 v28 (wrap64 (v29 + (1 : Int))) else none else none else Z3s k o1 b2_0 b2_1 v1 v2 v28 (wrap64 (v29 + (1 : Int))) else none else none else none else none else Z3s k o1 b2_0 b2_1 v1 v2 v28 (wrap64 (v29 + (1 : Int))) else none else none else some o1
noncomputable def ZeB : Spec := Spec.mk [OSh.ro, OSh.row false (122 : Nat) (Ty.pair (Ty.int .i64) (Ty.int .i64)), OSh.box (26 : Nat) [Sh.int .i64, Sh.int .i64, Sh.sl (1 : Nat)]] [((1 : Nat), TSh.at (Sh.snap (0 : Nat) (Ty.int .i64))), ((2 : Nat), TSh.at (Sh.int .i64)), ((3 : Nat), TSh.at (Sh.ptr (2 : Nat) (0 : Nat))), ((27 : Nat), TSh.at (Sh.sl (1 : Nat))), ((28 : Nat), TSh.at (Sh.int .i64)), ((29 : Nat), TSh.at (Sh.int .i64))]
noncomputable def Zxl : Spec := Spec.mk [OSh.ro, OSh.row false (122 : Nat) (Ty.pair (Ty.int .i64) (Ty.int .i64))] []
noncomputable def Z6u : LoopDef (Tup Z9n × OutD) := .plain ZeB Zxl (List (Int × Int)) (fun k x => Z3s k x.1.2.1 x.1.2.2.1.1 x.1.2.2.1.2.1 x.2.1 x.2.2.1 x.2.2.2.2.2.1 x.2.2.2.2.2.2.1) (fun z => (((), z, ()), (()))) (fun y => (y.1.2.1)) (fun _ => rfl)
noncomputable def ZdY : Nat → Int × Int × List (Int × Int) → List Int → Int → Option (List (Int × Int))
 | 0, _, _, _ => none
 | k + 1, p0, p1, p2 =>
  if (0 : Int) ≤ p2 then if p2 < (↑(List.length p0.2.2) : Int) then if decide (Prod.fst (List.getD p0.2.2 (Int.toNat p2) ((0 : Int), (0 : Int))) = (3 : Int)) = true then Option.bind (ZbM k (Prod.fst (List.getD p0.2.2 (Int.toNat p2) ((0 : Int), (0 : Int))), Prod.snd (List.getD p0.2.2 (Int.toNat p2) ((0 : Int), (0 : Int))))) fun z0 => if (0 : Int) ≤ p2 then if p2 < (↑(List.length p0.2.2) : Int) then some (List.set p0.2.2 (Int.toNat p2) (Prod.fst z0, Prod.snd z0)) else none else none else if decide (Prod.fst (List.getD p0.2.2 (Int.toNat p2) ((0 : Int), (0 : Int))) = (6 : Int)) = true then Option.bind (Z3s k p0.2.2 p0.1 p0.2.1 p1 p2 (↑(List.length p0.2.2) : Int) (0 : Int)) fun z2 => some z2 else some p0.2.2 else none else none
noncomputable def Z5N : FnDef := .of Zqb Z9n (List (Int × Int)) (fun k x => ZdY k x.1 x.2.1 x.2.2.1) ZnJ ZgU Zuv
noncomputable def Ze7 : Code := Tryz.f134.body.getD .skip
noncomputable def Z7x : Ctx (Tup Z9n × OutD) := { T := T, G := [(148, Z5K.E)], mvs := [], no := 1, n := 55, res := resOf T Zqb Z9n Tryz.f134.results.toList, loops := [(1, Z6u.E)], regs := [], conds := [], cuts := [] }
theorem Zqi (k : Nat) : EnvOK Tryz.prog k Z7x.G := (EnvOK.cons (ZB3 k) (EnvOK.nil mixed))
noncomputable def Zbm : Code := (findLoop 1 Ze7).getD .skip
theorem Zwx (k : Nat) (x : ZeB.D) : Z6u.lp (k + 1) x = loopK Z7x Z6u 1 Zbm k x := by kernel_rfl
theorem Zws (k : Nat) : LOK Tryz.prog Z7x k Zbm := LOK.by [] (by kernel_rfl) AllOK.nil
theorem Zx2 (x : ZeB.D) : Z6u.lp 0 x = none := by kernel_rfl
theorem ZvA (k : Nat) : EOK Tryz.prog Z7x k Z6u.E (.block 1 (.loop Zbm)) := Zr T_ok Zqi Zx2 Zwx Zws k
theorem ZAE (k : Nat) (x : Tup Z5N.ps) : Z5N.f (k + 1) x = fnK Z5N Z7x Ze7 k x := by kernel_rfl
theorem ZB0 (x : Tup Z5N.ps) : Z5N.f 0 x = none := by kernel_rfl
theorem ZBt (k : Nat) : LOK Tryz.prog Z7x k Ze7 := LOK.by [(Z6u.E, .block 1 (.loop Zbm))] (by kernel_rfl) (AllOK.cons (ZvA k) AllOK.nil)
theorem ZAP (k : Nat) : SoundAt Tryz.prog k 134 Z5N.E := @Zk Tryz.prog Z5N Z7x 134 Tryz.f134 Ze7 (by kernel_rfl) (by kernel_rfl) (by kernel_rfl) Tryz.func134 (by kernel_rfl) (by kernel_rfl) (by kernel_rfl) T_ok Zqi ZBt ZB0 ZAE k
noncomputable def ZbH : List PK := [PK.mk (Ty.int .i64) false none false none, PK.mk Ty.bool false none false none]
noncomputable def Zqr : List PK := [PK.mk (Ty.pair (Ty.int .i64) (Ty.int .i64)) true none false none, PK.mk (Ty.int .i64) false none false none]
noncomputable def Zoj (r : Int × Bool) : Tup ZbH × OutD := ((r.1, r.2, ()), none)
noncomputable def ZnU : Tup ZbH × OutD → Option (Int × Bool)
 | (a, none) => some (a.1, a.2.1)
 | _ => none
theorem ZuV : ∀ b r, ZnU b = some r → Zoj r = b := by
 rintro ⟨a, o⟩ r h
 cases o with
 | none => injection h with h; subst h; rfl
 | some _ => cases h
noncomputable def ZdW : Nat → Int × Int → Int → Option (Int × Bool)
 | 0, _, _ => none
 | k + 1, p0, p1 =>
  Option.bind (Z9l k (Prod.fst p0, Prod.snd p0)) fun z0 => if (!z0) = true then some ((0 : Int), false) else if decide (p1 < (-1 : Int)) = true then some ((0 : Int), false) else if decide (p1 > (1 : Int)) = true then some ((0 : Int), false) else if decide (Prod.fst p0 = (5 : Int)) = true then some ((0 : Int), false) else if decide (Prod.fst p0 = (1 : Int)) = true then some ((-1 : Int), true) else if decide (Prod.fst p0 = (2 : Int)) = true then some ((1 : Int), true) else if decide (Prod.fst p0 = (3 : Int)) = true then some (wrap64 (wrap64 ((2 : Int) * Prod.snd p0) - (1 : Int)), true) else if decide (Prod.fst p0 = (6 : Int)) = true then some (wrap64 (wrap64 ((2 : Int) * Prod.snd p0) - (1 : Int)), true) else if decide (Prod.fst p0 = (4 : Int)) = true then some (wrap64 ((0 : Int) - p1), true) else some ((0 : Int), true)
noncomputable def Z5S : FnDef := .of Zqr ZbH (Int × Bool) (fun k x => ZdW k x.1 x.2.1) Zoj ZnU ZuV
noncomputable def ZhZ : Code := Tryz.f138.body.getD .skip
noncomputable def Ze6 : Ctx (Tup ZbH × OutD) := { T := T, G := [(130, Z3J.E)], mvs := [], no := 0, n := 39, res := resOf T Zqr ZbH Tryz.f138.results.toList, loops := [], regs := [], conds := [], cuts := [] }
theorem ZBr (k : Nat) : EnvOK Tryz.prog k Ze6.G := (EnvOK.cons (Zi9 k) (EnvOK.nil mixed))
theorem ZAw (k : Nat) (x : Tup Z5S.ps) : Z5S.f (k + 1) x = fnK Z5S Ze6 ZhZ k x := by kernel_rfl
theorem ZAW (x : Tup Z5S.ps) : Z5S.f 0 x = none := by kernel_rfl
theorem ZBj (k : Nat) : LOK Tryz.prog Ze6 k ZhZ := LOK.by [] (by kernel_rfl) AllOK.nil
theorem ZB1 (k : Nat) : SoundAt Tryz.prog k 138 Z5S.E := @Zk Tryz.prog Z5S Ze6 138 Tryz.f138 ZhZ (by kernel_rfl) (by kernel_rfl) (by kernel_rfl) Tryz.func138 (by kernel_rfl) (by kernel_rfl) (by kernel_rfl) T_ok ZBr ZBj ZAW ZAw k
noncomputable def ZaK : List PK := [PK.mk (Ty.slice (122 : Nat) (Ty.pair (Ty.int .i64) (Ty.int .i64))) false none false none]
noncomputable def ZtC : List PK := []
noncomputable def Zqu (r : List (Int × Int)) : Tup ZaK × OutD := ((r, ()), none)
noncomputable def Zq9 : Tup ZaK × OutD → Option (List (Int × Int))
 | (a, none) => some (a.1)
 | _ => none
theorem Zwn : ∀ b r, Zq9 b = some r → Zqu r = b := by
 rintro ⟨a, o⟩ r h
 cases o with
 | none => injection h with h; subst h; rfl
 | some _ => cases h
noncomputable def Z4Q : Nat → List (Int × Int) → Int → Option (List (Int × Int))
 | 0, _, _ => none
 | k + 1, o1, v2 =>
  if decide (v2 ≤ (7 : Int)) = true then if List.length o1 + List.length [(v2, (0 : Int))] ≤ (140737488355328 / 16 : Nat) then Option.bind (Z4N k (v2, (1 : Int))) fun z0 => if z0 = true then if List.length (o1 ++ [(v2, (0 : Int))]) + List.length [(v2, (1 : Int))] ≤ (140737488355328 / 16 : Nat) then Z4Q k (o1 ++ [(v2, (0 : Int))] ++ [(v2, (1 : Int))]) (wrap64 (v2 + (1 : Int))) else none else Z4Q k (o1 ++ [(v2, (0 : Int))]) (wrap64 (v2 + (1 : Int))) else none else some o1
noncomputable def ZfH : Spec := Spec.mk [OSh.ro, OSh.row true (122 : Nat) (Ty.pair (Ty.int .i64) (Ty.int .i64))] [((1 : Nat), TSh.at (Sh.sl (1 : Nat))), ((2 : Nat), TSh.at (Sh.int .i64))]
noncomputable def Zzn : Spec := Spec.mk [OSh.ro, OSh.row true (122 : Nat) (Ty.pair (Ty.int .i64) (Ty.int .i64))] [((1 : Nat), TSh.at (Sh.sl (1 : Nat)))]
noncomputable def Z7f : LoopDef (Tup ZaK × OutD) := .plain ZfH Zzn (List (Int × Int)) (fun k x => Z4Q k x.1.2.1 x.2.2.1) (fun z => (((), z, ()), ((), ()))) (fun y => (y.1.2.1)) (fun _ => rfl)
noncomputable def Zft : Nat → Option (List (Int × Int))
 | 0 => none
 | k + 1 =>
  Option.bind (Z4Q k [] (0 : Int)) fun z1 => some z1
noncomputable def Z6T : FnDef := .of ZtC ZaK (List (Int × Int)) (fun k x => Zft k) Zqu Zq9 Zwn
noncomputable def ZfY : Code := Tryz.f144.body.getD .skip
noncomputable def Z8D : Ctx (Tup ZaK × OutD) := { T := T, G := [(128, Z26.E)], mvs := [], no := 0, n := 22, res := resOf T ZtC ZaK Tryz.f144.results.toList, loops := [(0, Z7f.E)], regs := [], conds := [], cuts := [] }
theorem ZsH (k : Nat) : EnvOK Tryz.prog k Z8D.G := (EnvOK.cons (Zex k) (EnvOK.nil mixed))
noncomputable def Zcc : Code := (findLoop 0 ZfY).getD .skip
theorem Zy3 (k : Nat) (x : ZfH.D) : Z7f.lp (k + 1) x = loopK Z8D Z7f 0 Zcc k x := by kernel_rfl
theorem Zyj (k : Nat) : LOK Tryz.prog Z8D k Zcc := LOK.by [] (by kernel_rfl) AllOK.nil
theorem Zyu (x : ZfH.D) : Z7f.lp 0 x = none := by kernel_rfl
theorem Zw4 (k : Nat) : EOK Tryz.prog Z8D k Z7f.E (.block 0 (.loop Zcc)) := Zr T_ok ZsH Zyu Zy3 Zyj k
theorem ZEv (k : Nat) (x : Tup Z6T.ps) : Z6T.f (k + 1) x = fnK Z6T Z8D ZfY k x := by kernel_rfl
theorem ZEy (x : Tup Z6T.ps) : Z6T.f 0 x = none := by kernel_rfl
theorem ZDb (k : Nat) : LOK Tryz.prog Z8D k ZfY := LOK.by [(Z7f.E, .block 0 (.loop Zcc))] (by kernel_rfl) (AllOK.cons (Zw4 k) AllOK.nil)
theorem ZDj (k : Nat) : SoundAt Tryz.prog k 144 Z6T.E := @Zk Tryz.prog Z6T Z8D 144 Tryz.f144 ZfY (by kernel_rfl) (by kernel_rfl) (by kernel_rfl) Tryz.func144 (by kernel_rfl) (by kernel_rfl) (by kernel_rfl) T_ok ZsH ZDb ZEy ZEv k
end
end Go.Proofs.YtglkedenkcpcbaaGreatDoor.Vs
