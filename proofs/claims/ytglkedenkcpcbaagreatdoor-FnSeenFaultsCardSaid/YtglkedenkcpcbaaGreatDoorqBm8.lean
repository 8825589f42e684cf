/- The proof, part 9. -/
import Derived.Test.YtglkedenkcpcbaaGreatDoorqBm7
set_option maxRecDepth 100000
set_option maxHeartbeats 2000000
set_option linter.unusedVariables false
set_option linter.unusedSimpArgs false
namespace Go.Proofs.YtglkedenkcpcbaaGreatDoor.Vs
open Go.RowKit
noncomputable section
noncomputable def Z4z : List PK := [PK.mk (Ty.slice (42 : Nat) (Ty.pair (Ty.int .i64) (Ty.pair (Ty.int .i64) (Ty.int .i64)))) false none false none, PK.mk Ty.bool false none false none]
noncomputable def ZhW : List PK := [PK.mk (Ty.pair (Ty.int .i64) (Ty.pair (Ty.int .i64) (Ty.slice (122 : Nat) (Ty.pair (Ty.int .i64) (Ty.int .i64))))) true none false none, PK.mk (Ty.slice (3 : Nat) (Ty.int .i64)) false none false none]
noncomputable def ZhK (r : List (Int × Int × Int) × Bool) : Tup Z4z × OutD := ((r.1, r.2, ()), none)
noncomputable def ZhE : Tup Z4z × OutD → Option (List (Int × Int × Int) × Bool)
 | (a, none) => some (a.1, a.2.1)
 | _ => none
theorem Zo4 : ∀ b r, ZhE b = some r → ZhK r = b := by
 rintro ⟨a, o⟩ r h
 cases o with
 | none => injection h with h; subst h; rfl
 | some _ => cases h
noncomputable def Z2m : Nat → Int → Int → List (Int × Int) → List (Int × Int × Int) → List (Int × Int × Int) → List Int → Int → Int → Option (List (Int × Int × Int))
 | 0, _, _, _, _, _, _, _, _ => none
 | k + 1, b1_0, b1_1, b1_2, o2, o3, v1, v16, v17 =>
  if decide (v17 < v16) = true then if (0 : Int) ≤ v17 then if v17 < (↑(List.length o3) : Int) then Option.bind (Z9p k (b1_0, b1_1, b1_2) [(Prod.fst (List.getD o3 (Int.toNat v17) ((0 : Int), (0 : Int), (0 : Int))), Prod.fst (Prod.snd (List.getD o3 (Int.toNat v17) ((0 : Int), (0 : Int), (0 : Int)))), Prod.snd (Prod.snd (List.getD o3 (Int.toNat v17) ((0 : Int), (0 : Int), (0 : Int)))))] v1) fun z2 => if decide (z2 < (0 : Int)) = true then if List.length o2 + List.length [(Prod.fst (List.getD o3 (Int.toNat v17) ((0 : Int), (0 : Int), (0 : Int))), Prod.fst (Prod.snd (List.getD o3 (Int.toNat v17) ((0 : Int), (0 : Int), (0 : Int)))), Prod.snd (Prod.snd (List.getD o3 (Int.toNat v17) ((0 : Int), (0 : Int), (0 : Int)))))] ≤ (140737488355328 / 24 : Nat) then Z2m k b1_0 b1_1 b1_2 (o2 ++ [(Prod.fst (List.getD o3 (Int.toNat v17) ((0 : Int), (0 : Int), (0 : Int))), Prod.fst (Prod.snd (List.getD o3 (Int.toNat v17) ((0 : Int), (0 : Int), (0 : Int)))), Prod.snd (Prod.snd (List.getD o3 (Int.toNat v17) ((0 : Int), (0 : Int), (0 : Int)))))]) o3 v1 v16 (wrap64 (v17 + (1 : Int))) else none else Z2m k b1_0 b1_1 b1_2 o2 o3 v1 v16 (wrap64 (v17 + (1 : Int))) else none else none else some o2
noncomputable def ZaG : Spec := Spec.mk [OSh.ro, OSh.box (26 : Nat) [Sh.int .i64, Sh.int .i64, Sh.snap (0 : Nat) (Ty.pair (Ty.int .i64) (Ty.int .i64))], OSh.row true (42 : Nat) (Ty.pair (Ty.int .i64) (Ty.pair (Ty.int .i64) (Ty.int .i64))), OSh.row true (42 : Nat) (Ty.pair (Ty.int .i64) (Ty.pair (Ty.int .i64) (Ty.int .i64)))] [((1 : Nat), TSh.at (Sh.snap (0 : Nat) (Ty.int .i64))), ((2 : Nat), TSh.at (Sh.ptr (1 : Nat) (0 : Nat))), ((6 : Nat), TSh.at (Sh.sl (2 : Nat))), ((15 : Nat), TSh.at (Sh.sl (3 : Nat))), ((16 : Nat), TSh.at (Sh.int .i64)), ((17 : Nat), TSh.at (Sh.int .i64))]
noncomputable def ZpQ : Spec := Spec.mk [OSh.ro, OSh.row true (42 : Nat) (Ty.pair (Ty.int .i64) (Ty.pair (Ty.int .i64) (Ty.int .i64)))] [((6 : Nat), TSh.at (Sh.sl (1 : Nat)))]
noncomputable def Z2V : LoopDef (Tup Z4z × OutD) := .plain ZaG ZpQ (List (Int × Int × Int)) (fun k x => Z2m k x.1.2.1.1 x.1.2.1.2.1 x.1.2.1.2.2.1 x.1.2.2.1 x.1.2.2.2.1 x.2.1 x.2.2.2.2.2.1 x.2.2.2.2.2.2.1) (fun z => (((), z, ()), ((), ()))) (fun y => (y.1.2.1)) (fun _ => rfl)
noncomputable def Z4o : Nat → Int × Int × List (Int × Int) → List Int → Option (List (Int × Int × Int) × Bool)
 | 0, _, _ => none
 | k + 1, p0, p1 =>
  Option.bind (Z6B k (Prod.fst p0, Prod.fst p0.2, Prod.snd p0.2) p1) fun z0 => if (!z0) = true then some ([], false) else Option.bind (Z3u k (Prod.fst p0, Prod.fst p0.2, Prod.snd p0.2)) fun z1 => Option.bind (Z2m k p0.1 p0.2.1 p0.2.2 [] z1 p1 (↑(List.length z1) : Int) (0 : Int)) fun z3 => some (z3, true)
noncomputable def Z1x : FnDef := .of ZhW Z4z (List (Int × Int × Int) × Bool) (fun k x => Z4o k x.1 x.2.1) ZhK ZhE Zo4
noncomputable def Z9C : Code := Tryz.f25.body.getD .skip
noncomputable def Z3d : Ctx (Tup Z4z × OutD) := { T := T, G := [(62, Z1C.E), (63, ZU.E), (64, Z2K.E)], mvs := [], no := 0, n := 33, res := resOf T ZhW Z4z Tryz.f25.results.toList, loops := [(0, Z2V.E)], regs := [], conds := [], cuts := [] }
theorem ZhP (k : Nat) : EnvOK Tryz.prog k Z3d.G := (EnvOK.cons (ZhT k) (EnvOK.cons (Zbw k) (EnvOK.cons (Zn4 k) (EnvOK.nil mixed))))
noncomputable def Z7k : Code := (findLoop 0 Z9C).getD .skip
theorem Zp5 (k : Nat) (x : ZaG.D) : Z2V.lp (k + 1) x = loopK Z3d Z2V 0 Z7k k x := by kernel_rfl
theorem Zps (k : Nat) : LOK Tryz.prog Z3d k Z7k := LOK.by [] (by kernel_rfl) AllOK.nil
theorem Zpl (x : ZaG.D) : Z2V.lp 0 x = none := by kernel_rfl
theorem ZnY (k : Nat) : EOK Tryz.prog Z3d k Z2V.E (.block 0 (.loop Z7k)) := Zb T_ok ZhP Zpl Zp5 Zps k
theorem Zv9 (k : Nat) (x : Tup Z1x.ps) : Z1x.f (k + 1) x = fnK Z1x Z3d Z9C k x := by kernel_rfl
theorem ZuJ (x : Tup Z1x.ps) : Z1x.f 0 x = none := by kernel_rfl
theorem ZuE (k : Nat) : LOK Tryz.prog Z3d k Z9C := LOK.by [(Z2V.E, .block 0 (.loop Z7k))] (by kernel_rfl) (AllOK.cons (ZnY k) AllOK.nil)
theorem Zi7 (k : Nat) : SoundAt Tryz.prog k 25 Z1x.E := @Z3 Tryz.prog Z1x Z3d 25 Tryz.f25 Z9C (by kernel_rfl) (by kernel_rfl) (by kernel_rfl) Tryz.func25 (by kernel_rfl) (by kernel_rfl) (by kernel_rfl) T_ok ZhP ZuE ZuJ Zv9 k
noncomputable def Z96 : List PK := [PK.mk (Ty.int .i64) false none false none, PK.mk Ty.bool false none false none]
noncomputable def Zmx : List PK := [PK.mk (Ty.pair (Ty.int .i64) (Ty.pair (Ty.int .i64) (Ty.slice (122 : Nat) (Ty.pair (Ty.int .i64) (Ty.int .i64))))) true none false none, PK.mk (Ty.slice (42 : Nat) (Ty.pair (Ty.int .i64) (Ty.pair (Ty.int .i64) (Ty.int .i64)))) false none false none, PK.mk (Ty.slice (3 : Nat) (Ty.int .i64)) false none false none]
noncomputable def Zk1 (r : Int × Bool) : Tup Z96 × OutD := ((r.1, r.2, ()), none)
noncomputable def Zkr : Tup Z96 × OutD → Option (Int × Bool)
 | (a, none) => some (a.1, a.2.1)
 | _ => none
theorem Zsk : ∀ b r, Zkr b = some r → Zk1 r = b := by
 rintro ⟨a, o⟩ r h
 cases o with
 | none => injection h with h; subst h; rfl
 | some _ => cases h
noncomputable def Z9q : Nat → Int × Int × List (Int × Int) → List (Int × Int × Int) → List Int → Option (Int × Bool)
 | 0, _, _, _ => none
 | k + 1, p0, p1, p2 =>
  Option.bind (Z6B k (Prod.fst p0, Prod.fst p0.2, Prod.snd p0.2) p2) fun z0 => if (!z0) = true then some ((0 : Int), false) else Option.bind (Z9a k (Prod.fst p0, Prod.fst p0.2, Prod.snd p0.2) p1) fun z1 => if (!z1) = true then some ((0 : Int), false) else Option.bind (Z9p k (Prod.fst p0, Prod.fst p0.2, Prod.snd p0.2) p1 p2) fun z2 => if decide (z2 < (0 : Int)) = true then some ((0 : Int), false) else some (z2, true)
noncomputable def Z3D : FnDef := .of Zmx Z96 (Int × Bool) (fun k x => Z9q k x.1 x.2.1 x.2.2.1) Zk1 Zkr Zsk
noncomputable def ZfR : Code := Tryz.f30.body.getD .skip
noncomputable def Zc4 : Ctx (Tup Z96 × OutD) := { T := T, G := [(62, Z1C.E), (69, Z2L.E), (64, Z2K.E)], mvs := [], no := 0, n := 26, res := resOf T Zmx Z96 Tryz.f30.results.toList, loops := [], regs := [], conds := [], cuts := [] }
theorem Zz5 (k : Nat) : EnvOK Tryz.prog k Zc4.G := (EnvOK.cons (ZhT k) (EnvOK.cons (ZlX k) (EnvOK.cons (Zn4 k) (EnvOK.nil mixed))))
theorem ZA2 (k : Nat) (x : Tup Z3D.ps) : Z3D.f (k + 1) x = fnK Z3D Zc4 ZfR k x := by kernel_rfl
theorem ZAc (x : Tup Z3D.ps) : Z3D.f 0 x = none := by kernel_rfl
theorem Zzp (k : Nat) : LOK Tryz.prog Zc4 k ZfR := LOK.by [] (by kernel_rfl) AllOK.nil
theorem ZAE (k : Nat) : SoundAt Tryz.prog k 30 Z3D.E := @Z3 Tryz.prog Z3D Zc4 30 Tryz.f30 ZfR (by kernel_rfl) (by kernel_rfl) (by kernel_rfl) Tryz.func30 (by kernel_rfl) (by kernel_rfl) (by kernel_rfl) T_ok Zz5 Zzp ZAc ZA2 k
noncomputable def Z9x : List PK := [PK.mk (Ty.int .i64) false none false none, PK.mk Ty.bool false none false none]
noncomputable def Znk : List PK := [PK.mk (Ty.pair (Ty.int .i64) (Ty.pair (Ty.int .i64) (Ty.slice (122 : Nat) (Ty.pair (Ty.int .i64) (Ty.int .i64))))) true none false none, PK.mk (Ty.slice (42 : Nat) (Ty.pair (Ty.int .i64) (Ty.pair (Ty.int .i64) (Ty.int .i64)))) false none false none, PK.mk (Ty.slice (3 : Nat) (Ty.int .i64)) false none false none]
noncomputable def ZkB (r : Int × Bool) : Tup Z9x × OutD := ((r.1, r.2, ()), none)
noncomputable def Zkd : Tup Z9x × OutD → Option (Int × Bool)
 | (a, none) => some (a.1, a.2.1)
 | _ => none
theorem ZsA : ∀ b r, Zkd b = some r → ZkB r = b := by
 rintro ⟨a, o⟩ r h
 cases o with
 | none => injection h with h; subst h; rfl
 | some _ => cases h
noncomputable def ZcB : Nat → Int × Int × List (Int × Int) → List (Int × Int × Int) → List Int → Option (Int × Bool)
 | 0, _, _, _ => none
 | k + 1, p0, p1, p2 =>
  Option.bind (Z3G k (Prod.fst p0, Prod.fst p0.2, Prod.snd p0.2) p2) fun z0 => if (!z0) = true then some ((0 : Int), false) else Option.bind (ZcP k (Prod.fst p0, Prod.fst p0.2, Prod.snd p0.2) p1) fun z1 => if (!z1) = true then some ((0 : Int), false) else Option.bind (Za7 k (Prod.fst p0, Prod.fst p0.2, Prod.snd p0.2) p1 p2) fun z2 => if decide (z2 < (0 : Int)) = true then some ((0 : Int), false) else Option.bind (Za7 k (Prod.fst p0, Prod.fst p0.2, Prod.snd p0.2) p1 p2) fun z3 => some (z3, true)
noncomputable def Z3J : FnDef := .of Znk Z9x (Int × Bool) (fun k x => ZcB k x.1 x.2.1 x.2.2.1) ZkB Zkd ZsA
noncomputable def ZfX : Code := Tryz.f31.body.getD .skip
noncomputable def Zck : Ctx (Tup Z9x × OutD) := { T := T, G := [(65, Z1h.E), (70, Z4G.E), (71, Z4I.E)], mvs := [], no := 0, n := 29, res := resOf T Znk Z9x Tryz.f31.results.toList, loops := [], regs := [], conds := [], cuts := [] }
theorem Zzs (k : Nat) : EnvOK Tryz.prog k Zck.G := (EnvOK.cons (Z99 k) (EnvOK.cons (Zti k) (EnvOK.cons (ZtR k) (EnvOK.nil mixed))))
theorem Zzt (k : Nat) (x : Tup Z3J.ps) : Z3J.f (k + 1) x = fnK Z3J Zck ZfX k x := by kernel_rfl
theorem ZzA (x : Tup Z3J.ps) : Z3J.f 0 x = none := by kernel_rfl
theorem ZAt (k : Nat) : LOK Tryz.prog Zck k ZfX := LOK.by [] (by kernel_rfl) AllOK.nil
theorem ZAr (k : Nat) : SoundAt Tryz.prog k 31 Z3J.E := @Z3 Tryz.prog Z3J Zck 31 Tryz.f31 ZfX (by kernel_rfl) (by kernel_rfl) (by kernel_rfl) Tryz.func31 (by kernel_rfl) (by kernel_rfl) (by kernel_rfl) T_ok Zzs ZAt ZzA Zzt k
noncomputable def Z7d : List PK := [PK.mk (Ty.pair (Ty.int .i64) (Ty.pair (Ty.int .i64) (Ty.int .i64))) true none false none, PK.mk Ty.bool false none false none]
noncomputable def Zn6 : List PK := [PK.mk Ty.str false none false none]
noncomputable def ZeQ (r : (Int × Int × Int) × Bool) : Tup Z7d × OutD := ((r.1, r.2, ()), none)
noncomputable def ZeH : Tup Z7d × OutD → Option ((Int × Int × Int) × Bool)
 | (a, none) => some (a.1, a.2.1)
 | _ => none
theorem Zh2 : ∀ b r, ZeH b = some r → ZeQ r = b := by
 rintro ⟨a, o⟩ r h
 cases o with
 | none => injection h with h; subst h; rfl
 | some _ => cases h
noncomputable def ZS : Nat → Int → Int → Int → ByteArray → Int → Option (LR (Int × Int × Int) ((Int × Int × Int) × Bool))
 | 0, _, _, _, _, _ => none
 | k + 1, b1_0, b1_1, b1_2, v0, v4 =>
  if decide (v4 ≤ (3 : Int)) = true then if (0 : Int) ≤ wrap64 (v4 - (1 : Int)) then if wrap64 (v4 - (1 : Int)) < (↑(3 : Nat) : Int) then if Int.toNat (wrap64 (v4 - (1 : Int))) < List.length [ByteArray.mk #[(115 : UInt8), (116 : UInt8), (117 : UInt8), (99 : UInt8), (107 : UInt8)], ByteArray.mk #[(104 : UInt8), (111 : UInt8), (108 : UInt8), (101 : UInt8)], ByteArray.mk #[(116 : UInt8), (117 : UInt8), (114 : UInt8), (110 : UInt8), (101 : UInt8), (100 : UInt8)]] then if ByteArray.size (List.getD [ByteArray.mk #[(115 : UInt8), (116 : UInt8), (117 : UInt8), (99 : UInt8), (107 : UInt8)], ByteArray.mk #[(104 : UInt8), (111 : UInt8), (108 : UInt8), (101 : UInt8)], ByteArray.mk #[(116 : UInt8), (117 : UInt8), (114 : UInt8), (110 : UInt8), (101 : UInt8), (100 : UInt8)]] (Int.toNat (wrap64 (v4 - (1 : Int)))) (ByteArray.mk #[])) + ByteArray.size (ByteArray.mk #[(32 : UInt8), (97 : UInt8), (116 : UInt8), (32 : UInt8)]) ≤ (9223372036854775807 : Nat) then Option.bind (Z9E k v0 (List.getD [ByteArray.mk #[(115 : UInt8), (116 : UInt8), (117 : UInt8), (99 : UInt8), (107 : UInt8)], ByteArray.mk #[(104 : UInt8), (111 : UInt8), (108 : UInt8), (101 : UInt8)], ByteArray.mk #[(116 : UInt8), (117 : UInt8), (114 : UInt8), (110 : UInt8), (101 : UInt8), (100 : UInt8)]] (Int.toNat (wrap64 (v4 - (1 : Int)))) (ByteArray.mk #[]) ++ ByteArray.mk #[(32 : UInt8), (97 : UInt8), (116 : UInt8), (32 : UInt8)])) fun z0 => if (!Prod.snd z0) = true then ZS k b1_0 b1_1 b1_2 v0 (wrap64 (v4 + (1 : Int))) else if decide ((↑(ByteArray.size z0.1) : Int) ≠ (3 : Int)) = true then ZS k b1_0 b1_1 b1_2 v0 (wrap64 (v4 + (1 : Int))) else if (0 : Int) < (↑(ByteArray.size z0.1) : Int) then if (2 : Int) < (↑(ByteArray.size z0.1) : Int) then Option.bind (Z3I k (v4, wrap64 (wrap64 (byteAt z0.1 (Int.toNat (0 : Int))) - (48 : Int)), wrap64 (wrap64 (byteAt z0.1 (Int.toNat (2 : Int))) - (48 : Int)))) fun z1 => if Prod.snd z1 = true then if (ByteArray.toList z1.1 == ByteArray.toList v0) = true then some (LR.ret ((v4, wrap64 (wrap64 (byteAt z0.1 (Int.toNat (0 : Int))) - (48 : Int)), wrap64 (wrap64 (byteAt z0.1 (Int.toNat (2 : Int))) - (48 : Int))), true)) else ZS k b1_0 b1_1 b1_2 v0 (wrap64 (v4 + (1 : Int))) else ZS k b1_0 b1_1 b1_2 v0 (wrap64 (v4 + (1 : Int))) else none else none else none else none else none else none else some (LR.go (b1_0, b1_1, b1_2))
noncomputable def Zda : Spec := Spec.mk [OSh.ro, OSh.box (42 : Nat) [Sh.int .i64, Sh.int .i64, Sh.int .i64]] [((0 : Nat), TSh.at Sh.str), ((2 : Nat), TSh.at (Sh.ptr (1 : Nat) (0 : Nat))), ((4 : Nat), TSh.at (Sh.int .i64))]
noncomputable def Zv4 : Spec := Spec.mk [OSh.ro, OSh.box (42 : Nat) [Sh.int .i64, Sh.int .i64, Sh.int .i64]] [((2 : Nat), TSh.at (Sh.ptr (1 : Nat) (0 : Nat)))]
noncomputable def Z4q : LoopDef (Tup Z7d × OutD) := .rets Zda Zv4 (Int × Int × Int) ((Int × Int × Int) × Bool) (fun k x => ZS k x.1.2.1.1 x.1.2.1.2.1 x.1.2.1.2.2.1 x.2.1 x.2.2.2.1) (fun z => (((), (z.1, z.2.1, z.2.2, ()), ()), ((), ()))) (fun y => (y.1.2.1.1, y.1.2.1.2.1, y.1.2.1.2.2.1)) (fun _ => rfl) ZeQ ZeH Zh2
noncomputable def Z6S : Nat → ByteArray → Option ((Int × Int × Int) × Bool)
 | 0, _ => none
 | k + 1, p0 =>
  Option.bind (ZS k (0 : Int) (0 : Int) (0 : Int) p0 (1 : Int)) fun z2 => LR.on z2 (fun y2 => some (((0 : Int), (0 : Int), (0 : Int)), false)) fun r2 => some r2
noncomputable def Z3E : FnDef := .of Zn6 Z7d ((Int × Int × Int) × Bool) (fun k x => Z6S k x.1) ZeQ ZeH Zh2
noncomputable def Zcq : Code := Tryz.f35.body.getD .skip
noncomputable def Z4Z : Ctx (Tup Z7d × OutD) := { T := T, G := [(78, Z2g.E), (18, Z2I.E)], mvs := [], no := 0, n := 54, res := resOf T Zn6 Z7d Tryz.f35.results.toList, loops := [(0, Z4q.E)], regs := [], conds := [], cuts := [] }
theorem ZmF (k : Nat) : EnvOK Tryz.prog k Z4Z.G := (EnvOK.cons (Zva k) (EnvOK.cons (ZlY k) (EnvOK.nil mixed)))
noncomputable def Z9M : Code := (findLoop 0 Zcq).getD .skip
theorem Zvj (k : Nat) (x : Zda.D) : Z4q.lp (k + 1) x = loopK Z4Z Z4q 0 Z9M k x := by kernel_rfl
theorem ZuT (k : Nat) : LOK Tryz.prog Z4Z k Z9M := LOK.by [] (by kernel_rfl) AllOK.nil
theorem Zvi (x : Zda.D) : Z4q.lp 0 x = none := by kernel_rfl
theorem Zt2 (k : Nat) : EOK Tryz.prog Z4Z k Z4q.E (.block 0 (.loop Z9M)) := Zb T_ok ZmF Zvi Zvj ZuT k
theorem ZA6 (k : Nat) (x : Tup Z3E.ps) : Z3E.f (k + 1) x = fnK Z3E Z4Z Zcq k x := by kernel_rfl
theorem ZAq (x : Tup Z3E.ps) : Z3E.f 0 x = none := by kernel_rfl
theorem Zzv (k : Nat) : LOK Tryz.prog Z4Z k Zcq := LOK.by [(Z4q.E, .block 0 (.loop Z9M))] (by kernel_rfl) (AllOK.cons (Zt2 k) AllOK.nil)
theorem ZAN (k : Nat) : SoundAt Tryz.prog k 35 Z3E.E := @Z3 Tryz.prog Z3E Z4Z 35 Tryz.f35 Zcq (by kernel_rfl) (by kernel_rfl) (by kernel_rfl) Tryz.func35 (by kernel_rfl) (by kernel_rfl) (by kernel_rfl) T_ok ZmF Zzv ZAq ZA6 k
noncomputable def Z9s : List PK := [PK.mk Ty.bool false none false none, PK.mk Ty.bool false none false none]
noncomputable def Zm0 : List PK := [PK.mk (Ty.pair (Ty.int .i64) (Ty.pair (Ty.int .i64) (Ty.slice (122 : Nat) (Ty.pair (Ty.int .i64) (Ty.int .i64))))) true none false none, PK.mk (Ty.slice (42 : Nat) (Ty.pair (Ty.int .i64) (Ty.pair (Ty.int .i64) (Ty.int .i64)))) false none false none]
noncomputable def ZjU (r : Bool × Bool) : Tup Z9s × OutD := ((r.1, r.2, ()), none)
noncomputable def Zk8 : Tup Z9s × OutD → Option (Bool × Bool)
 | (a, none) => some (a.1, a.2.1)
 | _ => none
theorem Zse : ∀ b r, Zk8 b = some r → ZjU r = b := by
 rintro ⟨a, o⟩ r h
 cases o with
 | none => injection h with h; subst h; rfl
 | some _ => cases h
noncomputable def Zca : Nat → Int × Int × List (Int × Int) → List (Int × Int × Int) → Option (Bool × Bool)
 | 0, _, _ => none
 | k + 1, p0, p1 =>
  Option.bind (Z6Z k (Prod.fst p0, Prod.fst p0.2, Prod.snd p0.2)) fun z0 => if (!z0) = true then some (false, false) else Option.bind (Z9a k (Prod.fst p0, Prod.fst p0.2, Prod.snd p0.2) p1) fun z1 => some (z1, true)
noncomputable def Z3z : FnDef := .of Zm0 Z9s (Bool × Bool) (fun k x => Zca k x.1 x.2.1) ZjU Zk8 Zse
noncomputable def Zg6 : Code := Tryz.f44.body.getD .skip
noncomputable def Zco : Ctx (Tup Z9s × OutD) := { T := T, G := [(83, Z2u.E), (69, Z2L.E)], mvs := [], no := 0, n := 12, res := resOf T Zm0 Z9s Tryz.f44.results.toList, loops := [], regs := [], conds := [], cuts := [] }
theorem ZAl (k : Nat) : EnvOK Tryz.prog k Zco.G := (EnvOK.cons (Zeb k) (EnvOK.cons (ZlX k) (EnvOK.nil mixed)))
theorem ZBf (k : Nat) (x : Tup Z3z.ps) : Z3z.f (k + 1) x = fnK Z3z Zco Zg6 k x := by kernel_rfl
theorem ZA9 (x : Tup Z3z.ps) : Z3z.f 0 x = none := by kernel_rfl
theorem ZAd (k : Nat) : LOK Tryz.prog Zco k Zg6 := LOK.by [] (by kernel_rfl) AllOK.nil
theorem ZBg (k : Nat) : SoundAt Tryz.prog k 44 Z3z.E := @Z3 Tryz.prog Z3z Zco 44 Tryz.f44 Zg6 (by kernel_rfl) (by kernel_rfl) (by kernel_rfl) Tryz.func44 (by kernel_rfl) (by kernel_rfl) (by kernel_rfl) T_ok ZAl ZAd ZA9 ZBf k
noncomputable def Z7O : List PK := [PK.mk (Ty.slice (42 : Nat) (Ty.pair (Ty.int .i64) (Ty.pair (Ty.int .i64) (Ty.int .i64)))) false none false none]
noncomputable def Zob : List PK := [PK.mk (Ty.pair (Ty.int .i64) (Ty.pair (Ty.int .i64) (Ty.slice (122 : Nat) (Ty.pair (Ty.int .i64) (Ty.int .i64))))) true none false none, PK.mk (Ty.slice (3 : Nat) (Ty.int .i64)) false none false none]
noncomputable def ZlU (r : List (Int × Int × Int)) : Tup Z7O × OutD := ((r, ()), none)
noncomputable def ZlW : Tup Z7O × OutD → Option (List (Int × Int × Int))
 | (a, none) => some (a.1)
 | _ => none
theorem ZuU : ∀ b r, ZlW b = some r → ZlU r = b := by
 rintro ⟨a, o⟩ r h
 cases o with
 | none => injection h with h; subst h; rfl
 | some _ => cases h
noncomputable def Z49 : Nat → Int → Int → List (Int × Int) → List (Int × Int × Int) → List (Int × Int × Int) → List Int → Int → Int → Option (List (Int × Int × Int))
 | 0, _, _, _, _, _, _, _, _ => none
 | k + 1, b1_0, b1_1, b1_2, o2, o3, v1, v10, v11 =>
  if decide (v11 < v10) = true then if (0 : Int) ≤ v11 then if v11 < (↑(List.length o3) : Int) then Option.bind (Za7 k (b1_0, b1_1, b1_2) [(Prod.fst (List.getD o3 (Int.toNat v11) ((0 : Int), (0 : Int), (0 : Int))), Prod.fst (Prod.snd (List.getD o3 (Int.toNat v11) ((0 : Int), (0 : Int), (0 : Int)))), Prod.snd (Prod.snd (List.getD o3 (Int.toNat v11) ((0 : Int), (0 : Int), (0 : Int)))))] v1) fun z1 => if decide (z1 < (0 : Int)) = true then if List.length o2 + List.length [(Prod.fst (List.getD o3 (Int.toNat v11) ((0 : Int), (0 : Int), (0 : Int))), Prod.fst (Prod.snd (List.getD o3 (Int.toNat v11) ((0 : Int), (0 : Int), (0 : Int)))), Prod.snd (Prod.snd (List.getD o3 (Int.toNat v11) ((0 : Int), (0 : Int), (0 : Int)))))] ≤ (140737488355328 / 24 : Nat) then Z49 k b1_0 b1_1 b1_2 (o2 ++ [(Prod.fst (List.getD o3 (Int.toNat v11) ((0 : Int), (0 : Int), (0 : Int))), Prod.fst (Prod.snd (List.getD o3 (Int.toNat v11) ((0 : Int), (0 : Int), (0 : Int)))), Prod.snd (Prod.snd (List.getD o3 (Int.toNat v11) ((0 : Int), (0 : Int), (0 : Int)))))]) o3 v1 v10 (wrap64 (v11 + (1 : Int))) else none else Z49 k b1_0 b1_1 b1_2 o2 o3 v1 v10 (wrap64 (v11 + (1 : Int))) else none else none else some o2
noncomputable def ZdQ : Spec := Spec.mk [OSh.ro, OSh.box (26 : Nat) [Sh.int .i64, Sh.int .i64, Sh.snap (0 : Nat) (Ty.pair (Ty.int .i64) (Ty.int .i64))], OSh.row true (42 : Nat) (Ty.pair (Ty.int .i64) (Ty.pair (Ty.int .i64) (Ty.int .i64))), OSh.row true (42 : Nat) (Ty.pair (Ty.int .i64) (Ty.pair (Ty.int .i64) (Ty.int .i64)))] [((1 : Nat), TSh.at (Sh.snap (0 : Nat) (Ty.int .i64))), ((2 : Nat), TSh.at (Sh.ptr (1 : Nat) (0 : Nat))), ((5 : Nat), TSh.at (Sh.sl (2 : Nat))), ((9 : Nat), TSh.at (Sh.sl (3 : Nat))), ((10 : Nat), TSh.at (Sh.int .i64)), ((11 : Nat), TSh.at (Sh.int .i64))]
noncomputable def ZwX : Spec := Spec.mk [OSh.ro, OSh.row true (42 : Nat) (Ty.pair (Ty.int .i64) (Ty.pair (Ty.int .i64) (Ty.int .i64)))] [((5 : Nat), TSh.at (Sh.sl (1 : Nat)))]
noncomputable def Z5c : LoopDef (Tup Z7O × OutD) := .plain ZdQ ZwX (List (Int × Int × Int)) (fun k x => Z49 k x.1.2.1.1 x.1.2.1.2.1 x.1.2.1.2.2.1 x.1.2.2.1 x.1.2.2.2.1 x.2.1 x.2.2.2.2.2.1 x.2.2.2.2.2.2.1) (fun z => (((), z, ()), ((), ()))) (fun y => (y.1.2.1)) (fun _ => rfl)
noncomputable def Zak : Nat → Int × Int × List (Int × Int) → List Int → Option (List (Int × Int × Int))
 | 0, _, _ => none
 | k + 1, p0, p1 =>
  Option.bind (Z4e k (Prod.fst p0, Prod.fst p0.2, Prod.snd p0.2)) fun z0 => Option.bind (Z49 k p0.1 p0.2.1 p0.2.2 [] z0 p1 (↑(List.length z0) : Int) (0 : Int)) fun z2 => some z2
noncomputable def Z3n : FnDef := .of Zob Z7O (List (Int × Int × Int)) (fun k x => Zak k x.1 x.2.1) ZlU ZlW ZuU
noncomputable def Zdu : Code := Tryz.f66.body.getD .skip
noncomputable def Z65 : Ctx (Tup Z7O × OutD) := { T := T, G := [(67, Z1k.E), (71, Z4I.E)], mvs := [], no := 0, n := 27, res := resOf T Zob Z7O Tryz.f66.results.toList, loops := [(0, Z5c.E)], regs := [], conds := [], cuts := [] }
theorem ZoH (k : Nat) : EnvOK Tryz.prog k Z65.G := (EnvOK.cons (Zba k) (EnvOK.cons (ZtR k) (EnvOK.nil mixed)))
noncomputable def Zaw : Code := (findLoop 0 Zdu).getD .skip
theorem ZwG (k : Nat) (x : ZdQ.D) : Z5c.lp (k + 1) x = loopK Z65 Z5c 0 Zaw k x := by kernel_rfl
theorem ZvN (k : Nat) : LOK Tryz.prog Z65 k Zaw := LOK.by [] (by kernel_rfl) AllOK.nil
theorem Zwi (x : ZdQ.D) : Z5c.lp 0 x = none := by kernel_rfl
theorem ZuN (k : Nat) : EOK Tryz.prog Z65 k Z5c.E (.block 0 (.loop Zaw)) := Zb T_ok ZoH Zwi ZwG ZvN k
theorem ZBL (k : Nat) (x : Tup Z3n.ps) : Z3n.f (k + 1) x = fnK Z3n Z65 Zdu k x := by kernel_rfl
theorem ZCy (x : Tup Z3n.ps) : Z3n.f 0 x = none := by kernel_rfl
theorem ZBr (k : Nat) : LOK Tryz.prog Z65 k Zdu := LOK.by [(Z5c.E, .block 0 (.loop Zaw))] (by kernel_rfl) (AllOK.cons (ZuN k) AllOK.nil)
theorem Zoy (k : Nat) : SoundAt Tryz.prog k 66 Z3n.E := @Z3 Tryz.prog Z3n Z65 66 Tryz.f66 Zdu (by kernel_rfl) (by kernel_rfl) (by kernel_rfl) Tryz.func66 (by kernel_rfl) (by kernel_rfl) (by kernel_rfl) T_ok ZoH ZBr ZCy ZBL k
noncomputable def Z3v : List PK := [PK.mk (Ty.pair (Ty.int .i64) (Ty.pair (Ty.int .i64) (Ty.slice (122 : Nat) (Ty.pair (Ty.int .i64) (Ty.int .i64))))) true none false none]
noncomputable def Zgr : List PK := [PK.mk (Ty.pair (Ty.slice (5 : Nat) (Ty.int .u8)) (Ty.pair (Ty.int .i64) (Ty.int .u64))) false none false (some (82 : Nat))]
noncomputable def Zf2 (r : (Int × Int × List (Int × Int)) × Int × Int) : Tup Z3v × OutD := ((r.1, ()), some ⟨Ty.pair (Ty.slice (5 : Nat) (Ty.int .u8)) (Ty.pair (Ty.int .i64) (Ty.int .u64)), [([], r.2)]⟩)
noncomputable def ZaV : Tup Z3v × OutD → Option ((Int × Int × List (Int × Int)) × Int × Int)
 | (a, some ⟨u, ys⟩) => if h : u = Ty.pair (Ty.slice (5 : Nat) (Ty.int .u8)) (Ty.pair (Ty.int .i64) (Ty.int .u64)) then (match castU h ys with
  | [([], y)] => some (a.1, y)
  | _ => none) else none
 | _ => none
theorem ZkQ : ∀ b r, ZaV b = some r → Zf2 r = b := by
 rintro ⟨a, o⟩ r h
 cases o with
 | none => cases h
 | some s =>
  obtain ⟨u, ys⟩ := s
  simp only [ZaV] at h
  split at h
  ·rename_i hu
   subst hu
   match ys, h with
   | [], h => cases (show (none : Option _) = some r from h)
   | [([], y)], h => injection (show some _ = some r from h) with h; subst h; rfl
   | [(_ :: _, y)], h => cases (show (none : Option _) = some r from h)
   | (h1, _) :: _ :: _, h => cases h1 <;> cases (show (none : Option _) = some r from h)
  ·cases h
noncomputable def Z1s : Nat → Int → Int → List Int → Int → Int → List (Int × Int) → Int → Int → List (Int × Int) → Option (Int × Int × List Int × Int × Int × List (Int × Int) × Int × Int × List (Int × Int)) := fun k b1_1 b1_2 o2 b3_0 b3_1 o4 b5_0 b5_1 o6 =>
    Option.bind (Z0 k (o2, b1_1, b1_2) (↑(List.length o6) : Int)) fun z4 => Option.bind (Z1l k (o2, Prod.fst z4.2, Prod.snd z4.2)) fun z5 => if (0 : Int) ≤ Prod.fst z4 then if Prod.fst z4 < (↑(List.length o6) : Int) then some (Prod.fst z5.2, Prod.snd z5.2, o2, b3_0, b3_1, o4, b5_0, b5_1, List.set o6 (Int.toNat z4.1) (Prod.fst z5.1, Prod.snd z5.1)) else none else none
noncomputable def Z5u : Nat → Int → Int → List Int → Int → Int → List (Int × Int) → Int → Int → List (Int × Int) → Option (List (Int × Int × List Int × Int × Int × List (Int × Int) × Int × Int × List (Int × Int))) := fun k b1_1 b1_2 o2 b3_0 b3_1 o4 b5_0 b5_1 o6 =>
    joinL (Option.bind (Z0 k (o2, b1_1, b1_2) (↑(List.length o6) : Int)) fun z6 => Option.bind (Z1l k (o2, Prod.fst z6.2, Prod.snd z6.2)) fun z7 => if (0 : Int) ≤ Prod.fst z6 then if Prod.fst z6 < (↑(List.length o6) : Int) then some [(Prod.fst z7.2, Prod.snd z7.2, o2, b3_0, b3_1, o4, b5_0, b5_1, List.set o6 (Int.toNat z6.1) (Prod.fst z7.1, Prod.snd z7.1))] else none else none) (Option.bind (Z0 k (o2, b1_1, b1_2) (↑(List.length o6) : Int)) fun z8 => joinL (Option.bind (Z1l k (o2, Prod.fst z8.2, Prod.snd z8.2)) fun z9 => if (0 : Int) ≤ Prod.fst z8 then if Prod.fst z8 < (↑(List.length o6) : Int) then some [(Prod.fst z9.2, Prod.snd z9.2, o2, b3_0, b3_1, o4, b5_0, b5_1, List.set o6 (Int.toNat z8.1) (Prod.fst z9.1, Prod.snd z9.1))] else none else none) (Option.bind (Z1l k (o2, Prod.fst z8.2, Prod.snd z8.2)) fun z10 => if (0 : Int) ≤ Prod.fst z8 then if Prod.fst z8 < (↑(List.length o6) : Int) then some [(Prod.fst z10.2, Prod.snd z10.2, o2, b3_0, b3_1, o4, b5_0, b5_1, List.set o6 (Int.toNat z8.1) (Prod.fst z10.1, Prod.snd z10.1))] else none else none))
noncomputable def Zdp : Spec := Spec.mk [OSh.ro, OSh.box (82 : Nat) [Sh.sl (2 : Nat), Sh.int .i64, Sh.int .u64], OSh.fx (Ty.int .u8), OSh.box (26 : Nat) [Sh.int .i64, Sh.int .i64, Sh.sl (4 : Nat)], OSh.row true (122 : Nat) (Ty.pair (Ty.int .i64) (Ty.int .i64)), OSh.box (26 : Nat) [Sh.int .i64, Sh.int .i64, Sh.sl (6 : Nat)], OSh.row true (122 : Nat) (Ty.pair (Ty.int .i64) (Ty.int .i64))] [((0 : Nat), TSh.at (Sh.ptr (1 : Nat) (0 : Nat))), ((2 : Nat), TSh.at (Sh.ptr (3 : Nat) (0 : Nat))), ((3 : Nat), TSh.at (Sh.ptr (5 : Nat) (0 : Nat)))]
noncomputable def ZkR : Spec := Spec.mk [OSh.ro, OSh.box (82 : Nat) [Sh.sl (2 : Nat), Sh.int .i64, Sh.int .u64], OSh.fx (Ty.int .u8), OSh.box (26 : Nat) [Sh.int .i64, Sh.int .i64, Sh.sl (4 : Nat)], OSh.row true (122 : Nat) (Ty.pair (Ty.int .i64) (Ty.int .i64)), OSh.box (26 : Nat) [Sh.int .i64, Sh.int .i64, Sh.sl (6 : Nat)], OSh.row true (122 : Nat) (Ty.pair (Ty.int .i64) (Ty.int .i64))] [((2 : Nat), TSh.at (Sh.ptr (3 : Nat) (0 : Nat))), ((3 : Nat), TSh.at (Sh.ptr (5 : Nat) (0 : Nat)))]
noncomputable def Z2b : LoopDef (Tup Z3v × OutD) := .plain Zdp ZkR (Int × Int × List Int × Int × Int × List (Int × Int) × Int × Int × List (Int × Int)) (fun k x => Z1s k x.1.2.1.2.1 x.1.2.1.2.2.1 x.1.2.2.1 x.1.2.2.2.1.1 x.1.2.2.2.1.2.1 x.1.2.2.2.2.1 x.1.2.2.2.2.2.1.1 x.1.2.2.2.2.2.1.2.1 x.1.2.2.2.2.2.2.1) (fun z => (((), ((), z.1, z.2.1, ()), z.2.2.1, (z.2.2.2.1, z.2.2.2.2.1, (), ()), z.2.2.2.2.2.1, (z.2.2.2.2.2.2.1, z.2.2.2.2.2.2.2.1, (), ()), z.2.2.2.2.2.2.2.2, ()), ((), (), ()))) (fun y => (y.1.2.1.2.1, y.1.2.1.2.2.1, y.1.2.2.1, y.1.2.2.2.1.1, y.1.2.2.2.1.2.1, y.1.2.2.2.2.1, y.1.2.2.2.2.2.1.1, y.1.2.2.2.2.2.1.2.1, y.1.2.2.2.2.2.2.1)) (fun _ => rfl)
theorem Zl4 (k : Nat) (b1_1 : Int) (b1_2 : Int) (o2 : List Int) (b3_0 : Int) (b3_1 : Int) (o4 : List (Int × Int)) (b5_0 : Int) (b5_1 : Int) (o6 : List (Int × Int)) : Z5u k b1_1 b1_2 o2 b3_0 b3_1 o4 b5_0 b5_1 o6 = repl 3 (Z1s k b1_1 b1_2 o2 b3_0 b3_1 o4 b5_0 b5_1 o6) := by
 first
 | (simp only [Z5u, Z1s, Zd, Zi, Zf, Zg, Ze, Z4, if_true]; done)
 | (simp only [Z5u, Z1s, Zd, Zi, Zf, Zg, Ze, Z4, if_true]; simp only [Z1n, Z1o, Z2J, Z4]; simp only [Z44]; exact Z22 ⟨fun h => by simp only [h, and_self], fun h => by simp only [h, and_self]⟩)
noncomputable def Zm : Nat → List Int × Int × Int → Option ((Int × Int × List (Int × Int)) × Int × Int)
 | 0, _ => none
 | k + 1, p0 =>
  Option.bind (Z7z k (Prod.fst p0, Prod.fst p0.2, Prod.snd p0.2)) fun z0 => Option.bind (Z0 k (Prod.fst p0, Prod.fst z0.2, Prod.snd z0.2) (36 : Int)) fun z1 => if decide (Prod.fst z1 = (0 : Int)) = true then Option.bind (Z5 k (Prod.fst p0, Prod.fst z1.2, Prod.snd z1.2) [(0 : Int), wrap64 (Prod.fst z0.1 + (1 : Int)), (10 : Int), (11 : Int)]) fun z2 => some ((Prod.fst z2, Prod.fst z0.1.2, Prod.snd z0.1.2), Prod.fst z2.2, Prod.snd z2.2) else if decide (Prod.fst z1 = (1 : Int)) = true then Option.bind (Z5 k (Prod.fst p0, Prod.fst z1.2, Prod.snd z1.2) [(0 : Int), wrap64 (Prod.fst z0.1.2 + (1 : Int)), (9 : Int), (10 : Int)]) fun z3 => some ((Prod.fst z0.1, Prod.fst z3, Prod.snd z0.1.2), Prod.fst z3.2, Prod.snd z3.2) else if decide (Prod.fst z1 = (2 : Int)) = true then Option.bind (Z1s k z1.2.1 z1.2.2 p0.1 (0 : Int) (0 : Int) [] z0.1.1 z0.1.2.1 z0.1.2.2) fun z11 => some ((Prod.fst z11.2.2.2.2.2.2, Prod.fst z11.2.2.2.2.2.2.2, Prod.snd z11.2.2.2.2.2.2.2), Prod.fst z11, Prod.fst z11.2) else if decide (Prod.fst z1 = (3 : Int)) = true then if (1 : Int) ≤ (↑(List.length z0.1.2.2) : Int) then if (↑(List.length z0.1.2.2) : Int) ≤ (↑(List.length z0.1.2.2) : Int) then some ((Prod.fst z0.1, Prod.fst z0.1.2, List.drop (Int.toNat (1 : Int)) z0.1.2.2), Prod.fst z1.2, Prod.snd z1.2) else none else none else if decide (Prod.fst z1 = (4 : Int)) = true then some (((11 : Int), (2 : Int), List.replicate (Int.toNat (22 : Int)) ((0 : Int), (0 : Int))), Prod.fst z1.2, Prod.snd z1.2) else if decide (Prod.fst z1 = (5 : Int)) = true then some (((2 : Int), (10 : Int), List.replicate (Int.toNat (20 : Int)) ((0 : Int), (0 : Int))), Prod.fst z1.2, Prod.snd z1.2) else some ((Prod.fst z0.1, Prod.fst z0.1.2, Prod.snd z0.1.2), Prod.fst z1.2, Prod.snd z1.2)
noncomputable def ZV : FnDef := .of Zgr Z3v ((Int × Int × List (Int × Int)) × Int × Int) (fun k x => Zm k x.1) Zf2 ZaV ZkQ
noncomputable def Z7S : Code := Tryz.f96.body.getD .skip
noncomputable def ZX : Ctx (Tup Z3v × OutD) := { T := T, G := [(122, Z2x.E), (73, Za.E), (72, Zq.E), (123, Z1Y.E)], mvs := [42], no := 2, n := 53, res := resOf T Zgr Z3v Tryz.f96.results.toList, loops := [], regs := [(8, Z2b.E)], conds := [], cuts := [] }
theorem Zgl (k : Nat) : EnvOK Tryz.prog k ZX.G := (EnvOK.cons (Zwj k) (EnvOK.cons (ZA k) (EnvOK.cons (Z2z k) (EnvOK.cons (ZrQ k) (EnvOK.nil mixed)))))
noncomputable def Z8n : Array Oper := (findReg 8 Z7S).getD #[]
theorem Zlc (k : Nat) (x : Zdp.D) : execD ZX.T ZX.G ZX.mvs k Z8n (Z2b.inp.st ZX.n x) (outK ZX Z2b) = Z5u k x.1.2.1.2.1 x.1.2.1.2.2.1 x.1.2.2.1 x.1.2.2.2.1.1 x.1.2.2.2.1.2.1 x.1.2.2.2.2.1 x.1.2.2.2.2.2.1.1 x.1.2.2.2.2.2.1.2.1 x.1.2.2.2.2.2.2.1 := by kernel_rfl
theorem ZjJ (k : Nat) : EOK Tryz.prog ZX k Z2b.E (.region 8 Z8n true) := Z5X (D := Z2b) (m := 3) T_ok (Zgl k) (fun x => (Zlc k x).trans (Zl4 k x.1.2.1.2.1 x.1.2.1.2.2.1 x.1.2.2.1 x.1.2.2.2.1.1 x.1.2.2.2.1.2.1 x.1.2.2.2.2.1 x.1.2.2.2.2.2.1.1 x.1.2.2.2.2.2.1.2.1 x.1.2.2.2.2.2.2.1))
theorem Zrd (k : Nat) (x : Tup ZV.ps) : ZV.f (k + 1) x = fnK ZV ZX Z7S k x := by kernel_rfl
theorem Zqe (x : Tup ZV.ps) : ZV.f 0 x = none := by kernel_rfl
theorem ZqI (k : Nat) : LOK Tryz.prog ZX k Z7S := LOK.by [(Z2b.E, .region 8 Z8n true)] (by kernel_rfl) (AllOK.cons (ZjJ k) AllOK.nil)
theorem Zbx (k : Nat) : SoundAt Tryz.prog k 96 ZV.E := @Z3 Tryz.prog ZV ZX 96 Tryz.f96 Z7S (by kernel_rfl) (by kernel_rfl) (by kernel_rfl) Tryz.func96 (by kernel_rfl) (by kernel_rfl) (by kernel_rfl) T_ok Zgl ZqI Zqe Zrd k
end
end Go.Proofs.YtglkedenkcpcbaaGreatDoor.Vs

set_option maxRecDepth 100000
set_option maxHeartbeats 2000000
set_option linter.unusedVariables false
set_option linter.unusedSimpArgs false
namespace Go.Proofs.YtglkedenkcpcbaaGreatDoor.Vs
open Go.RowKit
noncomputable section
noncomputable def Z6A : List PK := [PK.mk (Ty.slice (42 : Nat) (Ty.pair (Ty.int .i64) (Ty.pair (Ty.int .i64) (Ty.int .i64)))) false none false none, PK.mk Ty.bool false none false none]
noncomputable def Zi8 : List PK := [PK.mk (Ty.pair (Ty.int .i64) (Ty.pair (Ty.int .i64) (Ty.slice (122 : Nat) (Ty.pair (Ty.int .i64) (Ty.int .i64))))) true none false none, PK.mk (Ty.slice (3 : Nat) (Ty.int .i64)) false none false none]
noncomputable def ZgO (r : List (Int × Int × Int) × Bool) : Tup Z6A × OutD := ((r.1, r.2, ()), none)
noncomputable def Zhc : Tup Z6A × OutD → Option (List (Int × Int × Int) × Bool)
 | (a, none) => some (a.1, a.2.1)
 | _ => none
theorem ZnH : ∀ b r, Zhc b = some r → ZgO r = b := by
 rintro ⟨a, o⟩ r h
 cases o with
 | none => injection h with h; subst h; rfl
 | some _ => cases h
noncomputable def Z9O : Nat → Int × Int × List (Int × Int) → List Int → Option (List (Int × Int × Int) × Bool)
 | 0, _, _ => none
 | k + 1, p0, p1 =>
  Option.bind (Z3G k (Prod.fst p0, Prod.fst p0.2, Prod.snd p0.2) p1) fun z0 => if (!z0) = true then some ([], false) else Option.bind (Zak k (Prod.fst p0, Prod.fst p0.2, Prod.snd p0.2) p1) fun z1 => some (z1, true)
noncomputable def Z2c : FnDef := .of Zi8 Z6A (List (Int × Int × Int) × Bool) (fun k x => Z9O k x.1 x.2.1) ZgO Zhc ZnH
noncomputable def Zd9 : Code := Tryz.f26.body.getD .skip
noncomputable def Z9L : Ctx (Tup Z6A × OutD) := { T := T, G := [(65, Z1h.E), (66, Z3n.E)], mvs := [], no := 0, n := 13, res := resOf T Zi8 Z6A Tryz.f26.results.toList, loops := [], regs := [], conds := [], cuts := [] }
theorem ZuK (k : Nat) : EnvOK Tryz.prog k Z9L.G := (EnvOK.cons (Z99 k) (EnvOK.cons (Zoy k) (EnvOK.nil mixed)))
theorem ZuO (k : Nat) (x : Tup Z2c.ps) : Z2c.f (k + 1) x = fnK Z2c Z9L Zd9 k x := by kernel_rfl
theorem Zuw (x : Tup Z2c.ps) : Z2c.f 0 x = none := by kernel_rfl
theorem ZuZ (k : Nat) : LOK Tryz.prog Z9L k Zd9 := LOK.by [] (by kernel_rfl) AllOK.nil
theorem ZuA (k : Nat) : SoundAt Tryz.prog k 26 Z2c.E := @Z3 Tryz.prog Z2c Z9L 26 Tryz.f26 Zd9 (by kernel_rfl) (by kernel_rfl) (by kernel_rfl) Tryz.func26 (by kernel_rfl) (by kernel_rfl) (by kernel_rfl) T_ok ZuK ZuZ Zuw ZuO k
noncomputable def Z9B : List PK := [PK.mk (Ty.int .i64) false none false none, PK.mk (Ty.int .i64) false none false none, PK.mk Ty.bool false none false none]
noncomputable def Zmq : List PK := [PK.mk (Ty.pair (Ty.int .i64) (Ty.pair (Ty.int .i64) (Ty.slice (122 : Nat) (Ty.pair (Ty.int .i64) (Ty.int .i64))))) true none false none, PK.mk (Ty.slice (3 : Nat) (Ty.int .i64)) false none false none]
noncomputable def Zkp (r : Int × Int × Bool) : Tup Z9B × OutD := ((r.1, r.2.1, r.2.2, ()), none)
noncomputable def ZjW : Tup Z9B × OutD → Option (Int × Int × Bool)
 | (a, none) => some (a.1, a.2.1, a.2.2.1)
 | _ => none
theorem ZsQ : ∀ b r, ZjW b = some r → Zkp r = b := by
 rintro ⟨a, o⟩ r h
 cases o with
 | none => injection h with h; subst h; rfl
 | some _ => cases h
noncomputable def Zci : Nat → Int × Int × List (Int × Int) → List Int → Option (Int × Int × Bool)
 | 0, _, _ => none
 | k + 1, p0, p1 =>
  Option.bind (Z4o k (Prod.fst p0, Prod.fst p0.2, Prod.snd p0.2) p1) fun z0 => if (!Prod.snd z0) = true then some ((0 : Int), (0 : Int), false) else Option.bind (Z3u k (Prod.fst p0, Prod.fst p0.2, Prod.snd p0.2)) fun z1 => some (wrap64 ((↑(List.length z1) : Int) - (↑(List.length z0.1) : Int)), (↑(List.length z1) : Int), true)
noncomputable def Z3K : FnDef := .of Zmq Z9B (Int × Int × Bool) (fun k x => Zci k x.1 x.2.1) Zkp ZjW ZsQ
noncomputable def ZfQ : Code := Tryz.f27.body.getD .skip
noncomputable def Zcd : Ctx (Tup Z9B × OutD) := { T := T, G := [(25, Z1x.E), (63, ZU.E)], mvs := [], no := 0, n := 26, res := resOf T Zmq Z9B Tryz.f27.results.toList, loops := [], regs := [], conds := [], cuts := [] }
theorem ZyV (k : Nat) : EnvOK Tryz.prog k Zcd.G := (EnvOK.cons (Zi7 k) (EnvOK.cons (Zbw k) (EnvOK.nil mixed)))
theorem Zz9 (k : Nat) (x : Tup Z3K.ps) : Z3K.f (k + 1) x = fnK Z3K Zcd ZfQ k x := by kernel_rfl
theorem ZAR (x : Tup Z3K.ps) : Z3K.f 0 x = none := by kernel_rfl
theorem ZzP (k : Nat) : LOK Tryz.prog Zcd k ZfQ := LOK.by [] (by kernel_rfl) AllOK.nil
theorem Zzf (k : Nat) : SoundAt Tryz.prog k 27 Z3K.E := @Z3 Tryz.prog Z3K Zcd 27 Tryz.f27 ZfQ (by kernel_rfl) (by kernel_rfl) (by kernel_rfl) Tryz.func27 (by kernel_rfl) (by kernel_rfl) (by kernel_rfl) T_ok ZyV ZzP ZAR Zz9 k
noncomputable def Z9w : List PK := [PK.mk (Ty.int .i64) false none false none, PK.mk (Ty.int .i64) false none false none, PK.mk Ty.bool false none false none]
noncomputable def Zn9 : List PK := [PK.mk (Ty.pair (Ty.int .i64) (Ty.pair (Ty.int .i64) (Ty.slice (122 : Nat) (Ty.pair (Ty.int .i64) (Ty.int .i64))))) true none false none, PK.mk (Ty.slice (3 : Nat) (Ty.int .i64)) false none false none]
noncomputable def Zkc (r : Int × Int × Bool) : Tup Z9w × OutD := ((r.1, r.2.1, r.2.2, ()), none)
noncomputable def Zkn : Tup Z9w × OutD → Option (Int × Int × Bool)
 | (a, none) => some (a.1, a.2.1, a.2.2.1)
 | _ => none
theorem ZsF : ∀ b r, Zkn b = some r → Zkc r = b := by
 rintro ⟨a, o⟩ r h
 cases o with
 | none => injection h with h; subst h; rfl
 | some _ => cases h
noncomputable def Zcg : Nat → Int × Int × List (Int × Int) → List Int → Option (Int × Int × Bool)
 | 0, _, _ => none
 | k + 1, p0, p1 =>
  Option.bind (Z3G k (Prod.fst p0, Prod.fst p0.2, Prod.snd p0.2) p1) fun z0 => if (!z0) = true then some ((0 : Int), (0 : Int), false) else Option.bind (Z4e k (Prod.fst p0, Prod.fst p0.2, Prod.snd p0.2)) fun z1 => Option.bind (Zak k (Prod.fst p0, Prod.fst p0.2, Prod.snd p0.2) p1) fun z2 => some (wrap64 ((↑(List.length z1) : Int) - (↑(List.length z2) : Int)), (↑(List.length z1) : Int), true)
noncomputable def Z3F : FnDef := .of Zn9 Z9w (Int × Int × Bool) (fun k x => Zcg k x.1 x.2.1) Zkc Zkn ZsF
noncomputable def ZfC : Code := Tryz.f28.body.getD .skip
noncomputable def Zcr : Ctx (Tup Z9w × OutD) := { T := T, G := [(65, Z1h.E), (67, Z1k.E), (66, Z3n.E)], mvs := [], no := 0, n := 22, res := resOf T Zn9 Z9w Tryz.f28.results.toList, loops := [], regs := [], conds := [], cuts := [] }
theorem ZAu (k : Nat) : EnvOK Tryz.prog k Zcr.G := (EnvOK.cons (Z99 k) (EnvOK.cons (Zba k) (EnvOK.cons (Zoy k) (EnvOK.nil mixed))))
theorem ZyY (k : Nat) (x : Tup Z3F.ps) : Z3F.f (k + 1) x = fnK Z3F Zcr ZfC k x := by kernel_rfl
theorem Zzo (x : Tup Z3F.ps) : Z3F.f 0 x = none := by kernel_rfl
theorem ZyZ (k : Nat) : LOK Tryz.prog Zcr k ZfC := LOK.by [] (by kernel_rfl) AllOK.nil
theorem ZB5 (k : Nat) : SoundAt Tryz.prog k 28 Z3F.E := @Z3 Tryz.prog Z3F Zcr 28 Tryz.f28 ZfC (by kernel_rfl) (by kernel_rfl) (by kernel_rfl) Tryz.func28 (by kernel_rfl) (by kernel_rfl) (by kernel_rfl) T_ok ZAu ZyZ Zzo ZyY k
noncomputable def Z2e : List PK := [PK.mk (Ty.pair (Ty.int .i64) (Ty.pair (Ty.int .i64) (Ty.slice (122 : Nat) (Ty.pair (Ty.int .i64) (Ty.int .i64))))) true none false none]
noncomputable def Zi9 : List PK := [PK.mk (Ty.pair (Ty.slice (5 : Nat) (Ty.int .u8)) (Ty.pair (Ty.int .i64) (Ty.int .u64))) false none false (some (82 : Nat))]
noncomputable def Zhr (r : (Int × Int × List (Int × Int)) × Int × Int) : Tup Z2e × OutD := ((r.1, ()), some ⟨Ty.pair (Ty.slice (5 : Nat) (Ty.int .u8)) (Ty.pair (Ty.int .i64) (Ty.int .u64)), [([], r.2)]⟩)
noncomputable def Zc9 : Tup Z2e × OutD → Option ((Int × Int × List (Int × Int)) × Int × Int)
 | (a, some ⟨u, ys⟩) => if h : u = Ty.pair (Ty.slice (5 : Nat) (Ty.int .u8)) (Ty.pair (Ty.int .i64) (Ty.int .u64)) then (match castU h ys with
  | [([], y)] => some (a.1, y)
  | _ => none) else none
 | _ => none
theorem ZnP : ∀ b r, Zc9 b = some r → Zhr r = b := by
 rintro ⟨a, o⟩ r h
 cases o with
 | none => cases h
 | some s =>
  obtain ⟨u, ys⟩ := s
  simp only [Zc9] at h
  split at h
  ·rename_i hu
   subst hu
   match ys, h with
   | [], h => cases (show (none : Option _) = some r from h)
   | [([], y)], h => injection (show some _ = some r from h) with h; subst h; rfl
   | [(_ :: _, y)], h => cases (show (none : Option _) = some r from h)
   | (h1, _) :: _ :: _, h => cases h1 <;> cases (show (none : Option _) = some r from h)
  ·cases h
noncomputable def Z23 : Nat → Int → Int → List Int → Int → Int → List (Int × Int) → Int → Int → List (Int × Int) → Int → Int → Int → Option (Int × Int × List Int × Int × Int × List (Int × Int) × Int × Int × List (Int × Int) × Int × Int × Int) := fun k b1_1 b1_2 o2 b3_0 b3_1 o4 b5_0 b5_1 o6 v4 v9 v10 =>
    Option.bind (Z5 k (o2, b1_1, b1_2) [(6 : Int), (6 : Int), (7 : Int), (0 : Int)]) fun z2 => if (0 : Int) ≤ v4 then if v4 < (↑(List.length o6) : Int) then some (Prod.fst z2.2, Prod.snd z2.2, o2, b3_0, b3_1, o4, b5_0, b5_1, List.set o6 (Int.toNat v4) (Prod.fst z2, (0 : Int)), v4, v9, v10) else none else none
noncomputable def Z6u : Nat → Int → Int → List Int → Int → Int → List (Int × Int) → Int → Int → List (Int × Int) → Int → Int → Int → Option (List (Int × Int × List Int × Int × Int × List (Int × Int) × Int × Int × List (Int × Int) × Int × Int × Int)) := fun k b1_1 b1_2 o2 b3_0 b3_1 o4 b5_0 b5_1 o6 v4 v9 v10 =>
    joinL (Option.bind (Z5 k (o2, b1_1, b1_2) [(6 : Int), (6 : Int), (7 : Int), (0 : Int)]) fun z3 => if (0 : Int) ≤ v4 then if v4 < (↑(List.length o6) : Int) then some [(Prod.fst z3.2, Prod.snd z3.2, o2, b3_0, b3_1, o4, b5_0, b5_1, List.set o6 (Int.toNat v4) (Prod.fst z3, (0 : Int)), v4, v9, v10)] else none else none) (joinL (Option.bind (Z5 k (o2, b1_1, b1_2) [(6 : Int), (6 : Int), (7 : Int), (0 : Int)]) fun z4 => if (0 : Int) ≤ v4 then if v4 < (↑(List.length o6) : Int) then some [(Prod.fst z4.2, Prod.snd z4.2, o2, b3_0, b3_1, o4, b5_0, b5_1, List.set o6 (Int.toNat v4) (Prod.fst z4, (0 : Int)), v4, v9, v10)] else none else none) (Option.bind (Z5 k (o2, b1_1, b1_2) [(6 : Int), (6 : Int), (7 : Int), (0 : Int)]) fun z5 => if (0 : Int) ≤ v4 then if v4 < (↑(List.length o6) : Int) then some [(Prod.fst z5.2, Prod.snd z5.2, o2, b3_0, b3_1, o4, b5_0, b5_1, List.set o6 (Int.toNat v4) (Prod.fst z5, (0 : Int)), v4, v9, v10)] else none else none))
noncomputable def ZeD : Spec := Spec.mk [OSh.ro, OSh.box (82 : Nat) [Sh.sl (2 : Nat), Sh.int .i64, Sh.int .u64], OSh.fx (Ty.int .u8), OSh.box (26 : Nat) [Sh.int .i64, Sh.int .i64, Sh.sl (4 : Nat)], OSh.row true (122 : Nat) (Ty.pair (Ty.int .i64) (Ty.int .i64)), OSh.box (26 : Nat) [Sh.int .i64, Sh.int .i64, Sh.sl (6 : Nat)], OSh.row true (122 : Nat) (Ty.pair (Ty.int .i64) (Ty.int .i64))] [((0 : Nat), TSh.at (Sh.ptr (1 : Nat) (0 : Nat))), ((2 : Nat), TSh.at (Sh.ptr (3 : Nat) (0 : Nat))), ((3 : Nat), TSh.at (Sh.ptr (5 : Nat) (0 : Nat))), ((4 : Nat), TSh.at (Sh.int .i64)), ((9 : Nat), TSh.at (Sh.int .i64)), ((10 : Nat), TSh.at (Sh.int .i64))]
noncomputable def ZnW : Spec := Spec.mk [OSh.ro, OSh.box (82 : Nat) [Sh.sl (2 : Nat), Sh.int .i64, Sh.int .u64], OSh.fx (Ty.int .u8), OSh.box (26 : Nat) [Sh.int .i64, Sh.int .i64, Sh.sl (4 : Nat)], OSh.row true (122 : Nat) (Ty.pair (Ty.int .i64) (Ty.int .i64)), OSh.box (26 : Nat) [Sh.int .i64, Sh.int .i64, Sh.sl (6 : Nat)], OSh.row true (122 : Nat) (Ty.pair (Ty.int .i64) (Ty.int .i64))] [((0 : Nat), TSh.at (Sh.ptr (1 : Nat) (0 : Nat))), ((2 : Nat), TSh.at (Sh.ptr (3 : Nat) (0 : Nat))), ((3 : Nat), TSh.at (Sh.ptr (5 : Nat) (0 : Nat))), ((4 : Nat), TSh.at (Sh.int .i64)), ((9 : Nat), TSh.at (Sh.int .i64)), ((10 : Nat), TSh.at (Sh.int .i64))]
noncomputable def Z2D : LoopDef (Tup Z2e × OutD) := .plain ZeD ZnW (Int × Int × List Int × Int × Int × List (Int × Int) × Int × Int × List (Int × Int) × Int × Int × Int) (fun k x => Z23 k x.1.2.1.2.1 x.1.2.1.2.2.1 x.1.2.2.1 x.1.2.2.2.1.1 x.1.2.2.2.1.2.1 x.1.2.2.2.2.1 x.1.2.2.2.2.2.1.1 x.1.2.2.2.2.2.1.2.1 x.1.2.2.2.2.2.2.1 x.2.2.2.2.1 x.2.2.2.2.2.1 x.2.2.2.2.2.2.1) (fun z => (((), ((), z.1, z.2.1, ()), z.2.2.1, (z.2.2.2.1, z.2.2.2.2.1, (), ()), z.2.2.2.2.2.1, (z.2.2.2.2.2.2.1, z.2.2.2.2.2.2.2.1, (), ()), z.2.2.2.2.2.2.2.2.1, ()), ((), (), (), z.2.2.2.2.2.2.2.2.2.1, z.2.2.2.2.2.2.2.2.2.2.1, z.2.2.2.2.2.2.2.2.2.2.2, ()))) (fun y => (y.1.2.1.2.1, y.1.2.1.2.2.1, y.1.2.2.1, y.1.2.2.2.1.1, y.1.2.2.2.1.2.1, y.1.2.2.2.2.1, y.1.2.2.2.2.2.1.1, y.1.2.2.2.2.2.1.2.1, y.1.2.2.2.2.2.2.1, y.2.2.2.2.1, y.2.2.2.2.2.1, y.2.2.2.2.2.2.1)) (fun _ => rfl)
theorem ZnX (k : Nat) (b1_1 : Int) (b1_2 : Int) (o2 : List Int) (b3_0 : Int) (b3_1 : Int) (o4 : List (Int × Int)) (b5_0 : Int) (b5_1 : Int) (o6 : List (Int × Int)) (v4 : Int) (v9 : Int) (v10 : Int) : Z6u k b1_1 b1_2 o2 b3_0 b3_1 o4 b5_0 b5_1 o6 v4 v9 v10 = repl 3 (Z23 k b1_1 b1_2 o2 b3_0 b3_1 o4 b5_0 b5_1 o6 v4 v9 v10) := by
 first
 | (simp only [Z6u, Z23, Zd, Zi, Zf, Zg, Ze, Z4, if_true]; done)
 | (simp only [Z6u, Z23, Zd, Zi, Zf, Zg, Ze, Z4, if_true]; simp only [Z1n, Z1o, Z2J, Z4]; simp only [Z44]; exact Z22 ⟨fun h => by simp only [h, and_self], fun h => by simp only [h, and_self]⟩)
noncomputable def Z27 : Nat → Int → Int → List Int → Int → Int → List (Int × Int) → Int → Int → List (Int × Int) → Int → Int → Int → Option (Int × Int × List Int × Int × Int × List (Int × Int) × Int × Int × List (Int × Int) × Int × Int) := fun k b1_1 b1_2 o2 b3_0 b3_1 o4 b5_0 b5_1 o6 v4 v9 v10 =>
    Option.bind (Z0 k (o2, b1_1, b1_2) (2 : Int)) fun z7 => if (0 : Int) ≤ v4 then if v4 < (↑(List.length o6) : Int) then some (Prod.fst z7.2, Prod.snd z7.2, o2, b3_0, b3_1, o4, b5_0, b5_1, List.set o6 (Int.toNat v4) (Prod.fst (List.getD o6 (Int.toNat v4) ((0 : Int), (0 : Int))), Prod.fst z7), v9, v10) else none else none
noncomputable def Z6v : Nat → Int → Int → List Int → Int → Int → List (Int × Int) → Int → Int → List (Int × Int) → Int → Int → Int → Option (List (Int × Int × List Int × Int × Int × List (Int × Int) × Int × Int × List (Int × Int) × Int × Int)) := fun k b1_1 b1_2 o2 b3_0 b3_1 o4 b5_0 b5_1 o6 v4 v9 v10 =>
    joinL (Option.bind (Z0 k (o2, b1_1, b1_2) (2 : Int)) fun z8 => if (0 : Int) ≤ v4 then if v4 < (↑(List.length o6) : Int) then some [(Prod.fst z8.2, Prod.snd z8.2, o2, b3_0, b3_1, o4, b5_0, b5_1, List.set o6 (Int.toNat v4) (Prod.fst (List.getD o6 (Int.toNat v4) ((0 : Int), (0 : Int))), Prod.fst z8), v9, v10)] else none else none) (Option.bind (Z0 k (o2, b1_1, b1_2) (2 : Int)) fun z9 => if (0 : Int) ≤ v4 then if v4 < (↑(List.length o6) : Int) then some [(Prod.fst z9.2, Prod.snd z9.2, o2, b3_0, b3_1, o4, b5_0, b5_1, List.set o6 (Int.toNat v4) (Prod.fst (List.getD o6 (Int.toNat v4) ((0 : Int), (0 : Int))), Prod.fst z9), v9, v10)] else none else none)
noncomputable def ZeA : Spec := Spec.mk [OSh.ro, OSh.box (82 : Nat) [Sh.sl (2 : Nat), Sh.int .i64, Sh.int .u64], OSh.fx (Ty.int .u8), OSh.box (26 : Nat) [Sh.int .i64, Sh.int .i64, Sh.sl (4 : Nat)], OSh.row true (122 : Nat) (Ty.pair (Ty.int .i64) (Ty.int .i64)), OSh.box (26 : Nat) [Sh.int .i64, Sh.int .i64, Sh.sl (6 : Nat)], OSh.row true (122 : Nat) (Ty.pair (Ty.int .i64) (Ty.int .i64))] [((0 : Nat), TSh.at (Sh.ptr (1 : Nat) (0 : Nat))), ((2 : Nat), TSh.at (Sh.ptr (3 : Nat) (0 : Nat))), ((3 : Nat), TSh.at (Sh.ptr (5 : Nat) (0 : Nat))), ((4 : Nat), TSh.at (Sh.int .i64)), ((9 : Nat), TSh.at (Sh.int .i64)), ((10 : Nat), TSh.at (Sh.int .i64))]
noncomputable def Znp : Spec := Spec.mk [OSh.ro, OSh.box (82 : Nat) [Sh.sl (2 : Nat), Sh.int .i64, Sh.int .u64], OSh.fx (Ty.int .u8), OSh.box (26 : Nat) [Sh.int .i64, Sh.int .i64, Sh.sl (4 : Nat)], OSh.row true (122 : Nat) (Ty.pair (Ty.int .i64) (Ty.int .i64)), OSh.box (26 : Nat) [Sh.int .i64, Sh.int .i64, Sh.sl (6 : Nat)], OSh.row true (122 : Nat) (Ty.pair (Ty.int .i64) (Ty.int .i64))] [((0 : Nat), TSh.at (Sh.ptr (1 : Nat) (0 : Nat))), ((2 : Nat), TSh.at (Sh.ptr (3 : Nat) (0 : Nat))), ((3 : Nat), TSh.at (Sh.ptr (5 : Nat) (0 : Nat))), ((9 : Nat), TSh.at (Sh.int .i64)), ((10 : Nat), TSh.at (Sh.int .i64))]
noncomputable def Z2A : LoopDef (Tup Z2e × OutD) := .plain ZeA Znp (Int × Int × List Int × Int × Int × List (Int × Int) × Int × Int × List (Int × Int) × Int × Int) (fun k x => Z27 k x.1.2.1.2.1 x.1.2.1.2.2.1 x.1.2.2.1 x.1.2.2.2.1.1 x.1.2.2.2.1.2.1 x.1.2.2.2.2.1 x.1.2.2.2.2.2.1.1 x.1.2.2.2.2.2.1.2.1 x.1.2.2.2.2.2.2.1 x.2.2.2.2.1 x.2.2.2.2.2.1 x.2.2.2.2.2.2.1) (fun z => (((), ((), z.1, z.2.1, ()), z.2.2.1, (z.2.2.2.1, z.2.2.2.2.1, (), ()), z.2.2.2.2.2.1, (z.2.2.2.2.2.2.1, z.2.2.2.2.2.2.2.1, (), ()), z.2.2.2.2.2.2.2.2.1, ()), ((), (), (), z.2.2.2.2.2.2.2.2.2.1, z.2.2.2.2.2.2.2.2.2.2, ()))) (fun y => (y.1.2.1.2.1, y.1.2.1.2.2.1, y.1.2.2.1, y.1.2.2.2.1.1, y.1.2.2.2.1.2.1, y.1.2.2.2.2.1, y.1.2.2.2.2.2.1.1, y.1.2.2.2.2.2.1.2.1, y.1.2.2.2.2.2.2.1, y.2.2.2.2.1, y.2.2.2.2.2.1)) (fun _ => rfl)
theorem ZnD (k : Nat) (b1_1 : Int) (b1_2 : Int) (o2 : List Int) (b3_0 : Int) (b3_1 : Int) (o4 : List (Int × Int)) (b5_0 : Int) (b5_1 : Int) (o6 : List (Int × Int)) (v4 : Int) (v9 : Int) (v10 : Int) : Z6v k b1_1 b1_2 o2 b3_0 b3_1 o4 b5_0 b5_1 o6 v4 v9 v10 = repl 2 (Z27 k b1_1 b1_2 o2 b3_0 b3_1 o4 b5_0 b5_1 o6 v4 v9 v10) := by
 first
 | (simp only [Z6v, Z27, Zd, Zi, Zf, Zg, Ze, Z4, if_true]; done)
 | (simp only [Z6v, Z27, Zd, Zi, Zf, Zg, Ze, Z4, if_true]; simp only [Z1n, Z1o, Z2J, Z4]; simp only [Z44]; exact Z22 ⟨fun h => by simp only [h, and_self], fun h => by simp only [h, and_self]⟩)
noncomputable def ZT : Nat → Int → Int → List Int → Int → Int → List (Int × Int) → Int → Int → List (Int × Int) → Int → Int → Option (Int × Int × List Int × Int × Int × List (Int × Int) × Int × Int × List (Int × Int))
 | 0, _, _, _, _, _, _, _, _, _, _, _ => none
 | k + 1, b1_1, b1_2, o2, b3_0, b3_1, o4, b5_0, b5_1, o6, v9, v10 =>
  if decide (v10 < v9) = true then Option.bind (Zr k (o2, b1_1, b1_2) (2 : Int)) fun z1 => if Prod.fst z1 = true then Option.bind (Z23 k z1.2.1 z1.2.2 o2 b3_0 b3_1 o4 b5_0 b5_1 o6 v10 v9 v10) fun z6 => if (0 : Int) ≤ Prod.fst z6.2.2.2.2.2.2.2.2.2 then if Prod.fst z6.2.2.2.2.2.2.2.2.2 < (↑(List.length z6.2.2.2.2.2.2.2.2.1) : Int) then if decide (Prod.fst (List.getD z6.2.2.2.2.2.2.2.2.1 (Int.toNat z6.2.2.2.2.2.2.2.2.2.1) ((0 : Int), (0 : Int))) = (6 : Int)) = true then Option.bind (Z27 k z6.1 z6.2.1 z6.2.2.1 z6.2.2.2.1 z6.2.2.2.2.1 z6.2.2.2.2.2.1 z6.2.2.2.2.2.2.1 z6.2.2.2.2.2.2.2.1 z6.2.2.2.2.2.2.2.2.1 z6.2.2.2.2.2.2.2.2.2.1 z6.2.2.2.2.2.2.2.2.2.2.1 z6.2.2.2.2.2.2.2.2.2.2.2) fun z10 => ZT k z10.1 z10.2.1 z10.2.2.1 z10.2.2.2.1 z10.2.2.2.2.1 z10.2.2.2.2.2.1 z10.2.2.2.2.2.2.1 z10.2.2.2.2.2.2.2.1 z10.2.2.2.2.2.2.2.2.1 z10.2.2.2.2.2.2.2.2.2.1 (wrap64 (Prod.snd z10.2.2.2.2.2.2.2.2.2 + (1 : Int))) else ZT k z6.1 z6.2.1 z6.2.2.1 z6.2.2.2.1 z6.2.2.2.2.1 z6.2.2.2.2.2.1 z6.2.2.2.2.2.2.1 z6.2.2.2.2.2.2.2.1 z6.2.2.2.2.2.2.2.2.1 z6.2.2.2.2.2.2.2.2.2.2.1 (wrap64 (Prod.snd z6.2.2.2.2.2.2.2.2.2.2 + (1 : Int))) else none else none else ZT k z1.2.1 z1.2.2 o2 b3_0 b3_1 o4 b5_0 b5_1 o6 v9 (wrap64 (v10 + (1 : Int))) else some (b1_1, b1_2, o2, b3_0, b3_1, o4, b5_0, b5_1, o6)
noncomputable def ZaF : Spec := Spec.mk [OSh.ro, OSh.box (82 : Nat) [Sh.sl (2 : Nat), Sh.int .i64, Sh.int .u64], OSh.fx (Ty.int .u8), OSh.box (26 : Nat) [Sh.int .i64, Sh.int .i64, Sh.sl (4 : Nat)], OSh.row true (122 : Nat) (Ty.pair (Ty.int .i64) (Ty.int .i64)), OSh.box (26 : Nat) [Sh.int .i64, Sh.int .i64, Sh.sl (6 : Nat)], OSh.row true (122 : Nat) (Ty.pair (Ty.int .i64) (Ty.int .i64))] [((0 : Nat), TSh.at (Sh.ptr (1 : Nat) (0 : Nat))), ((2 : Nat), TSh.at (Sh.ptr (3 : Nat) (0 : Nat))), ((3 : Nat), TSh.at (Sh.ptr (5 : Nat) (0 : Nat))), ((9 : Nat), TSh.at (Sh.int .i64)), ((10 : Nat), TSh.at (Sh.int .i64))]
noncomputable def Zpb : Spec := Spec.mk [OSh.ro, OSh.box (82 : Nat) [Sh.sl (2 : Nat), Sh.int .i64, Sh.int .u64], OSh.fx (Ty.int .u8), OSh.box (26 : Nat) [Sh.int .i64, Sh.int .i64, Sh.sl (4 : Nat)], OSh.row true (122 : Nat) (Ty.pair (Ty.int .i64) (Ty.int .i64)), OSh.box (26 : Nat) [Sh.int .i64, Sh.int .i64, Sh.sl (6 : Nat)], OSh.row true (122 : Nat) (Ty.pair (Ty.int .i64) (Ty.int .i64))] [((2 : Nat), TSh.at (Sh.ptr (3 : Nat) (0 : Nat))), ((3 : Nat), TSh.at (Sh.ptr (5 : Nat) (0 : Nat)))]
noncomputable def Z35 : LoopDef (Tup Z2e × OutD) := .plain ZaF Zpb (Int × Int × List Int × Int × Int × List (Int × Int) × Int × Int × List (Int × Int)) (fun k x => ZT k x.1.2.1.2.1 x.1.2.1.2.2.1 x.1.2.2.1 x.1.2.2.2.1.1 x.1.2.2.2.1.2.1 x.1.2.2.2.2.1 x.1.2.2.2.2.2.1.1 x.1.2.2.2.2.2.1.2.1 x.1.2.2.2.2.2.2.1 x.2.2.2.2.1 x.2.2.2.2.2.1) (fun z => (((), ((), z.1, z.2.1, ()), z.2.2.1, (z.2.2.2.1, z.2.2.2.2.1, (), ()), z.2.2.2.2.2.1, (z.2.2.2.2.2.2.1, z.2.2.2.2.2.2.2.1, (), ()), z.2.2.2.2.2.2.2.2, ()), ((), (), ()))) (fun y => (y.1.2.1.2.1, y.1.2.1.2.2.1, y.1.2.2.1, y.1.2.2.2.1.1, y.1.2.2.2.1.2.1, y.1.2.2.2.2.1, y.1.2.2.2.2.2.1.1, y.1.2.2.2.2.2.1.2.1, y.1.2.2.2.2.2.2.1)) (fun _ => rfl)
noncomputable def Z4y : Nat → List Int × Int × Int → Option ((Int × Int × List (Int × Int)) × Int × Int)
 | 0, _ => none
 | k + 1, p0 =>
  Option.bind (Zm k (Prod.fst p0, Prod.fst p0.2, Prod.snd p0.2)) fun z0 => Option.bind (ZT k z0.2.1 z0.2.2 p0.1 (0 : Int) (0 : Int) [] z0.1.1 z0.1.2.1 z0.1.2.2 (↑(List.length z0.1.2.2) : Int) (0 : Int)) fun z11 => some ((Prod.fst z11.2.2.2.2.2.2, Prod.fst z11.2.2.2.2.2.2.2, Prod.snd z11.2.2.2.2.2.2.2), Prod.fst z11, Prod.fst z11.2)
noncomputable def Z1E : FnDef := .of Zi9 Z2e ((Int × Int × List (Int × Int)) × Int × Int) (fun k x => Z4y k x.1) Zhr Zc9 ZnP
noncomputable def Z4x : Code := Tryz.f100.body.getD .skip
noncomputable def Zc : Ctx (Tup Z2e × OutD) := { T := T, G := [(96, ZV.E), (97, Z1f.E), (72, Zq.E), (73, Za.E)], mvs := [], no := 2, n := 39, res := resOf T Zi9 Z2e Tryz.f100.results.toList, loops := [(0, Z35.E)], regs := [(6, Z2D.E), (8, Z2A.E)], conds := [], cuts := [] }
theorem Z9Q (k : Nat) : EnvOK Tryz.prog k Zc.G := (EnvOK.cons (Zbx k) (EnvOK.cons (Z9y k) (EnvOK.cons (Z2z k) (EnvOK.cons (ZA k) (EnvOK.nil mixed)))))
noncomputable def Z9Z : Array Oper := (findReg 6 Z4x).getD #[]
theorem ZnK (k : Nat) (x : ZeD.D) : execD Zc.T Zc.G Zc.mvs k Z9Z (Z2D.inp.st Zc.n x) (outK Zc Z2D) = Z6u k x.1.2.1.2.1 x.1.2.1.2.2.1 x.1.2.2.1 x.1.2.2.2.1.1 x.1.2.2.2.1.2.1 x.1.2.2.2.2.1 x.1.2.2.2.2.2.1.1 x.1.2.2.2.2.2.1.2.1 x.1.2.2.2.2.2.2.1 x.2.2.2.2.1 x.2.2.2.2.2.1 x.2.2.2.2.2.2.1 := by kernel_rfl
theorem Zn1 (k : Nat) : EOK Tryz.prog Zc k Z2D.E (.region 6 Z9Z true) := Z5X (D := Z2D) (m := 3) T_ok (Z9Q k) (fun x => (ZnK k x).trans (ZnX k x.1.2.1.2.1 x.1.2.1.2.2.1 x.1.2.2.1 x.1.2.2.2.1.1 x.1.2.2.2.1.2.1 x.1.2.2.2.2.1 x.1.2.2.2.2.2.1.1 x.1.2.2.2.2.2.1.2.1 x.1.2.2.2.2.2.2.1 x.2.2.2.2.1 x.2.2.2.2.2.1 x.2.2.2.2.2.2.1))
noncomputable def Z9U : Array Oper := (findReg 8 Z4x).getD #[]
theorem Zo8 (k : Nat) (x : ZeA.D) : execD Zc.T Zc.G Zc.mvs k Z9U (Z2A.inp.st Zc.n x) (outK Zc Z2A) = Z6v k x.1.2.1.2.1 x.1.2.1.2.2.1 x.1.2.2.1 x.1.2.2.2.1.1 x.1.2.2.2.1.2.1 x.1.2.2.2.2.1 x.1.2.2.2.2.2.1.1 x.1.2.2.2.2.2.1.2.1 x.1.2.2.2.2.2.2.1 x.2.2.2.2.1 x.2.2.2.2.2.1 x.2.2.2.2.2.2.1 := by kernel_rfl
theorem Znf (k : Nat) : EOK Tryz.prog Zc k Z2A.E (.region 8 Z9U true) := Z5X (D := Z2A) (m := 2) T_ok (Z9Q k) (fun x => (Zo8 k x).trans (ZnD k x.1.2.1.2.1 x.1.2.1.2.2.1 x.1.2.2.1 x.1.2.2.2.1.1 x.1.2.2.2.1.2.1 x.1.2.2.2.2.1 x.1.2.2.2.2.2.1.1 x.1.2.2.2.2.2.1.2.1 x.1.2.2.2.2.2.2.1 x.2.2.2.2.1 x.2.2.2.2.2.1 x.2.2.2.2.2.2.1))
noncomputable def Z7o : Code := (findLoop 0 Z4x).getD .skip
theorem Zq0 (k : Nat) (x : ZaF.D) : Z35.lp (k + 1) x = loopK Zc Z35 0 Z7o k x := by kernel_rfl
theorem ZpB (k : Nat) : LOK Tryz.prog Zc k Z7o := LOK.by [(Z2D.E, .region 6 Z9Z true), (Z2A.E, .region 8 Z9U true)] (by kernel_rfl) (AllOK.cons (Zn1 k) (AllOK.cons (Znf k) AllOK.nil))
theorem ZpL (x : ZaF.D) : Z35.lp 0 x = none := by kernel_rfl
theorem ZnA (k : Nat) : EOK Tryz.prog Zc k Z35.E (.block 0 (.loop Z7o)) := Zb T_ok Z9Q ZpL Zq0 ZpB k
theorem Zvk (k : Nat) (x : Tup Z1E.ps) : Z1E.f (k + 1) x = fnK Z1E Zc Z4x k x := by kernel_rfl
theorem Zui (x : Tup Z1E.ps) : Z1E.f 0 x = none := by kernel_rfl
theorem ZuC (k : Nat) : LOK Tryz.prog Zc k Z4x := LOK.by [(Z35.E, .block 0 (.loop Z7o))] (by kernel_rfl) (AllOK.cons (ZnA k) AllOK.nil)
theorem Zi4 (k : Nat) : SoundAt Tryz.prog k 100 Z1E.E := @Z3 Tryz.prog Z1E Zc 100 Tryz.f100 Z4x (by kernel_rfl) (by kernel_rfl) (by kernel_rfl) Tryz.func100 (by kernel_rfl) (by kernel_rfl) (by kernel_rfl) T_ok Z9Q ZuC Zui Zvk k
end
end Go.Proofs.YtglkedenkcpcbaaGreatDoor.Vs

set_option maxRecDepth 100000
set_option maxHeartbeats 2000000
set_option linter.unusedVariables false
set_option linter.unusedSimpArgs false
namespace Go.Proofs.YtglkedenkcpcbaaGreatDoor.Vs
open Go.RowKit
noncomputable section
noncomputable def Z3U : List PK := [PK.mk (Ty.pair (Ty.int .i64) (Ty.pair (Ty.int .i64) (Ty.slice (122 : Nat) (Ty.pair (Ty.int .i64) (Ty.int .i64))))) true none false none]
noncomputable def ZhH : List PK := [PK.mk (Ty.pair (Ty.slice (5 : Nat) (Ty.int .u8)) (Ty.pair (Ty.int .i64) (Ty.int .u64))) false none false (some (82 : Nat))]
noncomputable def Zgk (r : (Int × Int × List (Int × Int)) × Int × Int) : Tup Z3U × OutD := ((r.1, ()), some ⟨Ty.pair (Ty.slice (5 : Nat) (Ty.int .u8)) (Ty.pair (Ty.int .i64) (Ty.int .u64)), [([], r.2)]⟩)
noncomputable def Zby : Tup Z3U × OutD → Option ((Int × Int × List (Int × Int)) × Int × Int)
 | (a, some ⟨u, ys⟩) => if h : u = Ty.pair (Ty.slice (5 : Nat) (Ty.int .u8)) (Ty.pair (Ty.int .i64) (Ty.int .u64)) then (match castU h ys with
  | [([], y)] => some (a.1, y)
  | _ => none) else none
 | _ => none
theorem ZmS : ∀ b r, Zby b = some r → Zgk r = b := by
 rintro ⟨a, o⟩ r h
 cases o with
 | none => cases h
 | some s =>
  obtain ⟨u, ys⟩ := s
  simp only [Zby] at h
  split at h
  ·rename_i hu
   subst hu
   match ys, h with
   | [], h => cases (show (none : Option _) = some r from h)
   | [([], y)], h => injection (show some _ = some r from h) with h; subst h; rfl
   | [(_ :: _, y)], h => cases (show (none : Option _) = some r from h)
   | (h1, _) :: _ :: _, h => cases h1 <;> cases (show (none : Option _) = some r from h)
  ·cases h
noncomputable def Z2F : Nat → Int → Int → List Int → Int → Int → List (Int × Int) → Int → Int → List (Int × Int) → Option (Int × Int × List Int × Int × Int × List (Int × Int) × Int × Int × List (Int × Int)) := fun k b1_1 b1_2 o2 b3_0 b3_1 o4 b5_0 b5_1 o6 =>
    Option.bind (Z0 k (o2, b1_1, b1_2) (↑(List.length o6) : Int)) fun z5 => Option.bind (Z17 k (o2, Prod.fst z5.2, Prod.snd z5.2)) fun z6 => if (0 : Int) ≤ Prod.fst z5 then if Prod.fst z5 < (↑(List.length o6) : Int) then some (Prod.fst z6.2, Prod.snd z6.2, o2, b3_0, b3_1, o4, b5_0, b5_1, List.set o6 (Int.toNat z5.1) (Prod.fst z6.1, Prod.snd z6.1)) else none else none
noncomputable def Z5U : Nat → Int → Int → List Int → Int → Int → List (Int × Int) → Int → Int → List (Int × Int) → Option (List (Int × Int × List Int × Int × Int × List (Int × Int) × Int × Int × List (Int × Int))) := fun k b1_1 b1_2 o2 b3_0 b3_1 o4 b5_0 b5_1 o6 =>
    joinL (Option.bind (Z0 k (o2, b1_1, b1_2) (↑(List.length o6) : Int)) fun z7 => Option.bind (Z17 k (o2, Prod.fst z7.2, Prod.snd z7.2)) fun z8 => if (0 : Int) ≤ Prod.fst z7 then if Prod.fst z7 < (↑(List.length o6) : Int) then some [(Prod.fst z8.2, Prod.snd z8.2, o2, b3_0, b3_1, o4, b5_0, b5_1, List.set o6 (Int.toNat z7.1) (Prod.fst z8.1, Prod.snd z8.1))] else none else none) (Option.bind (Z0 k (o2, b1_1, b1_2) (↑(List.length o6) : Int)) fun z9 => joinL (Option.bind (Z17 k (o2, Prod.fst z9.2, Prod.snd z9.2)) fun z10 => if (0 : Int) ≤ Prod.fst z9 then if Prod.fst z9 < (↑(List.length o6) : Int) then some [(Prod.fst z10.2, Prod.snd z10.2, o2, b3_0, b3_1, o4, b5_0, b5_1, List.set o6 (Int.toNat z9.1) (Prod.fst z10.1, Prod.snd z10.1))] else none else none) (Option.bind (Z17 k (o2, Prod.fst z9.2, Prod.snd z9.2)) fun z11 => if (0 : Int) ≤ Prod.fst z9 then if Prod.fst z9 < (↑(List.length o6) : Int) then some [(Prod.fst z11.2, Prod.snd z11.2, o2, b3_0, b3_1, o4, b5_0, b5_1, List.set o6 (Int.toNat z9.1) (Prod.fst z11.1, Prod.snd z11.1))] else none else none))
noncomputable def ZdK : Spec := Spec.mk [OSh.ro, OSh.box (82 : Nat) [Sh.sl (2 : Nat), Sh.int .i64, Sh.int .u64], OSh.fx (Ty.int .u8), OSh.box (26 : Nat) [Sh.int .i64, Sh.int .i64, Sh.sl (4 : Nat)], OSh.row true (122 : Nat) (Ty.pair (Ty.int .i64) (Ty.int .i64)), OSh.box (26 : Nat) [Sh.int .i64, Sh.int .i64, Sh.sl (6 : Nat)], OSh.row true (122 : Nat) (Ty.pair (Ty.int .i64) (Ty.int .i64))] [((0 : Nat), TSh.at (Sh.ptr (1 : Nat) (0 : Nat))), ((2 : Nat), TSh.at (Sh.ptr (3 : Nat) (0 : Nat))), ((4 : Nat), TSh.at (Sh.ptr (5 : Nat) (0 : Nat)))]
noncomputable def Zn3 : Spec := Spec.mk [OSh.ro, OSh.box (82 : Nat) [Sh.sl (2 : Nat), Sh.int .i64, Sh.int .u64], OSh.fx (Ty.int .u8), OSh.box (26 : Nat) [Sh.int .i64, Sh.int .i64, Sh.sl (4 : Nat)], OSh.row true (122 : Nat) (Ty.pair (Ty.int .i64) (Ty.int .i64)), OSh.box (26 : Nat) [Sh.int .i64, Sh.int .i64, Sh.sl (6 : Nat)], OSh.row true (122 : Nat) (Ty.pair (Ty.int .i64) (Ty.int .i64))] [((2 : Nat), TSh.at (Sh.ptr (3 : Nat) (0 : Nat))), ((4 : Nat), TSh.at (Sh.ptr (5 : Nat) (0 : Nat)))]
noncomputable def Z2j : LoopDef (Tup Z3U × OutD) := .plain ZdK Zn3 (Int × Int × List Int × Int × Int × List (Int × Int) × Int × Int × List (Int × Int)) (fun k x => Z2F k x.1.2.1.2.1 x.1.2.1.2.2.1 x.1.2.2.1 x.1.2.2.2.1.1 x.1.2.2.2.1.2.1 x.1.2.2.2.2.1 x.1.2.2.2.2.2.1.1 x.1.2.2.2.2.2.1.2.1 x.1.2.2.2.2.2.2.1) (fun z => (((), ((), z.1, z.2.1, ()), z.2.2.1, (z.2.2.2.1, z.2.2.2.2.1, (), ()), z.2.2.2.2.2.1, (z.2.2.2.2.2.2.1, z.2.2.2.2.2.2.2.1, (), ()), z.2.2.2.2.2.2.2.2, ()), ((), (), ()))) (fun y => (y.1.2.1.2.1, y.1.2.1.2.2.1, y.1.2.2.1, y.1.2.2.2.1.1, y.1.2.2.2.1.2.1, y.1.2.2.2.2.1, y.1.2.2.2.2.2.1.1, y.1.2.2.2.2.2.1.2.1, y.1.2.2.2.2.2.2.1)) (fun _ => rfl)
theorem ZlM (k : Nat) (b1_1 : Int) (b1_2 : Int) (o2 : List Int) (b3_0 : Int) (b3_1 : Int) (o4 : List (Int × Int)) (b5_0 : Int) (b5_1 : Int) (o6 : List (Int × Int)) : Z5U k b1_1 b1_2 o2 b3_0 b3_1 o4 b5_0 b5_1 o6 = repl 3 (Z2F k b1_1 b1_2 o2 b3_0 b3_1 o4 b5_0 b5_1 o6) := by
 first
 | (simp only [Z5U, Z2F, Zd, Zi, Zf, Zg, Ze, Z4, if_true]; done)
 | (simp only [Z5U, Z2F, Zd, Zi, Zf, Zg, Ze, Z4, if_true]; simp only [Z1n, Z1o, Z2J, Z4]; simp only [Z44]; exact Z22 ⟨fun h => by simp only [h, and_self], fun h => by simp only [h, and_self]⟩)
noncomputable def Z8s : Nat → List Int × Int × Int → Option ((Int × Int × List (Int × Int)) × Int × Int)
 | 0, _ => none
 | k + 1, p0 =>
  Option.bind (Z0 k (Prod.fst p0, Prod.fst p0.2, Prod.snd p0.2) (4 : Int)) fun z0 => if IntKind.wrap IntKind.u64 (wrap64 ((1 : Int) + Prod.fst z0)) < (0 : Int) then none else Option.bind (Z0 k (Prod.fst p0, Prod.fst z0.2, Prod.snd z0.2) (shlS (1 : Int) (IntKind.wrap IntKind.u64 (wrap64 ((1 : Int) + Prod.fst z0))))) fun z1 => Option.bind (Zew k (wrap64 ((1 : Int) + Prod.fst z0)) z1.1) fun z2 => Option.bind (Z0 k (Prod.fst p0, Prod.fst z1.2, Prod.snd z1.2) (6 : Int)) fun z3 => if decide (Prod.fst z3 = (0 : Int)) = true then Option.bind (Zm k (Prod.fst p0, Prod.fst z3.2, Prod.snd z3.2)) fun z4 => some ((Prod.fst z4.1, Prod.fst z4.1.2, Prod.snd z4.1.2), Prod.fst z4.2, Prod.snd z4.2) else if decide (Prod.fst z3 = (1 : Int)) = true then Option.bind (Z2F k z3.2.1 z3.2.2 p0.1 (0 : Int) (0 : Int) [] z2.1 z2.2.1 z2.2.2) fun z12 => some ((Prod.fst z12.2.2.2.2.2.2, Prod.fst z12.2.2.2.2.2.2.2, Prod.snd z12.2.2.2.2.2.2.2), Prod.fst z12, Prod.fst z12.2) else if decide (Prod.fst z3 = (2 : Int)) = true then Option.bind (Zdj k (Prod.fst z2, Prod.fst z2.2, Prod.snd z2.2)) fun z13 => some ((Prod.fst z13, Prod.fst z13.2, Prod.snd z13.2), Prod.fst z3.2, Prod.snd z3.2) else if decide (Prod.fst z3 = (3 : Int)) = true then Option.bind (Z4y k (Prod.fst p0, Prod.fst z3.2, Prod.snd z3.2)) fun z14 => some ((Prod.fst z14.1, Prod.fst z14.1.2, Prod.snd z14.1.2), Prod.fst z14.2, Prod.snd z14.2) else some ((Prod.fst z2, Prod.fst z2.2, Prod.snd z2.2), Prod.fst z3.2, Prod.snd z3.2)
noncomputable def Z1V : FnDef := .of ZhH Z3U ((Int × Int × List (Int × Int)) × Int × Int) (fun k x => Z8s k x.1) Zgk Zby ZmS
noncomputable def Z8A : Code := Tryz.f99.body.getD .skip
noncomputable def Z18 : Ctx (Tup Z3U × OutD) := { T := T, G := [(73, Za.E), (124, Z5g.E), (96, ZV.E), (121, Z1M.E), (125, Z4m.E), (100, Z1E.E)], mvs := [], no := 2, n := 42, res := resOf T ZhH Z3U Tryz.f99.results.toList, loops := [], regs := [(7, Z2j.E)], conds := [], cuts := [] }
theorem Zhl (k : Nat) : EnvOK Tryz.prog k Z18.G := (EnvOK.cons (ZA k) (EnvOK.cons (ZDm k) (EnvOK.cons (Zbx k) (EnvOK.cons (ZeY k) (EnvOK.cons (ZBi k) (EnvOK.cons (Zi4 k) (EnvOK.nil mixed)))))))
noncomputable def Z9c : Array Oper := (findReg 7 Z8A).getD #[]
theorem Zmr (k : Nat) (x : ZdK.D) : execD Z18.T Z18.G Z18.mvs k Z9c (Z2j.inp.st Z18.n x) (outK Z18 Z2j) = Z5U k x.1.2.1.2.1 x.1.2.1.2.2.1 x.1.2.2.1 x.1.2.2.2.1.1 x.1.2.2.2.1.2.1 x.1.2.2.2.2.1 x.1.2.2.2.2.2.1.1 x.1.2.2.2.2.2.1.2.1 x.1.2.2.2.2.2.2.1 := by kernel_rfl
theorem ZkT (k : Nat) : EOK Tryz.prog Z18 k Z2j.E (.region 7 Z9c true) := Z5X (D := Z2j) (m := 3) T_ok (Zhl k) (fun x => (Zmr k x).trans (ZlM k x.1.2.1.2.1 x.1.2.1.2.2.1 x.1.2.2.1 x.1.2.2.2.1.1 x.1.2.2.2.1.2.1 x.1.2.2.2.2.1 x.1.2.2.2.2.2.1.1 x.1.2.2.2.2.2.1.2.1 x.1.2.2.2.2.2.2.1))
theorem ZsY (k : Nat) (x : Tup Z1V.ps) : Z1V.f (k + 1) x = fnK Z1V Z18 Z8A k x := by kernel_rfl
theorem Zs8 (x : Tup Z1V.ps) : Z1V.f 0 x = none := by kernel_rfl
theorem Zsb (k : Nat) : LOK Tryz.prog Z18 k Z8A := LOK.by [(Z2j.E, .region 7 Z9c true)] (by kernel_rfl) (AllOK.cons (ZkT k) AllOK.nil)
theorem Zst (k : Nat) : SoundAt Tryz.prog k 99 Z1V.E := @Z3 Tryz.prog Z1V Z18 99 Tryz.f99 Z8A (by kernel_rfl) (by kernel_rfl) (by kernel_rfl) Tryz.func99 (by kernel_rfl) (by kernel_rfl) (by kernel_rfl) T_ok Zhl Zsb Zs8 ZsY k
end
end Go.Proofs.YtglkedenkcpcbaaGreatDoor.Vs

set_option maxRecDepth 100000
set_option maxHeartbeats 2000000
set_option linter.unusedVariables false
set_option linter.unusedSimpArgs false
namespace Go.Proofs.YtglkedenkcpcbaaGreatDoor.Vs
open Go.RowKit
noncomputable section
noncomputable def Z12 : List PK := [PK.mk (Ty.pair (Ty.int .i64) (Ty.pair (Ty.int .i64) (Ty.slice (122 : Nat) (Ty.pair (Ty.int .i64) (Ty.int .i64))))) true none false none, PK.mk (Ty.slice (42 : Nat) (Ty.pair (Ty.int .i64) (Ty.pair (Ty.int .i64) (Ty.int .i64)))) false none false none]
noncomputable def Zi1 : List PK := [PK.mk (Ty.pair (Ty.slice (5 : Nat) (Ty.int .u8)) (Ty.pair (Ty.int .i64) (Ty.int .u64))) false none false (some (82 : Nat))]
noncomputable def ZgI (r : (Int × Int × List (Int × Int)) × List (Int × Int × Int) × Int × Int) : Tup Z12 × OutD := ((r.1, r.2.1, ()), some ⟨Ty.pair (Ty.slice (5 : Nat) (Ty.int .u8)) (Ty.pair (Ty.int .i64) (Ty.int .u64)), [([], r.2.2)]⟩)
noncomputable def Zc7 : Tup Z12 × OutD → Option ((Int × Int × List (Int × Int)) × List (Int × Int × Int) × Int × Int)
 | (a, some ⟨u, ys⟩) => if h : u = Ty.pair (Ty.slice (5 : Nat) (Ty.int .u8)) (Ty.pair (Ty.int .i64) (Ty.int .u64)) then (match castU h ys with
  | [([], y)] => some (a.1, a.2.1, y)
  | _ => none) else none
 | _ => none
theorem Zo3 : ∀ b r, Zc7 b = some r → ZgI r = b := by
 rintro ⟨a, o⟩ r h
 cases o with
 | none => cases h
 | some s =>
  obtain ⟨u, ys⟩ := s
  simp only [Zc7] at h
  split at h
  ·rename_i hu
   subst hu
   match ys, h with
   | [], h => cases (show (none : Option _) = some r from h)
   | [([], y)], h => injection (show some _ = some r from h) with h; subst h; rfl
   | [(_ :: _, y)], h => cases (show (none : Option _) = some r from h)
   | (h1, _) :: _ :: _, h => cases h1 <;> cases (show (none : Option _) = some r from h)
  ·cases h
noncomputable def Z9W : Nat → Int → Int → List Int → Int → Int → List (Int × Int) → Int → Int → List (Int × Int) → Bool → Option (Int × Int × List Int × Int × Int × List (Int × Int) × Int × Int × List (Int × Int)) := fun k b1_1 b1_2 o2 b3_0 b3_1 o4 b5_0 b5_1 o6 v14 =>
    if v14 = true then Option.bind (Z8s k (o2, b1_1, b1_2)) fun z2 => some (Prod.fst z2.2, Prod.snd z2.2, o2, b3_0, b3_1, o4, Prod.fst z2.1, Prod.fst z2.1.2, Prod.snd z2.1.2) else some (b1_1, b1_2, o2, b3_0, b3_1, o4, b5_0, b5_1, o6)
noncomputable def Zmb : Spec := Spec.mk [OSh.ro, OSh.box (82 : Nat) [Sh.sl (2 : Nat), Sh.int .i64, Sh.int .u64], OSh.fx (Ty.int .u8), OSh.box (26 : Nat) [Sh.int .i64, Sh.int .i64, Sh.sl (4 : Nat)], OSh.row true (122 : Nat) (Ty.pair (Ty.int .i64) (Ty.int .i64)), OSh.box (26 : Nat) [Sh.int .i64, Sh.int .i64, Sh.sl (6 : Nat)], OSh.row true (122 : Nat) (Ty.pair (Ty.int .i64) (Ty.int .i64))] [((0 : Nat), TSh.at (Sh.ptr (1 : Nat) (0 : Nat))), ((2 : Nat), TSh.at (Sh.ptr (3 : Nat) (0 : Nat))), ((4 : Nat), TSh.at (Sh.ptr (5 : Nat) (0 : Nat))), ((14 : Nat), TSh.at Sh.bool)]
noncomputable def Zmf : Spec := Spec.mk [OSh.ro, OSh.box (82 : Nat) [Sh.sl (2 : Nat), Sh.int .i64, Sh.int .u64], OSh.fx (Ty.int .u8), OSh.box (26 : Nat) [Sh.int .i64, Sh.int .i64, Sh.sl (4 : Nat)], OSh.row true (122 : Nat) (Ty.pair (Ty.int .i64) (Ty.int .i64)), OSh.box (26 : Nat) [Sh.int .i64, Sh.int .i64, Sh.sl (6 : Nat)], OSh.row true (122 : Nat) (Ty.pair (Ty.int .i64) (Ty.int .i64))] [((0 : Nat), TSh.at (Sh.ptr (1 : Nat) (0 : Nat))), ((2 : Nat), TSh.at (Sh.ptr (3 : Nat) (0 : Nat))), ((4 : Nat), TSh.at (Sh.ptr (5 : Nat) (0 : Nat)))]
noncomputable def Zo : LoopDef (Tup Z12 × OutD) := .plain Zmb Zmf (Int × Int × List Int × Int × Int × List (Int × Int) × Int × Int × List (Int × Int)) (fun k x => Z9W k x.1.2.1.2.1 x.1.2.1.2.2.1 x.1.2.2.1 x.1.2.2.2.1.1 x.1.2.2.2.1.2.1 x.1.2.2.2.2.1 x.1.2.2.2.2.2.1.1 x.1.2.2.2.2.2.1.2.1 x.1.2.2.2.2.2.2.1 x.2.2.2.2.1) (fun z => (((), ((), z.1, z.2.1, ()), z.2.2.1, (z.2.2.2.1, z.2.2.2.2.1, (), ()), z.2.2.2.2.2.1, (z.2.2.2.2.2.2.1, z.2.2.2.2.2.2.2.1, (), ()), z.2.2.2.2.2.2.2.2, ()), ((), (), (), ()))) (fun y => (y.1.2.1.2.1, y.1.2.1.2.2.1, y.1.2.2.1, y.1.2.2.2.1.1, y.1.2.2.2.1.2.1, y.1.2.2.2.2.1, y.1.2.2.2.2.2.1.1, y.1.2.2.2.2.2.1.2.1, y.1.2.2.2.2.2.2.1)) (fun _ => rfl)
noncomputable def Z9S : Nat → Int → Int → List Int → Int → Int → List (Int × Int) → Int → Int → List (Int × Int) → Bool → Option (Int × Int × List Int × Int × Int × List (Int × Int) × Int × Int × List (Int × Int)) := fun k b1_1 b1_2 o2 b3_0 b3_1 o4 b5_0 b5_1 o6 v18 =>
    if v18 = true then Option.bind (Z4y k (o2, b1_1, b1_2)) fun z5 => some (Prod.fst z5.2, Prod.snd z5.2, o2, b3_0, b3_1, o4, Prod.fst z5.1, Prod.fst z5.1.2, Prod.snd z5.1.2) else some (b1_1, b1_2, o2, b3_0, b3_1, o4, b5_0, b5_1, o6)
noncomputable def ZmD : Spec := Spec.mk [OSh.ro, OSh.box (82 : Nat) [Sh.sl (2 : Nat), Sh.int .i64, Sh.int .u64], OSh.fx (Ty.int .u8), OSh.box (26 : Nat) [Sh.int .i64, Sh.int .i64, Sh.sl (4 : Nat)], OSh.row true (122 : Nat) (Ty.pair (Ty.int .i64) (Ty.int .i64)), OSh.box (26 : Nat) [Sh.int .i64, Sh.int .i64, Sh.sl (6 : Nat)], OSh.row true (122 : Nat) (Ty.pair (Ty.int .i64) (Ty.int .i64))] [((0 : Nat), TSh.at (Sh.ptr (1 : Nat) (0 : Nat))), ((2 : Nat), TSh.at (Sh.ptr (3 : Nat) (0 : Nat))), ((4 : Nat), TSh.at (Sh.ptr (5 : Nat) (0 : Nat))), ((18 : Nat), TSh.at Sh.bool)]
noncomputable def Zlr : Spec := Spec.mk [OSh.ro, OSh.box (82 : Nat) [Sh.sl (2 : Nat), Sh.int .i64, Sh.int .u64], OSh.fx (Ty.int .u8), OSh.box (26 : Nat) [Sh.int .i64, Sh.int .i64, Sh.sl (4 : Nat)], OSh.row true (122 : Nat) (Ty.pair (Ty.int .i64) (Ty.int .i64)), OSh.box (26 : Nat) [Sh.int .i64, Sh.int .i64, Sh.sl (6 : Nat)], OSh.row true (122 : Nat) (Ty.pair (Ty.int .i64) (Ty.int .i64))] [((0 : Nat), TSh.at (Sh.ptr (1 : Nat) (0 : Nat))), ((2 : Nat), TSh.at (Sh.ptr (3 : Nat) (0 : Nat))), ((4 : Nat), TSh.at (Sh.ptr (5 : Nat) (0 : Nat)))]
noncomputable def Zs : LoopDef (Tup Z12 × OutD) := .plain ZmD Zlr (Int × Int × List Int × Int × Int × List (Int × Int) × Int × Int × List (Int × Int)) (fun k x => Z9S k x.1.2.1.2.1 x.1.2.1.2.2.1 x.1.2.2.1 x.1.2.2.2.1.1 x.1.2.2.2.1.2.1 x.1.2.2.2.2.1 x.1.2.2.2.2.2.1.1 x.1.2.2.2.2.2.1.2.1 x.1.2.2.2.2.2.2.1 x.2.2.2.2.1) (fun z => (((), ((), z.1, z.2.1, ()), z.2.2.1, (z.2.2.2.1, z.2.2.2.2.1, (), ()), z.2.2.2.2.2.1, (z.2.2.2.2.2.2.1, z.2.2.2.2.2.2.2.1, (), ()), z.2.2.2.2.2.2.2.2, ()), ((), (), (), ()))) (fun y => (y.1.2.1.2.1, y.1.2.1.2.2.1, y.1.2.2.1, y.1.2.2.2.1.1, y.1.2.2.2.1.2.1, y.1.2.2.2.2.1, y.1.2.2.2.2.2.1.1, y.1.2.2.2.2.2.1.2.1, y.1.2.2.2.2.2.2.1)) (fun _ => rfl)
noncomputable def Z9Y : Nat → Int → Int → List Int → Int → Int → List (Int × Int) → Int → Int → List (Int × Int) → List (Int × Int × Int) → List (Int × Int × Int) → Int → Bool → Option (Int × Int × List Int × Int × Int × List (Int × Int) × Int × Int × List (Int × Int) × List (Int × Int × Int) × List (Int × Int × Int) × Int) := fun k b1_1 b1_2 o2 b3_0 b3_1 o4 b5_0 b5_1 o6 o7 o8 v7 v31 =>
    if v31 = true then Option.bind (Z0 k (o2, b1_1, b1_2) (2 : Int)) fun z11 => some (Prod.fst z11.2, Prod.snd z11.2, o2, b3_0, b3_1, o4, b5_0, b5_1, o6, o7, o8, wrap64 ((4 : Int) + Prod.fst z11)) else some (b1_1, b1_2, o2, b3_0, b3_1, o4, b5_0, b5_1, o6, o7, o8, v7)
noncomputable def Zmt : Spec := Spec.mk [OSh.ro, OSh.box (82 : Nat) [Sh.sl (2 : Nat), Sh.int .i64, Sh.int .u64], OSh.fx (Ty.int .u8), OSh.box (26 : Nat) [Sh.int .i64, Sh.int .i64, Sh.sl (4 : Nat)], OSh.row true (122 : Nat) (Ty.pair (Ty.int .i64) (Ty.int .i64)), OSh.box (26 : Nat) [Sh.int .i64, Sh.int .i64, Sh.sl (6 : Nat)], OSh.row true (122 : Nat) (Ty.pair (Ty.int .i64) (Ty.int .i64)), OSh.row true (42 : Nat) (Ty.pair (Ty.int .i64) (Ty.pair (Ty.int .i64) (Ty.int .i64))), OSh.row true (42 : Nat) (Ty.pair (Ty.int .i64) (Ty.pair (Ty.int .i64) (Ty.int .i64)))] [((0 : Nat), TSh.at (Sh.ptr (1 : Nat) (0 : Nat))), ((2 : Nat), TSh.at (Sh.ptr (3 : Nat) (0 : Nat))), ((4 : Nat), TSh.at (Sh.ptr (5 : Nat) (0 : Nat))), ((5 : Nat), TSh.at (Sh.sl (7 : Nat))), ((6 : Nat), TSh.at (Sh.sl (8 : Nat))), ((7 : Nat), TSh.at (Sh.int .i64)), ((31 : Nat), TSh.at Sh.bool)]
noncomputable def ZlT : Spec := Spec.mk [OSh.ro, OSh.box (82 : Nat) [Sh.sl (2 : Nat), Sh.int .i64, Sh.int .u64], OSh.fx (Ty.int .u8), OSh.box (26 : Nat) [Sh.int .i64, Sh.int .i64, Sh.sl (4 : Nat)], OSh.row true (122 : Nat) (Ty.pair (Ty.int .i64) (Ty.int .i64)), OSh.box (26 : Nat) [Sh.int .i64, Sh.int .i64, Sh.sl (6 : Nat)], OSh.row true (122 : Nat) (Ty.pair (Ty.int .i64) (Ty.int .i64)), OSh.row true (42 : Nat) (Ty.pair (Ty.int .i64) (Ty.pair (Ty.int .i64) (Ty.int .i64))), OSh.row true (42 : Nat) (Ty.pair (Ty.int .i64) (Ty.pair (Ty.int .i64) (Ty.int .i64)))] [((0 : Nat), TSh.at (Sh.ptr (1 : Nat) (0 : Nat))), ((2 : Nat), TSh.at (Sh.ptr (3 : Nat) (0 : Nat))), ((4 : Nat), TSh.at (Sh.ptr (5 : Nat) (0 : Nat))), ((5 : Nat), TSh.at (Sh.sl (7 : Nat))), ((6 : Nat), TSh.at (Sh.sl (8 : Nat))), ((7 : Nat), TSh.at (Sh.int .i64))]
noncomputable def Zu : LoopDef (Tup Z12 × OutD) := .plain Zmt ZlT (Int × Int × List Int × Int × Int × List (Int × Int) × Int × Int × List (Int × Int) × List (Int × Int × Int) × List (Int × Int × Int) × Int) (fun k x => Z9Y k x.1.2.1.2.1 x.1.2.1.2.2.1 x.1.2.2.1 x.1.2.2.2.1.1 x.1.2.2.2.1.2.1 x.1.2.2.2.2.1 x.1.2.2.2.2.2.1.1 x.1.2.2.2.2.2.1.2.1 x.1.2.2.2.2.2.2.1 x.1.2.2.2.2.2.2.2.1 x.1.2.2.2.2.2.2.2.2.1 x.2.2.2.2.2.2.1 x.2.2.2.2.2.2.2.1) (fun z => (((), ((), z.1, z.2.1, ()), z.2.2.1, (z.2.2.2.1, z.2.2.2.2.1, (), ()), z.2.2.2.2.2.1, (z.2.2.2.2.2.2.1, z.2.2.2.2.2.2.2.1, (), ()), z.2.2.2.2.2.2.2.2.1, z.2.2.2.2.2.2.2.2.2.1, z.2.2.2.2.2.2.2.2.2.2.1, ()), ((), (), (), (), (), z.2.2.2.2.2.2.2.2.2.2.2, ()))) (fun y => (y.1.2.1.2.1, y.1.2.1.2.2.1, y.1.2.2.1, y.1.2.2.2.1.1, y.1.2.2.2.1.2.1, y.1.2.2.2.2.1, y.1.2.2.2.2.2.1.1, y.1.2.2.2.2.2.1.2.1, y.1.2.2.2.2.2.2.1, y.1.2.2.2.2.2.2.2.1, y.1.2.2.2.2.2.2.2.2.1, y.2.2.2.2.2.2.1)) (fun _ => rfl)
noncomputable def Z9T : Nat → Int → Int → List Int → Int → Int → List (Int × Int) → Int → Int → List (Int × Int) → List (Int × Int × Int) → List (Int × Int × Int) → Int → Int → Int → Int → Int → Bool → Option (Int × Int × List Int × Int × Int × List (Int × Int) × Int × Int × List (Int × Int) × List (Int × Int × Int) × List (Int × Int × Int) × Int × Int × Int × Int × Int) := fun k b1_1 b1_2 o2 b3_0 b3_1 o4 b5_0 b5_1 o6 o7 o8 b9_0 b9_1 b9_2 v7 v8 v57 =>
    if v57 = true then if (0 : Int) ≤ v8 then if v8 < (↑(List.length o8) : Int) then some (b1_1, b1_2, o2, b3_0, b3_1, o4, b5_0, b5_1, o6, o7, o8, Prod.fst (List.getD o8 (Int.toNat v8) ((0 : Int), (0 : Int), (0 : Int))), Prod.fst (Prod.snd (List.getD o8 (Int.toNat v8) ((0 : Int), (0 : Int), (0 : Int)))), Prod.snd (Prod.snd (List.getD o8 (Int.toNat v8) ((0 : Int), (0 : Int), (0 : Int)))), v7, v8) else none else none else some (b1_1, b1_2, o2, b3_0, b3_1, o4, b5_0, b5_1, o6, o7, o8, b9_0, b9_1, b9_2, v7, v8)
noncomputable def Znm : Spec := Spec.mk [OSh.ro, OSh.box (82 : Nat) [Sh.sl (2 : Nat), Sh.int .i64, Sh.int .u64], OSh.fx (Ty.int .u8), OSh.box (26 : Nat) [Sh.int .i64, Sh.int .i64, Sh.sl (4 : Nat)], OSh.row true (122 : Nat) (Ty.pair (Ty.int .i64) (Ty.int .i64)), OSh.box (26 : Nat) [Sh.int .i64, Sh.int .i64, Sh.sl (6 : Nat)], OSh.row true (122 : Nat) (Ty.pair (Ty.int .i64) (Ty.int .i64)), OSh.row true (42 : Nat) (Ty.pair (Ty.int .i64) (Ty.pair (Ty.int .i64) (Ty.int .i64))), OSh.row true (42 : Nat) (Ty.pair (Ty.int .i64) (Ty.pair (Ty.int .i64) (Ty.int .i64))), OSh.box (42 : Nat) [Sh.int .i64, Sh.int .i64, Sh.int .i64]] [((0 : Nat), TSh.at (Sh.ptr (1 : Nat) (0 : Nat))), ((2 : Nat), TSh.at (Sh.ptr (3 : Nat) (0 : Nat))), ((4 : Nat), TSh.at (Sh.ptr (5 : Nat) (0 : Nat))), ((5 : Nat), TSh.at (Sh.sl (7 : Nat))), ((6 : Nat), TSh.at (Sh.sl (8 : Nat))), ((7 : Nat), TSh.at (Sh.int .i64)), ((8 : Nat), TSh.at (Sh.int .i64)), ((9 : Nat), TSh.at (Sh.ptr (9 : Nat) (0 : Nat))), ((57 : Nat), TSh.at Sh.bool)]
noncomputable def Zly : Spec := Spec.mk [OSh.ro, OSh.box (82 : Nat) [Sh.sl (2 : Nat), Sh.int .i64, Sh.int .u64], OSh.fx (Ty.int .u8), OSh.box (26 : Nat) [Sh.int .i64, Sh.int .i64, Sh.sl (4 : Nat)], OSh.row true (122 : Nat) (Ty.pair (Ty.int .i64) (Ty.int .i64)), OSh.box (26 : Nat) [Sh.int .i64, Sh.int .i64, Sh.sl (6 : Nat)], OSh.row true (122 : Nat) (Ty.pair (Ty.int .i64) (Ty.int .i64)), OSh.row true (42 : Nat) (Ty.pair (Ty.int .i64) (Ty.pair (Ty.int .i64) (Ty.int .i64))), OSh.row true (42 : Nat) (Ty.pair (Ty.int .i64) (Ty.pair (Ty.int .i64) (Ty.int .i64))), OSh.box (42 : Nat) [Sh.int .i64, Sh.int .i64, Sh.int .i64]] [((0 : Nat), TSh.at (Sh.ptr (1 : Nat) (0 : Nat))), ((2 : Nat), TSh.at (Sh.ptr (3 : Nat) (0 : Nat))), ((4 : Nat), TSh.at (Sh.ptr (5 : Nat) (0 : Nat))), ((5 : Nat), TSh.at (Sh.sl (7 : Nat))), ((6 : Nat), TSh.at (Sh.sl (8 : Nat))), ((7 : Nat), TSh.at (Sh.int .i64)), ((8 : Nat), TSh.at (Sh.int .i64)), ((9 : Nat), TSh.at (Sh.ptr (9 : Nat) (0 : Nat)))]
noncomputable def Zn : LoopDef (Tup Z12 × OutD) := .plain Znm Zly (Int × Int × List Int × Int × Int × List (Int × Int) × Int × Int × List (Int × Int) × List (Int × Int × Int) × List (Int × Int × Int) × Int × Int × Int × Int × Int) (fun k x => Z9T k x.1.2.1.2.1 x.1.2.1.2.2.1 x.1.2.2.1 x.1.2.2.2.1.1 x.1.2.2.2.1.2.1 x.1.2.2.2.2.1 x.1.2.2.2.2.2.1.1 x.1.2.2.2.2.2.1.2.1 x.1.2.2.2.2.2.2.1 x.1.2.2.2.2.2.2.2.1 x.1.2.2.2.2.2.2.2.2.1 x.1.2.2.2.2.2.2.2.2.2.1.1 x.1.2.2.2.2.2.2.2.2.2.1.2.1 x.1.2.2.2.2.2.2.2.2.2.1.2.2.1 x.2.2.2.2.2.2.1 x.2.2.2.2.2.2.2.1 x.2.2.2.2.2.2.2.2.2.1) (fun z => (((), ((), z.1, z.2.1, ()), z.2.2.1, (z.2.2.2.1, z.2.2.2.2.1, (), ()), z.2.2.2.2.2.1, (z.2.2.2.2.2.2.1, z.2.2.2.2.2.2.2.1, (), ()), z.2.2.2.2.2.2.2.2.1, z.2.2.2.2.2.2.2.2.2.1, z.2.2.2.2.2.2.2.2.2.2.1, (z.2.2.2.2.2.2.2.2.2.2.2.1, z.2.2.2.2.2.2.2.2.2.2.2.2.1, z.2.2.2.2.2.2.2.2.2.2.2.2.2.1, ()), ()), ((), (), (), (), (), z.2.2.2.2.2.2.2.2.2.2.2.2.2.2.1, z.2.2.2.2.2.2.2.2.2.2.2.2.2.2.2, (), ()))) (fun y => (y.1.2.1.2.1, y.1.2.1.2.2.1, y.1.2.2.1, y.1.2.2.2.1.1, y.1.2.2.2.1.2.1, y.1.2.2.2.2.1, y.1.2.2.2.2.2.1.1, y.1.2.2.2.2.2.1.2.1, y.1.2.2.2.2.2.2.1, y.1.2.2.2.2.2.2.2.1, y.1.2.2.2.2.2.2.2.2.1, y.1.2.2.2.2.2.2.2.2.2.1.1, y.1.2.2.2.2.2.2.2.2.2.1.2.1, y.1.2.2.2.2.2.2.2.2.2.1.2.2.1, y.2.2.2.2.2.2.1, y.2.2.2.2.2.2.2.1)) (fun _ => rfl)
noncomputable def Z2p : Nat → Int → Int → List Int → Int → Int → List (Int × Int) → Int → Int → List (Int × Int) → List (Int × Int × Int) → List (Int × Int × Int) → Int → Int → Int → Int → Int → Option (Int × Int × List Int × Int × Int × List (Int × Int) × Int × Int × List (Int × Int) × List (Int × Int × Int) × List (Int × Int × Int) × Int × Int)
 | 0, _, _, _, _, _, _, _, _, _, _, _, _, _, _, _, _ => none
 | k + 1, b1_1, b1_2, o2, b3_0, b3_1, o4, b5_0, b5_1, o6, o7, o8, b9_0, b9_1, b9_2, v7, v8 =>
  if decide (v8 < (↑(List.length o8) : Int)) = true then if (0 : Int) ≤ v8 then if v8 < (↑(List.length o8) : Int) then if decide (Prod.fst (Prod.snd (List.getD o8 (Int.toNat v8) ((0 : Int), (0 : Int), (0 : Int)))) < b9_1) = true then Z2p k b1_1 b1_2 o2 b3_0 b3_1 o4 b5_0 b5_1 o6 o7 o8 b9_0 b9_1 b9_2 v7 (wrap64 (v8 + (1 : Int))) else if (0 : Int) ≤ v8 then if v8 < (↑(List.length o8) : Int) then if decide (Prod.fst (Prod.snd (List.getD o8 (Int.toNat v8) ((0 : Int), (0 : Int), (0 : Int)))) = b9_1) = true then if (0 : Int) ≤ v8 then if v8 < (↑(List.length o8) : Int) then if decide (Prod.snd (Prod.snd (List.getD o8 (Int.toNat v8) ((0 : Int), (0 : Int), (0 : Int)))) ≤ b9_2) = true then Z2p k b1_1 b1_2 o2 b3_0 b3_1 o4 b5_0 b5_1 o6 o7 o8 b9_0 b9_1 b9_2 v7 (wrap64 (v8 + (1 : Int))) else some (b1_1, b1_2, o2, b3_0, b3_1, o4, b5_0, b5_1, o6, o7, o8, v7, v8) else none else none else some (b1_1, b1_2, o2, b3_0, b3_1, o4, b5_0, b5_1, o6, o7, o8, v7, v8) else none else none else none else none else some (b1_1, b1_2, o2, b3_0, b3_1, o4, b5_0, b5_1, o6, o7, o8, v7, v8)
noncomputable def ZaN : Spec := Spec.mk [OSh.ro, OSh.box (82 : Nat) [Sh.sl (2 : Nat), Sh.int .i64, Sh.int .u64], OSh.fx (Ty.int .u8), OSh.box (26 : Nat) [Sh.int .i64, Sh.int .i64, Sh.sl (4 : Nat)], OSh.row true (122 : Nat) (Ty.pair (Ty.int .i64) (Ty.int .i64)), OSh.box (26 : Nat) [Sh.int .i64, Sh.int .i64, Sh.sl (6 : Nat)], OSh.row true (122 : Nat) (Ty.pair (Ty.int .i64) (Ty.int .i64)), OSh.row true (42 : Nat) (Ty.pair (Ty.int .i64) (Ty.pair (Ty.int .i64) (Ty.int .i64))), OSh.row true (42 : Nat) (Ty.pair (Ty.int .i64) (Ty.pair (Ty.int .i64) (Ty.int .i64))), OSh.box (42 : Nat) [Sh.int .i64, Sh.int .i64, Sh.int .i64]] [((0 : Nat), TSh.at (Sh.ptr (1 : Nat) (0 : Nat))), ((2 : Nat), TSh.at (Sh.ptr (3 : Nat) (0 : Nat))), ((4 : Nat), TSh.at (Sh.ptr (5 : Nat) (0 : Nat))), ((5 : Nat), TSh.at (Sh.sl (7 : Nat))), ((6 : Nat), TSh.at (Sh.sl (8 : Nat))), ((7 : Nat), TSh.at (Sh.int .i64)), ((8 : Nat), TSh.at (Sh.int .i64)), ((9 : Nat), TSh.at (Sh.ptr (9 : Nat) (0 : Nat)))]
noncomputable def ZoY : Spec := Spec.mk [OSh.ro, OSh.box (82 : Nat) [Sh.sl (2 : Nat), Sh.int .i64, Sh.int .u64], OSh.fx (Ty.int .u8), OSh.box (26 : Nat) [Sh.int .i64, Sh.int .i64, Sh.sl (4 : Nat)], OSh.row true (122 : Nat) (Ty.pair (Ty.int .i64) (Ty.int .i64)), OSh.box (26 : Nat) [Sh.int .i64, Sh.int .i64, Sh.sl (6 : Nat)], OSh.row true (122 : Nat) (Ty.pair (Ty.int .i64) (Ty.int .i64)), OSh.row true (42 : Nat) (Ty.pair (Ty.int .i64) (Ty.pair (Ty.int .i64) (Ty.int .i64))), OSh.row true (42 : Nat) (Ty.pair (Ty.int .i64) (Ty.pair (Ty.int .i64) (Ty.int .i64)))] [((0 : Nat), TSh.at (Sh.ptr (1 : Nat) (0 : Nat))), ((2 : Nat), TSh.at (Sh.ptr (3 : Nat) (0 : Nat))), ((4 : Nat), TSh.at (Sh.ptr (5 : Nat) (0 : Nat))), ((5 : Nat), TSh.at (Sh.sl (7 : Nat))), ((6 : Nat), TSh.at (Sh.sl (8 : Nat))), ((7 : Nat), TSh.at (Sh.int .i64)), ((8 : Nat), TSh.at (Sh.int .i64))]
noncomputable def Z2Y : LoopDef (Tup Z12 × OutD) := .plain ZaN ZoY (Int × Int × List Int × Int × Int × List (Int × Int) × Int × Int × List (Int × Int) × List (Int × Int × Int) × List (Int × Int × Int) × Int × Int) (fun k x => Z2p k x.1.2.1.2.1 x.1.2.1.2.2.1 x.1.2.2.1 x.1.2.2.2.1.1 x.1.2.2.2.1.2.1 x.1.2.2.2.2.1 x.1.2.2.2.2.2.1.1 x.1.2.2.2.2.2.1.2.1 x.1.2.2.2.2.2.2.1 x.1.2.2.2.2.2.2.2.1 x.1.2.2.2.2.2.2.2.2.1 x.1.2.2.2.2.2.2.2.2.2.1.1 x.1.2.2.2.2.2.2.2.2.2.1.2.1 x.1.2.2.2.2.2.2.2.2.2.1.2.2.1 x.2.2.2.2.2.2.1 x.2.2.2.2.2.2.2.1) (fun z => (((), ((), z.1, z.2.1, ()), z.2.2.1, (z.2.2.2.1, z.2.2.2.2.1, (), ()), z.2.2.2.2.2.1, (z.2.2.2.2.2.2.1, z.2.2.2.2.2.2.2.1, (), ()), z.2.2.2.2.2.2.2.2.1, z.2.2.2.2.2.2.2.2.2.1, z.2.2.2.2.2.2.2.2.2.2.1, ()), ((), (), (), (), (), z.2.2.2.2.2.2.2.2.2.2.2.1, z.2.2.2.2.2.2.2.2.2.2.2.2, ()))) (fun y => (y.1.2.1.2.1, y.1.2.1.2.2.1, y.1.2.2.1, y.1.2.2.2.1.1, y.1.2.2.2.1.2.1, y.1.2.2.2.2.1, y.1.2.2.2.2.2.1.1, y.1.2.2.2.2.2.1.2.1, y.1.2.2.2.2.2.2.1, y.1.2.2.2.2.2.2.2.1, y.1.2.2.2.2.2.2.2.2.1, y.2.2.2.2.2.2.1, y.2.2.2.2.2.2.2.1)) (fun _ => rfl)
noncomputable def Z3s : Nat → Int → Int → List Int → Int → Int → List (Int × Int) → Int → Int → List (Int × Int) → List (Int × Int × Int) → List (Int × Int × Int) → Int → Int → Option (Int × Int × List Int × Int × Int × List (Int × Int) × Int × Int × List (Int × Int) × List (Int × Int × Int))
 | 0, _, _, _, _, _, _, _, _, _, _, _, _, _ => none
 | k + 1, b1_1, b1_2, o2, b3_0, b3_1, o4, b5_0, b5_1, o6, o7, o8, v7, v8 =>
  if decide ((↑(List.length o7) : Int) < v7) = true then if decide (v8 < (↑(List.length o8) : Int)) = true then Option.bind (Z0 k (o2, b1_1, b1_2) (wrap64 ((↑(List.length o8) : Int) - v8))) fun z13 => if (0 : Int) ≤ wrap64 (v8 + Prod.fst z13) then if wrap64 (v8 + Prod.fst z13) < (↑(List.length o8) : Int) then Option.bind (Z9T k z13.2.1 z13.2.2 o2 b3_0 b3_1 o4 b5_0 b5_1 o6 o7 o8 (Prod.fst (List.getD o8 (Int.toNat (wrap64 (v8 + Prod.fst z13))) ((0 : Int), (0 : Int), (0 : Int)))) (Prod.fst (Prod.snd (List.getD o8 (Int.toNat (wrap64 (v8 + Prod.fst z13))) ((0 : Int), (0 : Int), (0 : Int))))) (Prod.snd (Prod.snd (List.getD o8 (Int.toNat (wrap64 (v8 + Prod.fst z13))) ((0 : Int), (0 : Int), (0 : Int))))) v7 v8 (decide (v7 ≥ (4 : Int)))) fun z14 => if List.length z14.2.2.2.2.2.2.2.2.2.1 + List.length [(Prod.fst z14.2.2.2.2.2.2.2.2.2.2.2, Prod.fst z14.2.2.2.2.2.2.2.2.2.2.2.2, Prod.fst z14.2.2.2.2.2.2.2.2.2.2.2.2.2)] ≤ (140737488355328 / 24 : Nat) then Option.bind (Z2p k z14.1 z14.2.1 z14.2.2.1 z14.2.2.2.1 z14.2.2.2.2.1 z14.2.2.2.2.2.1 z14.2.2.2.2.2.2.1 z14.2.2.2.2.2.2.2.1 z14.2.2.2.2.2.2.2.2.1 (Prod.fst z14.2.2.2.2.2.2.2.2.2 ++ [(Prod.fst z14.2.2.2.2.2.2.2.2.2.2.2, Prod.fst z14.2.2.2.2.2.2.2.2.2.2.2.2, Prod.fst z14.2.2.2.2.2.2.2.2.2.2.2.2.2)]) z14.2.2.2.2.2.2.2.2.2.2.1 z14.2.2.2.2.2.2.2.2.2.2.2.1 z14.2.2.2.2.2.2.2.2.2.2.2.2.1 z14.2.2.2.2.2.2.2.2.2.2.2.2.2.1 z14.2.2.2.2.2.2.2.2.2.2.2.2.2.2.1 z14.2.2.2.2.2.2.2.2.2.2.2.2.2.2.2) fun z15 => Z3s k z15.1 z15.2.1 z15.2.2.1 z15.2.2.2.1 z15.2.2.2.2.1 z15.2.2.2.2.2.1 z15.2.2.2.2.2.2.1 z15.2.2.2.2.2.2.2.1 z15.2.2.2.2.2.2.2.2.1 z15.2.2.2.2.2.2.2.2.2.1 z15.2.2.2.2.2.2.2.2.2.2.1 z15.2.2.2.2.2.2.2.2.2.2.2.1 z15.2.2.2.2.2.2.2.2.2.2.2.2 else none else none else none else some (b1_1, b1_2, o2, b3_0, b3_1, o4, b5_0, b5_1, o6, o7) else some (b1_1, b1_2, o2, b3_0, b3_1, o4, b5_0, b5_1, o6, o7)
noncomputable def ZaT : Spec := Spec.mk [OSh.ro, OSh.box (82 : Nat) [Sh.sl (2 : Nat), Sh.int .i64, Sh.int .u64], OSh.fx (Ty.int .u8), OSh.box (26 : Nat) [Sh.int .i64, Sh.int .i64, Sh.sl (4 : Nat)], OSh.row true (122 : Nat) (Ty.pair (Ty.int .i64) (Ty.int .i64)), OSh.box (26 : Nat) [Sh.int .i64, Sh.int .i64, Sh.sl (6 : Nat)], OSh.row true (122 : Nat) (Ty.pair (Ty.int .i64) (Ty.int .i64)), OSh.row true (42 : Nat) (Ty.pair (Ty.int .i64) (Ty.pair (Ty.int .i64) (Ty.int .i64))), OSh.row true (42 : Nat) (Ty.pair (Ty.int .i64) (Ty.pair (Ty.int .i64) (Ty.int .i64)))] [((0 : Nat), TSh.at (Sh.ptr (1 : Nat) (0 : Nat))), ((2 : Nat), TSh.at (Sh.ptr (3 : Nat) (0 : Nat))), ((4 : Nat), TSh.at (Sh.ptr (5 : Nat) (0 : Nat))), ((5 : Nat), TSh.at (Sh.sl (7 : Nat))), ((6 : Nat), TSh.at (Sh.sl (8 : Nat))), ((7 : Nat), TSh.at (Sh.int .i64)), ((8 : Nat), TSh.at (Sh.int .i64))]
noncomputable def Zpd : Spec := Spec.mk [OSh.ro, OSh.box (82 : Nat) [Sh.sl (2 : Nat), Sh.int .i64, Sh.int .u64], OSh.fx (Ty.int .u8), OSh.box (26 : Nat) [Sh.int .i64, Sh.int .i64, Sh.sl (4 : Nat)], OSh.row true (122 : Nat) (Ty.pair (Ty.int .i64) (Ty.int .i64)), OSh.box (26 : Nat) [Sh.int .i64, Sh.int .i64, Sh.sl (6 : Nat)], OSh.row true (122 : Nat) (Ty.pair (Ty.int .i64) (Ty.int .i64)), OSh.row true (42 : Nat) (Ty.pair (Ty.int .i64) (Ty.pair (Ty.int .i64) (Ty.int .i64)))] [((0 : Nat), TSh.at (Sh.ptr (1 : Nat) (0 : Nat))), ((2 : Nat), TSh.at (Sh.ptr (3 : Nat) (0 : Nat))), ((4 : Nat), TSh.at (Sh.ptr (5 : Nat) (0 : Nat))), ((5 : Nat), TSh.at (Sh.sl (7 : Nat)))]
noncomputable def Z32 : LoopDef (Tup Z12 × OutD) := .plain ZaT Zpd (Int × Int × List Int × Int × Int × List (Int × Int) × Int × Int × List (Int × Int) × List (Int × Int × Int)) (fun k x => Z3s k x.1.2.1.2.1 x.1.2.1.2.2.1 x.1.2.2.1 x.1.2.2.2.1.1 x.1.2.2.2.1.2.1 x.1.2.2.2.2.1 x.1.2.2.2.2.2.1.1 x.1.2.2.2.2.2.1.2.1 x.1.2.2.2.2.2.2.1 x.1.2.2.2.2.2.2.2.1 x.1.2.2.2.2.2.2.2.2.1 x.2.2.2.2.2.2.1 x.2.2.2.2.2.2.2.1) (fun z => (((), ((), z.1, z.2.1, ()), z.2.2.1, (z.2.2.2.1, z.2.2.2.2.1, (), ()), z.2.2.2.2.2.1, (z.2.2.2.2.2.2.1, z.2.2.2.2.2.2.2.1, (), ()), z.2.2.2.2.2.2.2.2.1, z.2.2.2.2.2.2.2.2.2, ()), ((), (), (), (), ()))) (fun y => (y.1.2.1.2.1, y.1.2.1.2.2.1, y.1.2.2.1, y.1.2.2.2.1.1, y.1.2.2.2.1.2.1, y.1.2.2.2.2.1, y.1.2.2.2.2.2.1.1, y.1.2.2.2.2.2.1.2.1, y.1.2.2.2.2.2.2.1, y.1.2.2.2.2.2.2.2.1)) (fun _ => rfl)
noncomputable def Z4A : Nat → List Int × Int × Int → Option ((Int × Int × List (Int × Int)) × List (Int × Int × Int) × Int × Int)
 | 0, _ => none
 | k + 1, p0 =>
  Option.bind (Zm k (Prod.fst p0, Prod.fst p0.2, Prod.snd p0.2)) fun z0 => Option.bind (Zr k (Prod.fst p0, Prod.fst z0.2, Prod.snd z0.2) (3 : Int)) fun z1 => Option.bind (Z9W k z1.2.1 z1.2.2 p0.1 (0 : Int) (0 : Int) [] z0.1.1 z0.1.2.1 z0.1.2.2 z1.1) fun z3 => Option.bind (Zr k (Prod.fst z3.2.2, Prod.fst z3, Prod.fst z3.2) (4 : Int)) fun z4 => Option.bind (Z9S k z4.2.1 z4.2.2 z3.2.2.1 z3.2.2.2.1 z3.2.2.2.2.1 z3.2.2.2.2.2.1 z3.2.2.2.2.2.2.1 z3.2.2.2.2.2.2.2.1 z3.2.2.2.2.2.2.2.2 z4.1) fun z6 => Option.bind (Zaf k (Prod.fst z6.2.2.2.2.2.2, Prod.fst z6.2.2.2.2.2.2.2, Prod.snd z6.2.2.2.2.2.2.2)) fun z7 => if (!z7) = true then some ((Prod.fst z6.2.2.2.2.2.2, Prod.fst z6.2.2.2.2.2.2.2, Prod.snd z6.2.2.2.2.2.2.2), [], Prod.fst z6, Prod.fst z6.2) else Option.bind (Z4e k (Prod.fst z6.2.2.2.2.2.2, Prod.fst z6.2.2.2.2.2.2.2, Prod.snd z6.2.2.2.2.2.2.2)) fun z8 => Option.bind (Z5 k (Prod.fst z6.2.2, Prod.fst z6, Prod.fst z6.2) [(0 : Int), (1 : Int), (1 : Int), (2 : Int), (3 : Int)]) fun z9 => Option.bind (Zr k (Prod.fst z6.2.2, Prod.fst z9.2, Prod.snd z9.2) (20 : Int)) fun z10 => Option.bind (Z9Y k z10.2.1 z10.2.2 z6.2.2.1 z6.2.2.2.1 z6.2.2.2.2.1 z6.2.2.2.2.2.1 z6.2.2.2.2.2.2.1 z6.2.2.2.2.2.2.2.1 z6.2.2.2.2.2.2.2.2 [] z8 z9.1 z10.1) fun z12 => Option.bind (Z3s k z12.1 z12.2.1 z12.2.2.1 z12.2.2.2.1 z12.2.2.2.2.1 z12.2.2.2.2.2.1 z12.2.2.2.2.2.2.1 z12.2.2.2.2.2.2.2.1 z12.2.2.2.2.2.2.2.2.1 z12.2.2.2.2.2.2.2.2.2.1 z12.2.2.2.2.2.2.2.2.2.2.1 z12.2.2.2.2.2.2.2.2.2.2.2 (0 : Int)) fun z16 => if decide ((↑(List.length z16.2.2.2.2.2.2.2.2.2) : Int) > (0 : Int)) = true then Option.bind (Z0 k (Prod.fst z16.2.2, Prod.fst z16, Prod.fst z16.2) (↑(List.length z16.2.2.2.2.2.2.2.2.2) : Int)) fun z17 => if (0 : Int) ≤ Prod.fst z17 then if Prod.fst z17 < (↑(List.length z16.2.2.2.2.2.2.2.2.2) : Int) then Option.bind (Z0 k (Prod.fst z16.2.2, Prod.fst z17.2, Prod.snd z17.2) (24 : Int)) fun z18 => if decide (Prod.fst z18 = (0 : Int)) = true then Option.bind (Z5 k (Prod.fst z16.2.2, Prod.fst z18.2, Prod.snd z18.2) [(0 : Int), (1 : Int), (3 : Int), (4 : Int)]) fun z19 => some ((Prod.fst z16.2.2.2.2.2.2, Prod.fst z16.2.2.2.2.2.2.2, Prod.fst z16.2.2.2.2.2.2.2.2), List.set z16.2.2.2.2.2.2.2.2.2 (Int.toNat z17.1) (Prod.fst z19, Prod.snd (List.getD z16.2.2.2.2.2.2.2.2.2 (Int.toNat z17.1) ((0 : Int), (0 : Int), (0 : Int)))), Prod.fst z19.2, Prod.snd z19.2) else if decide (Prod.fst z18 = (1 : Int)) = true then Option.bind (Z5 k (Prod.fst z16.2.2, Prod.fst z18.2, Prod.snd z18.2) [(-1 : Int), Prod.fst z16.2.2.2.2.2.2, (0 : Int)]) fun z20 => some ((Prod.fst z16.2.2.2.2.2.2, Prod.fst z16.2.2.2.2.2.2.2, Prod.fst z16.2.2.2.2.2.2.2.2), List.set z16.2.2.2.2.2.2.2.2.2 (Int.toNat z17.1) (Prod.fst (List.getD z16.2.2.2.2.2.2.2.2.2 (Int.toNat z17.1) ((0 : Int), (0 : Int), (0 : Int))), Prod.fst z20, Prod.snd (Prod.snd (List.getD z16.2.2.2.2.2.2.2.2.2 (Int.toNat z17.1) ((0 : Int), (0 : Int), (0 : Int))))), Prod.fst z20.2, Prod.snd z20.2) else if decide (Prod.fst z18 = (2 : Int)) = true then Option.bind (Z5 k (Prod.fst z16.2.2, Prod.fst z18.2, Prod.snd z18.2) [(-1 : Int), Prod.fst z16.2.2.2.2.2.2.2, (0 : Int)]) fun z21 => some ((Prod.fst z16.2.2.2.2.2.2, Prod.fst z16.2.2.2.2.2.2.2, Prod.fst z16.2.2.2.2.2.2.2.2), List.set z16.2.2.2.2.2.2.2.2.2 (Int.toNat z17.1) (Prod.fst (List.getD z16.2.2.2.2.2.2.2.2.2 (Int.toNat z17.1) ((0 : Int), (0 : Int), (0 : Int))), Prod.fst (Prod.snd (List.getD z16.2.2.2.2.2.2.2.2.2 (Int.toNat z17.1) ((0 : Int), (0 : Int), (0 : Int)))), Prod.fst z21), Prod.fst z21.2, Prod.snd z21.2) else some ((Prod.fst z16.2.2.2.2.2.2, Prod.fst z16.2.2.2.2.2.2.2, Prod.fst z16.2.2.2.2.2.2.2.2), Prod.snd z16.2.2.2.2.2.2.2.2, Prod.fst z18.2, Prod.snd z18.2) else none else none else some ((Prod.fst z16.2.2.2.2.2.2, Prod.fst z16.2.2.2.2.2.2.2, Prod.fst z16.2.2.2.2.2.2.2.2), Prod.snd z16.2.2.2.2.2.2.2.2, Prod.fst z16, Prod.fst z16.2)
noncomputable def Z1e : FnDef := .of Zi1 Z12 ((Int × Int × List (Int × Int)) × List (Int × Int × Int) × Int × Int) (fun k x => Z4A k x.1) ZgI Zc7 Zo3
noncomputable def ZB : Code := Tryz.f60.body.getD .skip
noncomputable def Z2 : Ctx (Tup Z12 × OutD) := { T := T, G := [(96, ZV.E), (97, Z1f.E), (99, Z1V.E), (100, Z1E.E), (84, Z3M.E), (67, Z1k.E), (72, Zq.E), (73, Za.E)], mvs := [], no := 2, n := 143, res := resOf T Zi1 Z12 Tryz.f60.results.toList, loops := [(2, Z2Y.E), (0, Z32.E)], regs := [], conds := [(14, Zo.E), (18, Zs.E), (31, Zu.E), (57, Zn.E)], cuts := [] }
theorem Z3e (k : Nat) : EnvOK Tryz.prog k Z2.G := (EnvOK.cons (Zbx k) (EnvOK.cons (Z9y k) (EnvOK.cons (Zst k) (EnvOK.cons (Zi4 k) (EnvOK.cons (ZjG k) (EnvOK.cons (Zba k) (EnvOK.cons (Z2z k) (EnvOK.cons (ZA k) (EnvOK.nil mixed)))))))))
noncomputable def Z60 : Code := ((findCond 14 ZB).map (·.1)).getD .skip
noncomputable def Z5w : Code := ((findCond 14 ZB).map (·.2)).getD .skip
theorem Zmy (k : Nat) (i : Zo.inp.D) : Zo.lp k i = branch (Zo.inp.st Z2.n i) (.tmp 14) (fun st => exec Z2 k Z60 st (outK Z2 Zo) (fun _ _ => none) Zo.mkB) (fun st => exec Z2 k Z5w st (outK Z2 Zo) (fun _ _ => none) Zo.mkB) := by kernel_rfl
theorem Zl5 (k : Nat) : EOK Tryz.prog Z2 k Zo.E (.cond (.tmp 14) Z60 Z5w) := Zlh (D := Zo) T_ok (Z3e k) (Zmy k) (@LOK.by _ _ _ _ Z60 [] (by kernel_rfl) AllOK.nil) (@LOK.by _ _ _ _ Z5w [] (by kernel_rfl) AllOK.nil)
noncomputable def Z5A : Code := ((findCond 18 ZB).map (·.1)).getD .skip
noncomputable def Z5K : Code := ((findCond 18 ZB).map (·.2)).getD .skip
theorem Zm2 (k : Nat) (i : Zs.inp.D) : Zs.lp k i = branch (Zs.inp.st Z2.n i) (.tmp 18) (fun st => exec Z2 k Z5A st (outK Z2 Zs) (fun _ _ => none) Zs.mkB) (fun st => exec Z2 k Z5K st (outK Z2 Zs) (fun _ _ => none) Zs.mkB) := by kernel_rfl
theorem Zl1 (k : Nat) : EOK Tryz.prog Z2 k Zs.E (.cond (.tmp 18) Z5A Z5K) := Zlh (D := Zs) T_ok (Z3e k) (Zm2 k) (@LOK.by _ _ _ _ Z5A [] (by kernel_rfl) AllOK.nil) (@LOK.by _ _ _ _ Z5K [] (by kernel_rfl) AllOK.nil)
noncomputable def Z5Z : Code := ((findCond 31 ZB).map (·.1)).getD .skip
noncomputable def Z5z : Code := ((findCond 31 ZB).map (·.2)).getD .skip
theorem ZmH (k : Nat) (i : Zu.inp.D) : Zu.lp k i = branch (Zu.inp.st Z2.n i) (.tmp 31) (fun st => exec Z2 k Z5Z st (outK Z2 Zu) (fun _ _ => none) Zu.mkB) (fun st => exec Z2 k Z5z st (outK Z2 Zu) (fun _ _ => none) Zu.mkB) := by kernel_rfl
theorem ZkG (k : Nat) : EOK Tryz.prog Z2 k Zu.E (.cond (.tmp 31) Z5Z Z5z) := Zlh (D := Zu) T_ok (Z3e k) (ZmH k) (@LOK.by _ _ _ _ Z5Z [] (by kernel_rfl) AllOK.nil) (@LOK.by _ _ _ _ Z5z [] (by kernel_rfl) AllOK.nil)
noncomputable def Z5B : Code := ((findCond 57 ZB).map (·.1)).getD .skip
noncomputable def Z5I : Code := ((findCond 57 ZB).map (·.2)).getD .skip
theorem ZmZ (k : Nat) (i : Zn.inp.D) : Zn.lp k i = branch (Zn.inp.st Z2.n i) (.tmp 57) (fun st => exec Z2 k Z5B st (outK Z2 Zn) (fun _ _ => none) Zn.mkB) (fun st => exec Z2 k Z5I st (outK Z2 Zn) (fun _ _ => none) Zn.mkB) := by kernel_rfl
theorem Zl9 (k : Nat) : EOK Tryz.prog Z2 k Zn.E (.cond (.tmp 57) Z5B Z5I) := Zlh (D := Zn) T_ok (Z3e k) (ZmZ k) (@LOK.by _ _ _ _ Z5B [] (by kernel_rfl) AllOK.nil) (@LOK.by _ _ _ _ Z5I [] (by kernel_rfl) AllOK.nil)
noncomputable def Z7q : Code := (findLoop 2 ZB).getD .skip
theorem Zpt (k : Nat) (x : ZaN.D) : Z2Y.lp (k + 1) x = loopK Z2 Z2Y 2 Z7q k x := by kernel_rfl
theorem ZpN (k : Nat) : LOK Tryz.prog Z2 k Z7q := LOK.by [] (by kernel_rfl) AllOK.nil
theorem ZpK (x : ZaN.D) : Z2Y.lp 0 x = none := by kernel_rfl
theorem ZnR (k : Nat) : EOK Tryz.prog Z2 k Z2Y.E (.block 2 (.loop Z7q)) := Zb T_ok Z3e ZpK Zpt ZpN k
noncomputable def Z7w : Code := (findLoop 0 ZB).getD .skip
theorem ZpJ (k : Nat) (x : ZaT.D) : Z32.lp (k + 1) x = loopK Z2 Z32 0 Z7w k x := by kernel_rfl
theorem ZpO (k : Nat) : LOK Tryz.prog Z2 k Z7w := LOK.by [(Zn.E, .cond (.tmp 57) Z5B Z5I), (Z2Y.E, .block 2 (.loop Z7q))] (by kernel_rfl) (AllOK.cons (Zl9 k) (AllOK.cons (ZnR k) AllOK.nil))
theorem ZpG (x : ZaT.D) : Z32.lp 0 x = none := by kernel_rfl
theorem ZnT (k : Nat) : EOK Tryz.prog Z2 k Z32.E (.block 0 (.loop Z7w)) := Zb T_ok Z3e ZpG ZpJ ZpO k
theorem Zua (k : Nat) (x : Tup Z1e.ps) : Z1e.f (k + 1) x = fnK Z1e Z2 ZB k x := by kernel_rfl
theorem Zum (x : Tup Z1e.ps) : Z1e.f 0 x = none := by kernel_rfl
theorem ZuP (k : Nat) : LOK Tryz.prog Z2 k ZB := LOK.by [(Zo.E, .cond (.tmp 14) Z60 Z5w), (Zs.E, .cond (.tmp 18) Z5A Z5K), (Zu.E, .cond (.tmp 31) Z5Z Z5z), (Z32.E, .block 0 (.loop Z7w))] (by kernel_rfl) (AllOK.cons (Zl5 k) (AllOK.cons (Zl1 k) (AllOK.cons (ZkG k) (AllOK.cons (ZnT k) AllOK.nil))))
theorem Zde (k : Nat) : SoundAt Tryz.prog k 60 Z1e.E := @Z3 Tryz.prog Z1e Z2 60 Tryz.f60 ZB (by kernel_rfl) (by kernel_rfl) (by kernel_rfl) Tryz.func60 (by kernel_rfl) (by kernel_rfl) (by kernel_rfl) T_ok Z3e ZuP Zum Zua k
end
end Go.Proofs.YtglkedenkcpcbaaGreatDoor.Vs

set_option maxRecDepth 100000
set_option maxHeartbeats 2000000
set_option linter.unusedVariables false
set_option linter.unusedSimpArgs false
namespace Go.Proofs.YtglkedenkcpcbaaGreatDoor.Vs
open Go.RowKit
noncomputable section
noncomputable def Z2B : List PK := [PK.mk (Ty.pair (Ty.int .i64) (Ty.pair (Ty.int .i64) (Ty.slice (122 : Nat) (Ty.pair (Ty.int .i64) (Ty.int .i64))))) true none false none, PK.mk (Ty.slice (3 : Nat) (Ty.int .i64)) false none false none]
noncomputable def Zez : List PK := [PK.mk (Ty.slice (5 : Nat) (Ty.int .u8)) false none false none]
noncomputable def Ze5 (r : (Int × Int × List (Int × Int)) × List Int) : Tup Z2B × OutD := ((r.1, r.2, ()), none)
noncomputable def ZdG : Tup Z2B × OutD → Option ((Int × Int × List (Int × Int)) × List Int)
 | (a, none) => some (a.1, a.2.1)
 | _ => none
theorem Zjk : ∀ b r, ZdG b = some r → Ze5 r = b := by
 rintro ⟨a, o⟩ r h
 cases o with
 | none => injection h with h; subst h; rfl
 | some _ => cases h
noncomputable def Z1Q : Nat → Int → Int → List (Int × Int) → List Int → Int → Int → Int → Int → List (Int × Int) → Option (Int × Int × List (Int × Int) × List Int) := fun k b1_0 b1_1 o2 b3_0 b3_1 b3_2 b4_0 b4_1 o5 =>
    Option.bind (ZF k (b3_0, b3_1, b3_2) (b4_0, b4_1, o5)) fun z1 => some (b4_0, b4_1, o5, Prod.fst z1)
noncomputable def Z4l : Nat → Int → Int → List (Int × Int) → List Int → Int → Int → Int → Int → List (Int × Int) → Option (List (Int × Int × List (Int × Int) × List Int)) := fun k b1_0 b1_1 o2 b3_0 b3_1 b3_2 b4_0 b4_1 o5 =>
    joinL (Option.bind (ZF k (b3_0, b3_1, b3_2) (b4_0, b4_1, o5)) fun z2 => some [(b4_0, b4_1, o5, Prod.fst z2)]) (Option.bind (ZF k (b3_0, b3_1, b3_2) (b4_0, b4_1, o5)) fun z3 => some [(b4_0, b4_1, o5, Prod.fst z3)])
noncomputable def ZbI : Spec := Spec.mk [OSh.ro, OSh.box (26 : Nat) [Sh.int .i64, Sh.int .i64, Sh.sl (2 : Nat)], OSh.row true (122 : Nat) (Ty.pair (Ty.int .i64) (Ty.int .i64)), OSh.box (82 : Nat) [Sh.snap (0 : Nat) (Ty.int .u8), Sh.int .i64, Sh.int .u64], OSh.box (26 : Nat) [Sh.int .i64, Sh.int .i64, Sh.sl (5 : Nat)], OSh.row true (122 : Nat) (Ty.pair (Ty.int .i64) (Ty.int .i64))] [((2 : Nat), TSh.at (Sh.ptr (1 : Nat) (0 : Nat))), ((4 : Nat), TSh.at (Sh.ptr (3 : Nat) (0 : Nat))), ((5 : Nat), TSh.at (Sh.ptr (4 : Nat) (0 : Nat)))]
noncomputable def Zjc : Spec := Spec.mk [OSh.ro, OSh.box (26 : Nat) [Sh.int .i64, Sh.int .i64, Sh.sl (2 : Nat)], OSh.row true (122 : Nat) (Ty.pair (Ty.int .i64) (Ty.int .i64)), OSh.row true (3 : Nat) (Ty.int .i64)] [((2 : Nat), TSh.at (Sh.ptr (1 : Nat) (0 : Nat))), ((3 : Nat), TSh.at (Sh.sl (3 : Nat)))]
noncomputable def Z1I : LoopDef (Tup Z2B × OutD) := .plain ZbI Zjc (Int × Int × List (Int × Int) × List Int) (fun k x => Z1Q k x.1.2.1.1 x.1.2.1.2.1 x.1.2.2.1 x.1.2.2.2.1.1 x.1.2.2.2.1.2.1 x.1.2.2.2.1.2.2.1 x.1.2.2.2.2.1.1 x.1.2.2.2.2.1.2.1 x.1.2.2.2.2.2.1) (fun z => (((), (z.1, z.2.1, (), ()), z.2.2.1, z.2.2.2, ()), ((), (), ()))) (fun y => (y.1.2.1.1, y.1.2.1.2.1, y.1.2.2.1, y.1.2.2.2.1)) (fun _ => rfl)
theorem Zjb (k : Nat) (b1_0 : Int) (b1_1 : Int) (o2 : List (Int × Int)) (b3_0 : List Int) (b3_1 : Int) (b3_2 : Int) (b4_0 : Int) (b4_1 : Int) (o5 : List (Int × Int)) : Z4l k b1_0 b1_1 o2 b3_0 b3_1 b3_2 b4_0 b4_1 o5 = repl 2 (Z1Q k b1_0 b1_1 o2 b3_0 b3_1 b3_2 b4_0 b4_1 o5) := by
 first
 | (simp only [Z4l, Z1Q, Zd, Zi, Zf, Zg, Ze, Z4, if_true]; done)
 | (simp only [Z4l, Z1Q, Zd, Zi, Zf, Zg, Ze, Z4, if_true]; simp only [Z1n, Z1o, Z2J, Z4]; simp only [Z44]; exact Z22 ⟨fun h => by simp only [h, and_self], fun h => by simp only [h, and_self]⟩)
noncomputable def Z6x : Nat → List Int → Option ((Int × Int × List (Int × Int)) × List Int)
 | 0, _ => none
 | k + 1, p0 =>
  Option.bind (Z4A k (p0, (0 : Int), (0 : Int))) fun z0 => Option.bind (Z1Q k (0 : Int) (0 : Int) [] p0 z0.2.2.1 z0.2.2.2 z0.1.1 z0.1.2.1 z0.1.2.2) fun z4 => some ((Prod.fst z4, Prod.fst z4.2, Prod.fst z4.2.2), Prod.snd z4.2.2)
noncomputable def Z1j : FnDef := .of Zez Z2B ((Int × Int × List (Int × Int)) × List Int) (fun k x => Z6x k x.1) Ze5 ZdG Zjk
noncomputable def Z6r : Code := Tryz.f24.body.getD .skip
noncomputable def ZI : Ctx (Tup Z2B × OutD) := { T := T, G := [(60, Z1e.E), (61, Z1m.E)], mvs := [], no := 0, n := 19, res := resOf T Zez Z2B Tryz.f24.results.toList, loops := [], regs := [(3, Z1I.E)], conds := [], cuts := [] }
theorem ZeC (k : Nat) : EnvOK Tryz.prog k ZI.G := (EnvOK.cons (Zde k) (EnvOK.cons (Zhy k) (EnvOK.nil mixed)))
noncomputable def Z7B : Array Oper := (findReg 3 Z6r).getD #[]
theorem Zj2 (k : Nat) (x : ZbI.D) : execD ZI.T ZI.G ZI.mvs k Z7B (Z1I.inp.st ZI.n x) (outK ZI Z1I) = Z4l k x.1.2.1.1 x.1.2.1.2.1 x.1.2.2.1 x.1.2.2.2.1.1 x.1.2.2.2.1.2.1 x.1.2.2.2.1.2.2.1 x.1.2.2.2.2.1.1 x.1.2.2.2.2.1.2.1 x.1.2.2.2.2.2.1 := by kernel_rfl
theorem Ziy (k : Nat) : EOK Tryz.prog ZI k Z1I.E (.region 3 Z7B true) := Z5X (D := Z1I) (m := 2) T_ok (ZeC k) (fun x => (Zj2 k x).trans (Zjb k x.1.2.1.1 x.1.2.1.2.1 x.1.2.2.1 x.1.2.2.2.1.1 x.1.2.2.2.1.2.1 x.1.2.2.2.1.2.2.1 x.1.2.2.2.2.1.1 x.1.2.2.2.2.1.2.1 x.1.2.2.2.2.2.1))
theorem Znt (k : Nat) (x : Tup Z1j.ps) : Z1j.f (k + 1) x = fnK Z1j ZI Z6r k x := by kernel_rfl
theorem Znu (x : Tup Z1j.ps) : Z1j.f 0 x = none := by kernel_rfl
theorem Zno (k : Nat) : LOK Tryz.prog ZI k Z6r := LOK.by [(Z1I.E, .region 3 Z7B true)] (by kernel_rfl) (AllOK.cons (Ziy k) AllOK.nil)
theorem Znv (k : Nat) : SoundAt Tryz.prog k 24 Z1j.E := @Z3 Tryz.prog Z1j ZI 24 Tryz.f24 Z6r (by kernel_rfl) (by kernel_rfl) (by kernel_rfl) Tryz.func24 (by kernel_rfl) (by kernel_rfl) (by kernel_rfl) T_ok ZeC Zno Znu Znt k
noncomputable def Z2X : List PK := [PK.mk (Ty.pair (Ty.int .i64) (Ty.pair (Ty.int .i64) (Ty.slice (122 : Nat) (Ty.pair (Ty.int .i64) (Ty.int .i64))))) true none false none, PK.mk (Ty.slice (42 : Nat) (Ty.pair (Ty.int .i64) (Ty.pair (Ty.int .i64) (Ty.int .i64)))) false none false none, PK.mk (Ty.slice (3 : Nat) (Ty.int .i64)) false none false none]
noncomputable def Zfa : List PK := [PK.mk (Ty.slice (5 : Nat) (Ty.int .u8)) false none false none]
noncomputable def ZeG (r : (Int × Int × List (Int × Int)) × List (Int × Int × Int) × List Int) : Tup Z2X × OutD := ((r.1, r.2.1, r.2.2, ()), none)
noncomputable def ZeE : Tup Z2X × OutD → Option ((Int × Int × List (Int × Int)) × List (Int × Int × Int) × List Int)
 | (a, none) => some (a.1, a.2.1, a.2.2.1)
 | _ => none
theorem ZjC : ∀ b r, ZeE b = some r → ZeG r = b := by
 rintro ⟨a, o⟩ r h
 cases o with
 | none => injection h with h; subst h; rfl
 | some _ => cases h
noncomputable def Z2a : Nat → Int → Int → List (Int × Int) → List Int → Int → Int → Int → Int → List (Int × Int) → List (Int × Int × Int) → Option (Int × Int × List (Int × Int) × List (Int × Int × Int) × List Int) := fun k b1_0 b1_1 o2 b3_0 b3_1 b3_2 b4_0 b4_1 o5 o6 =>
    Option.bind (ZF k (b3_0, b3_1, b3_2) (b4_0, b4_1, o5)) fun z1 => some (b4_0, b4_1, o5, o6, Prod.fst z1)
noncomputable def Z4N : Nat → Int → Int → List (Int × Int) → List Int → Int → Int → Int → Int → List (Int × Int) → List (Int × Int × Int) → Option (List (Int × Int × List (Int × Int) × List (Int × Int × Int) × List Int)) := fun k b1_0 b1_1 o2 b3_0 b3_1 b3_2 b4_0 b4_1 o5 o6 =>
    joinL (Option.bind (ZF k (b3_0, b3_1, b3_2) (b4_0, b4_1, o5)) fun z2 => some [(b4_0, b4_1, o5, o6, Prod.fst z2)]) (Option.bind (ZF k (b3_0, b3_1, b3_2) (b4_0, b4_1, o5)) fun z3 => some [(b4_0, b4_1, o5, o6, Prod.fst z3)])
noncomputable def ZcO : Spec := Spec.mk [OSh.ro, OSh.box (26 : Nat) [Sh.int .i64, Sh.int .i64, Sh.sl (2 : Nat)], OSh.row true (122 : Nat) (Ty.pair (Ty.int .i64) (Ty.int .i64)), OSh.box (82 : Nat) [Sh.snap (0 : Nat) (Ty.int .u8), Sh.int .i64, Sh.int .u64], OSh.box (26 : Nat) [Sh.int .i64, Sh.int .i64, Sh.sl (5 : Nat)], OSh.row true (122 : Nat) (Ty.pair (Ty.int .i64) (Ty.int .i64)), OSh.row true (42 : Nat) (Ty.pair (Ty.int .i64) (Ty.pair (Ty.int .i64) (Ty.int .i64)))] [((2 : Nat), TSh.at (Sh.ptr (1 : Nat) (0 : Nat))), ((5 : Nat), TSh.at (Sh.ptr (3 : Nat) (0 : Nat))), ((6 : Nat), TSh.at (Sh.ptr (4 : Nat) (0 : Nat))), ((7 : Nat), TSh.at (Sh.sl (6 : Nat)))]
noncomputable def Zju : Spec := Spec.mk [OSh.ro, OSh.box (26 : Nat) [Sh.int .i64, Sh.int .i64, Sh.sl (2 : Nat)], OSh.row true (122 : Nat) (Ty.pair (Ty.int .i64) (Ty.int .i64)), OSh.row true (42 : Nat) (Ty.pair (Ty.int .i64) (Ty.pair (Ty.int .i64) (Ty.int .i64))), OSh.row true (3 : Nat) (Ty.int .i64)] [((2 : Nat), TSh.at (Sh.ptr (1 : Nat) (0 : Nat))), ((3 : Nat), TSh.at (Sh.sl (3 : Nat))), ((4 : Nat), TSh.at (Sh.sl (4 : Nat)))]
noncomputable def Z1O : LoopDef (Tup Z2X × OutD) := .plain ZcO Zju (Int × Int × List (Int × Int) × List (Int × Int × Int) × List Int) (fun k x => Z2a k x.1.2.1.1 x.1.2.1.2.1 x.1.2.2.1 x.1.2.2.2.1.1 x.1.2.2.2.1.2.1 x.1.2.2.2.1.2.2.1 x.1.2.2.2.2.1.1 x.1.2.2.2.2.1.2.1 x.1.2.2.2.2.2.1 x.1.2.2.2.2.2.2.1) (fun z => (((), (z.1, z.2.1, (), ()), z.2.2.1, z.2.2.2.1, z.2.2.2.2, ()), ((), (), (), ()))) (fun y => (y.1.2.1.1, y.1.2.1.2.1, y.1.2.2.1, y.1.2.2.2.1, y.1.2.2.2.2.1)) (fun _ => rfl)
theorem ZjQ (k : Nat) (b1_0 : Int) (b1_1 : Int) (o2 : List (Int × Int)) (b3_0 : List Int) (b3_1 : Int) (b3_2 : Int) (b4_0 : Int) (b4_1 : Int) (o5 : List (Int × Int)) (o6 : List (Int × Int × Int)) : Z4N k b1_0 b1_1 o2 b3_0 b3_1 b3_2 b4_0 b4_1 o5 o6 = repl 2 (Z2a k b1_0 b1_1 o2 b3_0 b3_1 b3_2 b4_0 b4_1 o5 o6) := by
 first
 | (simp only [Z4N, Z2a, Zd, Zi, Zf, Zg, Ze, Z4, if_true]; done)
 | (simp only [Z4N, Z2a, Zd, Zi, Zf, Zg, Ze, Z4, if_true]; simp only [Z1n, Z1o, Z2J, Z4]; simp only [Z44]; exact Z22 ⟨fun h => by simp only [h, and_self], fun h => by simp only [h, and_self]⟩)
noncomputable def Z7t : Nat → List Int → Option ((Int × Int × List (Int × Int)) × List (Int × Int × Int) × List Int)
 | 0, _ => none
 | k + 1, p0 =>
  Option.bind (Z4A k (p0, (0 : Int), (0 : Int))) fun z0 => Option.bind (Z2a k (0 : Int) (0 : Int) [] p0 z0.2.2.1 z0.2.2.2 z0.1.1 z0.1.2.1 z0.1.2.2 z0.2.1) fun z4 => some ((Prod.fst z4, Prod.fst z4.2, Prod.fst z4.2.2), Prod.fst z4.2.2.2, Prod.snd z4.2.2.2)
noncomputable def Z1p : FnDef := .of Zfa Z2X ((Int × Int × List (Int × Int)) × List (Int × Int × Int) × List Int) (fun k x => Z7t k x.1) ZeG ZeE ZjC
noncomputable def Z7u : Code := Tryz.f68.body.getD .skip
noncomputable def ZL : Ctx (Tup Z2X × OutD) := { T := T, G := [(60, Z1e.E), (61, Z1m.E)], mvs := [], no := 0, n := 21, res := resOf T Zfa Z2X Tryz.f68.results.toList, loops := [], regs := [(3, Z1O.E)], conds := [], cuts := [] }
theorem Zf3 (k : Nat) : EnvOK Tryz.prog k ZL.G := (EnvOK.cons (Zde k) (EnvOK.cons (Zhy k) (EnvOK.nil mixed)))
noncomputable def Z89 : Array Oper := (findReg 3 Z7u).getD #[]
theorem ZjB (k : Nat) (x : ZcO.D) : execD ZL.T ZL.G ZL.mvs k Z89 (Z1O.inp.st ZL.n x) (outK ZL Z1O) = Z4N k x.1.2.1.1 x.1.2.1.2.1 x.1.2.2.1 x.1.2.2.2.1.1 x.1.2.2.2.1.2.1 x.1.2.2.2.1.2.2.1 x.1.2.2.2.2.1.1 x.1.2.2.2.2.1.2.1 x.1.2.2.2.2.2.1 x.1.2.2.2.2.2.2.1 := by kernel_rfl
theorem Zj6 (k : Nat) : EOK Tryz.prog ZL k Z1O.E (.region 3 Z89 true) := Z5X (D := Z1O) (m := 2) T_ok (Zf3 k) (fun x => (ZjB k x).trans (ZjQ k x.1.2.1.1 x.1.2.1.2.1 x.1.2.2.1 x.1.2.2.2.1.1 x.1.2.2.2.1.2.1 x.1.2.2.2.1.2.2.1 x.1.2.2.2.2.1.1 x.1.2.2.2.2.1.2.1 x.1.2.2.2.2.2.1 x.1.2.2.2.2.2.2.1))
theorem Zpa (k : Nat) (x : Tup Z1p.ps) : Z1p.f (k + 1) x = fnK Z1p ZL Z7u k x := by kernel_rfl
theorem ZpE (x : Tup Z1p.ps) : Z1p.f 0 x = none := by kernel_rfl
theorem Zpx (k : Nat) : LOK Tryz.prog ZL k Z7u := LOK.by [(Z1O.E, .region 3 Z89 true)] (by kernel_rfl) (AllOK.cons (Zj6 k) AllOK.nil)
theorem Zpw (k : Nat) : SoundAt Tryz.prog k 68 Z1p.E := @Z3 Tryz.prog Z1p ZL 68 Tryz.f68 Z7u (by kernel_rfl) (by kernel_rfl) (by kernel_rfl) Tryz.func68 (by kernel_rfl) (by kernel_rfl) (by kernel_rfl) T_ok Zf3 Zpx ZpE Zpa k
noncomputable def Z5V : List PK := [PK.mk (Ty.pair (Ty.int .i64) (Ty.pair (Ty.int .i64) (Ty.slice (122 : Nat) (Ty.pair (Ty.int .i64) (Ty.int .i64))))) true none false none, PK.mk (Ty.slice (42 : Nat) (Ty.pair (Ty.int .i64) (Ty.pair (Ty.int .i64) (Ty.int .i64)))) false none false none]
noncomputable def ZgK : List PK := [PK.mk (Ty.slice (5 : Nat) (Ty.int .u8)) false none false none]
noncomputable def ZgF (r : (Int × Int × List (Int × Int)) × List (Int × Int × Int)) : Tup Z5V × OutD := ((r.1, r.2, ()), none)
noncomputable def ZgE : Tup Z5V × OutD → Option ((Int × Int × List (Int × Int)) × List (Int × Int × Int))
 | (a, none) => some (a.1, a.2.1)
 | _ => none
theorem ZlJ : ∀ b r, ZgE b = some r → ZgF r = b := by
 rintro ⟨a, o⟩ r h
 cases o with
 | none => injection h with h; subst h; rfl
 | some _ => cases h
noncomputable def Z8m : Nat → List Int → Option ((Int × Int × List (Int × Int)) × List (Int × Int × Int))
 | 0, _ => none
 | k + 1, p0 =>
  Option.bind (Z4A k (p0, (0 : Int), (0 : Int))) fun z0 => some ((Prod.fst z0.1, Prod.fst z0.1.2, Prod.snd z0.1.2), Prod.fst z0.2)
noncomputable def Z1T : FnDef := .of ZgK Z5V ((Int × Int × List (Int × Int)) × List (Int × Int × Int)) (fun k x => Z8m k x.1) ZgF ZgE ZlJ
noncomputable def ZbS : Code := Tryz.f82.body.getD .skip
noncomputable def Z8t : Ctx (Tup Z5V × OutD) := { T := T, G := [(60, Z1e.E)], mvs := [], no := 0, n := 12, res := resOf T ZgK Z5V Tryz.f82.results.toList, loops := [], regs := [], conds := [], cuts := [] }
theorem Zt1 (k : Nat) : EnvOK Tryz.prog k Z8t.G := (EnvOK.cons (Zde k) (EnvOK.nil mixed))
theorem ZrB (k : Nat) (x : Tup Z1T.ps) : Z1T.f (k + 1) x = fnK Z1T Z8t ZbS k x := by kernel_rfl
theorem Zsj (x : Tup Z1T.ps) : Z1T.f 0 x = none := by kernel_rfl
theorem Zt4 (k : Nat) : LOK Tryz.prog Z8t k ZbS := LOK.by [] (by kernel_rfl) AllOK.nil
theorem Zs4 (k : Nat) : SoundAt Tryz.prog k 82 Z1T.E := @Z3 Tryz.prog Z1T Z8t 82 Tryz.f82 ZbS (by kernel_rfl) (by kernel_rfl) (by kernel_rfl) Tryz.func82 (by kernel_rfl) (by kernel_rfl) (by kernel_rfl) T_ok Zt1 Zt4 Zsj ZrB k
end
end Go.Proofs.YtglkedenkcpcbaaGreatDoor.Vs

set_option maxRecDepth 100000
set_option maxHeartbeats 2000000
set_option linter.unusedVariables false
set_option linter.unusedSimpArgs false
namespace Go.Proofs.YtglkedenkcpcbaaGreatDoor.Vs
open Go.RowKit
noncomputable section
noncomputable def Z5P : List PK := [PK.mk (Ty.pair (Ty.int .i64) (Ty.pair (Ty.int .i64) (Ty.slice (122 : Nat) (Ty.pair (Ty.int .i64) (Ty.int .i64))))) true none false none, PK.mk (Ty.slice (42 : Nat) (Ty.pair (Ty.int .i64) (Ty.pair (Ty.int .i64) (Ty.int .i64)))) false none false none, PK.mk (Ty.slice (3 : Nat) (Ty.int .i64)) false none false none]
noncomputable def ZgJ : List PK := [PK.mk (Ty.slice (5 : Nat) (Ty.int .u8)) false none false none]
noncomputable def ZgD (r : (Int × Int × List (Int × Int)) × List (Int × Int × Int) × List Int) : Tup Z5P × OutD := ((r.1, r.2.1, r.2.2, ()), none)
noncomputable def Zgi : Tup Z5P × OutD → Option ((Int × Int × List (Int × Int)) × List (Int × Int × Int) × List Int)
 | (a, none) => some (a.1, a.2.1, a.2.2.1)
 | _ => none
theorem ZmI : ∀ b r, Zgi b = some r → ZgD r = b := by
 rintro ⟨a, o⟩ r h
 cases o with
 | none => injection h with h; subst h; rfl
 | some _ => cases h
noncomputable def Z8v : Nat → List Int → Option ((Int × Int × List (Int × Int)) × List (Int × Int × Int) × List Int)
 | 0, _ => none
 | k + 1, p0 =>
  Option.bind (Z7t k p0) fun z0 => some ((Prod.fst z0.1, Prod.fst z0.1.2, Prod.snd z0.1.2), Prod.fst z0.2, Prod.snd z0.2)
noncomputable def Z1S : FnDef := .of ZgJ Z5P ((Int × Int × List (Int × Int)) × List (Int × Int × Int) × List Int) (fun k x => Z8v k x.1) ZgD Zgi ZmI
noncomputable def Zcu : Code := Tryz.f29.body.getD .skip
noncomputable def Z8g : Ctx (Tup Z5P × OutD) := { T := T, G := [(68, Z1p.E)], mvs := [], no := 0, n := 10, res := resOf T ZgJ Z5P Tryz.f29.results.toList, loops := [], regs := [], conds := [], cuts := [] }
theorem ZsP (k : Nat) : EnvOK Tryz.prog k Z8g.G := (EnvOK.cons (Zpw k) (EnvOK.nil mixed))
theorem Zt0 (k : Nat) (x : Tup Z1S.ps) : Z1S.f (k + 1) x = fnK Z1S Z8g Zcu k x := by kernel_rfl
theorem ZrX (x : Tup Z1S.ps) : Z1S.f 0 x = none := by kernel_rfl
theorem ZsM (k : Nat) : LOK Tryz.prog Z8g k Zcu := LOK.by [] (by kernel_rfl) AllOK.nil
theorem ZrM (k : Nat) : SoundAt Tryz.prog k 29 Z1S.E := @Z3 Tryz.prog Z1S Z8g 29 Tryz.f29 Zcu (by kernel_rfl) (by kernel_rfl) (by kernel_rfl) Tryz.func29 (by kernel_rfl) (by kernel_rfl) (by kernel_rfl) T_ok ZsP ZsM ZrX Zt0 k
noncomputable def Z3m : List PK := [PK.mk (Ty.pair (Ty.int .i64) (Ty.pair (Ty.int .i64) (Ty.slice (122 : Nat) (Ty.pair (Ty.int .i64) (Ty.int .i64))))) true none false none]
noncomputable def Zdi : List PK := [PK.mk (Ty.slice (5 : Nat) (Ty.int .u8)) false none false none]
noncomputable def ZcI (r : Int × Int × List (Int × Int)) : Tup Z3m × OutD := ((r, ()), none)
noncomputable def ZcT : Tup Z3m × OutD → Option (Int × Int × List (Int × Int))
 | (a, none) => some (a.1)
 | _ => none
theorem ZhL : ∀ b r, ZcT b = some r → ZcI r = b := by
 rintro ⟨a, o⟩ r h
 cases o with
 | none => injection h with h; subst h; rfl
 | some _ => cases h
noncomputable def Z5r : Nat → List Int → Option (Int × Int × List (Int × Int))
 | 0, _ => none
 | k + 1, p0 =>
  Option.bind (Z8m k p0) fun z0 => some (Prod.fst z0.1, Prod.fst z0.1.2, Prod.snd z0.1.2)
noncomputable def Z14 : FnDef := .of Zdi Z3m (Int × Int × List (Int × Int)) (fun k x => Z5r k x.1) ZcI ZcT ZhL
noncomputable def Z8k : Code := Tryz.f37.body.getD .skip
noncomputable def Z5p : Ctx (Tup Z3m × OutD) := { T := T, G := [(82, Z1T.E)], mvs := [], no := 0, n := 11, res := resOf T Zdi Z3m Tryz.f37.results.toList, loops := [], regs := [], conds := [], cuts := [] }
theorem ZkI (k : Nat) : EnvOK Tryz.prog k Z5p.G := (EnvOK.cons (Zs4 k) (EnvOK.nil mixed))
theorem Zl7 (k : Nat) (x : Tup Z14.ps) : Z14.f (k + 1) x = fnK Z14 Z5p Z8k k x := by kernel_rfl
theorem ZkN (x : Tup Z14.ps) : Z14.f 0 x = none := by kernel_rfl
theorem Zl2 (k : Nat) : LOK Tryz.prog Z5p k Z8k := LOK.by [] (by kernel_rfl) AllOK.nil
theorem ZkD (k : Nat) : SoundAt Tryz.prog k 37 Z14.E := @Z3 Tryz.prog Z14 Z5p 37 Tryz.f37 Z8k (by kernel_rfl) (by kernel_rfl) (by kernel_rfl) Tryz.func37 (by kernel_rfl) (by kernel_rfl) (by kernel_rfl) T_ok ZkI Zl2 ZkN Zl7 k
end
end Go.Proofs.YtglkedenkcpcbaaGreatDoor.Vs
