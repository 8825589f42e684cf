/- The proof, part 8. -/
import Derived.Test.YtglkedenkcpcbaaGreatDoorqCm6
set_option maxRecDepth 100000
set_option maxHeartbeats 2000000
set_option linter.unusedVariables false
set_option linter.unusedSimpArgs false
namespace Go.Proofs.YtglkedenkcpcbaaGreatDoor.Vs
open Go.RowKit
noncomputable section
noncomputable def Z8E : List PK := [PK.mk Ty.str false none false none, PK.mk Ty.bool false none false none]
noncomputable def ZjB : List PK := [PK.mk (Ty.pair (Ty.int .i64) (Ty.pair (Ty.int .i64) (Ty.int .i64))) true none false none]
noncomputable def Zid (r : ByteArray × Bool) : Tup Z8E × OutD := ((r.1, r.2, ()), none)
noncomputable def Ziy : Tup Z8E × OutD → Option (ByteArray × Bool)
 | (a, none) => some (a.1, a.2.1)
 | _ => none
theorem Zpj : ∀ b r, Ziy b = some r → Zid r = b := by
 rintro ⟨a, o⟩ r h
 cases o with
 | none => injection h with h; subst h; rfl
 | some _ => cases h
noncomputable def Z8y : Nat → Int × Int × Int → Option (ByteArray × Bool)
 | 0, _ => none
 | k + 1, p0 =>
  if decide (Prod.fst p0 < (1 : Int)) = true then some (ByteArray.mk #[], false) else if decide (Prod.fst p0 > (3 : Int)) = true then some (ByteArray.mk #[], false) else if decide (Prod.fst p0.2 < (0 : Int)) = true then some (ByteArray.mk #[], false) else if decide (Prod.fst p0.2 > (9 : Int)) = true then some (ByteArray.mk #[], false) else if decide (Prod.snd p0.2 < (0 : Int)) = true then some (ByteArray.mk #[], false) else if decide (Prod.snd p0.2 > (9 : Int)) = true then some (ByteArray.mk #[], false) else if (0 : Int) ≤ wrap64 (Prod.fst p0 - (1 : Int)) then if wrap64 (Prod.fst p0 - (1 : Int)) < (↑(3 : Nat) : Int) then if Int.toNat (wrap64 (Prod.fst p0 - (1 : Int))) < List.length [ByteArray.mk #[(115 : UInt8), (116 : UInt8), (117 : UInt8), (99 : UInt8), (107 : UInt8)], ByteArray.mk #[(104 : UInt8), (111 : UInt8), (108 : UInt8), (101 : UInt8)], ByteArray.mk #[(116 : UInt8), (117 : UInt8), (114 : UInt8), (110 : UInt8), (101 : UInt8), (100 : UInt8)]] then if ByteArray.size (List.getD [ByteArray.mk #[(115 : UInt8), (116 : UInt8), (117 : UInt8), (99 : UInt8), (107 : UInt8)], ByteArray.mk #[(104 : UInt8), (111 : UInt8), (108 : UInt8), (101 : UInt8)], ByteArray.mk #[(116 : UInt8), (117 : UInt8), (114 : UInt8), (110 : UInt8), (101 : UInt8), (100 : UInt8)]] (Int.toNat (wrap64 (Prod.fst p0 - (1 : Int)))) (ByteArray.mk #[])) + ByteArray.size (ByteArray.mk #[(32 : UInt8), (97 : UInt8), (116 : UInt8), (32 : UInt8)]) ≤ (9223372036854775807 : Nat) then Option.bind (Z8d k p0.2.1) fun z0 => if ByteArray.size (List.getD [ByteArray.mk #[(115 : UInt8), (116 : UInt8), (117 : UInt8), (99 : UInt8), (107 : UInt8)], ByteArray.mk #[(104 : UInt8), (111 : UInt8), (108 : UInt8), (101 : UInt8)], ByteArray.mk #[(116 : UInt8), (117 : UInt8), (114 : UInt8), (110 : UInt8), (101 : UInt8), (100 : UInt8)]] (Int.toNat (wrap64 (Prod.fst p0 - (1 : Int)))) (ByteArray.mk #[]) ++ ByteArray.mk #[(32 : UInt8), (97 : UInt8), (116 : UInt8), (32 : UInt8)]) + ByteArray.size z0 ≤ (9223372036854775807 : Nat) then if ByteArray.size (List.getD [ByteArray.mk #[(115 : UInt8), (116 : UInt8), (117 : UInt8), (99 : UInt8), (107 : UInt8)], ByteArray.mk #[(104 : UInt8), (111 : UInt8), (108 : UInt8), (101 : UInt8)], ByteArray.mk #[(116 : UInt8), (117 : UInt8), (114 : UInt8), (110 : UInt8), (101 : UInt8), (100 : UInt8)]] (Int.toNat (wrap64 (Prod.fst p0 - (1 : Int)))) (ByteArray.mk #[]) ++ ByteArray.mk #[(32 : UInt8), (97 : UInt8), (116 : UInt8), (32 : UInt8)] ++ z0) + ByteArray.size (ByteArray.mk #[(44 : UInt8)]) ≤ (9223372036854775807 : Nat) then Option.bind (Z8d k p0.2.2) fun z1 => if ByteArray.size (List.getD [ByteArray.mk #[(115 : UInt8), (116 : UInt8), (117 : UInt8), (99 : UInt8), (107 : UInt8)], ByteArray.mk #[(104 : UInt8), (111 : UInt8), (108 : UInt8), (101 : UInt8)], ByteArray.mk #[(116 : UInt8), (117 : UInt8), (114 : UInt8), (110 : UInt8), (101 : UInt8), (100 : UInt8)]] (Int.toNat (wrap64 (Prod.fst p0 - (1 : Int)))) (ByteArray.mk #[]) ++ ByteArray.mk #[(32 : UInt8), (97 : UInt8), (116 : UInt8), (32 : UInt8)] ++ z0 ++ ByteArray.mk #[(44 : UInt8)]) + ByteArray.size z1 ≤ (9223372036854775807 : Nat) then some (List.getD [ByteArray.mk #[(115 : UInt8), (116 : UInt8), (117 : UInt8), (99 : UInt8), (107 : UInt8)], ByteArray.mk #[(104 : UInt8), (111 : UInt8), (108 : UInt8), (101 : UInt8)], ByteArray.mk #[(116 : UInt8), (117 : UInt8), (114 : UInt8), (110 : UInt8), (101 : UInt8), (100 : UInt8)]] (Int.toNat (wrap64 (Prod.fst p0 - (1 : Int)))) (ByteArray.mk #[]) ++ ByteArray.mk #[(32 : UInt8), (97 : UInt8), (116 : UInt8), (32 : UInt8)] ++ z0 ++ ByteArray.mk #[(44 : UInt8)] ++ z1, true) else none else none else none else none else none else none else none
noncomputable def Z2T : FnDef := .of ZjB Z8E (ByteArray × Bool) (fun k x => Z8y k x.1) Zid Ziy Zpj
noncomputable def Zey : Code := Tryz.f18.body.getD .skip
noncomputable def Zba : Ctx (Tup Z8E × OutD) := { T := T, G := [(56, Z4R.E)], mvs := [], no := 0, n := 47, res := resOf T ZjB Z8E Tryz.f18.results.toList, loops := [], regs := [], conds := [], cuts := [] }
theorem Zwi (k : Nat) : EnvOK Tryz.prog k Zba.G := (EnvOK.cons (ZzC k) (EnvOK.nil mixed))
theorem Zwa (k : Nat) (x : Tup Z2T.ps) : Z2T.f (k + 1) x = fnK Z2T Zba Zey k x := by kernel_rfl
theorem ZvX (x : Tup Z2T.ps) : Z2T.f 0 x = none := by kernel_rfl
theorem Zx5 (k : Nat) : LOK Tryz.prog Zba k Zey := LOK.by [] (by kernel_rfl) AllOK.nil
theorem Zkm (k : Nat) : SoundAt Tryz.prog k 18 Z2T.E := @Zk Tryz.prog Z2T Zba 18 Tryz.f18 Zey (by kernel_rfl) (by kernel_rfl) (by kernel_rfl) Tryz.func18 (by kernel_rfl) (by kernel_rfl) (by kernel_rfl) T_ok Zwi Zx5 ZvX Zwa k
noncomputable def Z9h : List PK := [PK.mk Ty.bool false none false none]
noncomputable def ZqN : List PK := [PK.mk (Ty.pair (Ty.int .i64) (Ty.pair (Ty.int .i64) (Ty.slice (122 : Nat) (Ty.pair (Ty.int .i64) (Ty.int .i64))))) true none false none, PK.mk (Ty.slice (3 : Nat) (Ty.int .i64)) false none false none, PK.mk (Ty.slice (67 : Nat) (Ty.pair (Ty.int .i64) (Ty.pair (Ty.int .i64) (Ty.int .i64)))) false none false none]
noncomputable def ZgJ (r : Bool) : Tup Z9h × OutD := ((r, ()), none)
noncomputable def ZgK : Tup Z9h × OutD → Option (Bool)
 | (a, none) => some (a.1)
 | _ => none
theorem Ziw : ∀ b r, ZgK b = some r → ZgJ r = b := by
 rintro ⟨a, o⟩ r h
 cases o with
 | none => injection h with h; subst h; rfl
 | some _ => cases h
noncomputable def Z7m : Nat → Int → Int → List (Int × Int) → List (Int × Int × Int) → Int → Int → Option (LR Unit Bool)
 | 0, _, _, _, _, _, _ => none
 | k + 1, b1_0, b1_1, b1_2, v31, v32, v33 =>
  if decide (v33 < v32) = true then if (0 : Int) ≤ v33 then if v33 < (↑(List.length v31) : Int) then if decide (Prod.fst (List.getD v31 (Int.toNat v33) ((0 : Int), (0 : Int), (0 : Int))) < (1 : Int)) = true then some (LR.ret false) else if decide (Prod.fst (List.getD v31 (Int.toNat v33) ((0 : Int), (0 : Int), (0 : Int))) > (3 : Int)) = true then some (LR.ret false) else if decide (Prod.fst (Prod.snd (List.getD v31 (Int.toNat v33) ((0 : Int), (0 : Int), (0 : Int)))) < (0 : Int)) = true then some (LR.ret false) else if decide (Prod.fst (Prod.snd (List.getD v31 (Int.toNat v33) ((0 : Int), (0 : Int), (0 : Int)))) > b1_0) = true then some (LR.ret false) else if decide (Prod.snd (Prod.snd (List.getD v31 (Int.toNat v33) ((0 : Int), (0 : Int), (0 : Int)))) < (-1 : Int)) = true then some (LR.ret false) else if decide (Prod.snd (Prod.snd (List.getD v31 (Int.toNat v33) ((0 : Int), (0 : Int), (0 : Int)))) > b1_1) = true then some (LR.ret false) else Z7m k b1_0 b1_1 b1_2 v31 v32 (wrap64 (v33 + (1 : Int))) else none else none else some (LR.go ())
noncomputable def Zep : Spec := Spec.mk [OSh.ro, OSh.box (26 : Nat) [Sh.int .i64, Sh.int .i64, Sh.snap (0 : Nat) (Ty.pair (Ty.int .i64) (Ty.int .i64))]] [((3 : Nat), TSh.at (Sh.ptr (1 : Nat) (0 : Nat))), ((31 : Nat), TSh.at (Sh.snap (0 : Nat) (Ty.pair (Ty.int .i64) (Ty.pair (Ty.int .i64) (Ty.int .i64))))), ((32 : Nat), TSh.at (Sh.int .i64)), ((33 : Nat), TSh.at (Sh.int .i64))]
noncomputable def Zwf : Spec := Spec.mk [OSh.ro] []
noncomputable def Z6q : LoopDef (Tup Z9h × OutD) := .rets Zep Zwf (Unit) (Bool) (fun k x => Z7m k x.1.2.1.1 x.1.2.1.2.1 x.1.2.1.2.2.1 x.2.2.1 x.2.2.2.1 x.2.2.2.2.1) (fun z => (((), ()), (()))) (fun y => ()) (fun _ => rfl) ZgJ ZgK Ziw
noncomputable def Z4K : Nat → Int × Int × List (Int × Int) → List Int → List (Int × Int × Int) → Option Bool
 | 0, _, _, _ => none
 | k + 1, p0, p1, p2 =>
  Option.bind (Z94 k (Prod.fst p0, Prod.fst p0.2, Prod.snd p0.2) p1) fun z0 => if (!z0) = true then some false else if decide ((↑(List.length p0.2.2) : Int) > (24 : Int)) = true then some false else if decide ((↑(List.length p1) : Int) > (20 : Int)) = true then some false else if decide ((↑(List.length p2) : Int) ≠ (↑(List.length p1) : Int)) = true then some false else Option.bind (Z7m k p0.1 p0.2.1 p0.2.2 p2 (↑(List.length p2) : Int) (0 : Int)) fun z1 => LR.on z1 (fun y1 => some true) fun r1 => some r1
noncomputable def Z1Y : FnDef := .of ZqN Z9h (Bool) (fun k x => Z4K k x.1 x.2.1 x.2.2.1) ZgJ ZgK Ziw
noncomputable def Zei : Code := Tryz.f46.body.getD .skip
noncomputable def Z7y : Ctx (Tup Z9h × OutD) := { T := T, G := [(62, Z2l.E)], mvs := [], no := 0, n := 70, res := resOf T ZqN Z9h Tryz.f46.results.toList, loops := [(0, Z6q.E)], regs := [], conds := [], cuts := [] }
theorem Zqy (k : Nat) : EnvOK Tryz.prog k Z7y.G := (EnvOK.cons (Zrd k) (EnvOK.nil mixed))
noncomputable def Zbf : Code := (findLoop 0 Zei).getD .skip
theorem ZwQ (k : Nat) (x : Zep.D) : Z6q.lp (k + 1) x = loopK Z7y Z6q 0 Zbf k x := by kernel_rfl
theorem Zw0 (k : Nat) : LOK Tryz.prog Z7y k Zbf := LOK.by [] (by kernel_rfl) AllOK.nil
theorem Zwg (x : Zep.D) : Z6q.lp 0 x = none := by kernel_rfl
theorem ZuH (k : Nat) : EOK Tryz.prog Z7y k Z6q.E (.block 0 (.loop Zbf)) := Zr T_ok Zqy Zwg ZwQ Zw0 k
theorem ZAz (k : Nat) (x : Tup Z1Y.ps) : Z1Y.f (k + 1) x = fnK Z1Y Z7y Zei k x := by kernel_rfl
theorem ZAH (x : Tup Z1Y.ps) : Z1Y.f 0 x = none := by kernel_rfl
theorem ZBs (k : Nat) : LOK Tryz.prog Z7y k Zei := LOK.by [(Z6q.E, .block 0 (.loop Zbf))] (by kernel_rfl) (AllOK.cons (ZuH k) AllOK.nil)
theorem Z9i (k : Nat) : SoundAt Tryz.prog k 46 Z1Y.E := @Zk Tryz.prog Z1Y Z7y 46 Tryz.f46 Zei (by kernel_rfl) (by kernel_rfl) (by kernel_rfl) Tryz.func46 (by kernel_rfl) (by kernel_rfl) (by kernel_rfl) T_ok Zqy ZBs ZAH ZAz k
noncomputable def Z4r : List PK := [PK.mk (Ty.int .i64) false none false none]
noncomputable def Zgy : List PK := [PK.mk (Ty.pair (Ty.int .i64) (Ty.pair (Ty.int .i64) (Ty.slice (122 : Nat) (Ty.pair (Ty.int .i64) (Ty.int .i64))))) true none false none, PK.mk (Ty.slice (42 : Nat) (Ty.pair (Ty.int .i64) (Ty.pair (Ty.int .i64) (Ty.int .i64)))) false none false none, PK.mk (Ty.slice (3 : Nat) (Ty.int .i64)) false none false none, PK.mk (Ty.int .i64) false none false none]
noncomputable def Zfl (r : Int) : Tup Z4r × OutD := ((r, ()), none)
noncomputable def ZfZ : Tup Z4r × OutD → Option (Int)
 | (a, none) => some (a.1)
 | _ => none
theorem Zlj : ∀ b r, ZfZ b = some r → Zfl r = b := by
 rintro ⟨a, o⟩ r h
 cases o with
 | none => injection h with h; subst h; rfl
 | some _ => cases h
noncomputable def Z2x : Nat → Int → Int → List (Int × Int) → List (List Int × Bool) → List Int → List (Int × Int × Int) → Int → Int → Option (List (List Int × Bool))
 | 0, _, _, _, _, _, _, _, _ => none
 | k + 1, b1_0, b1_1, b1_2, o2, o3, v22, v23, v24 =>
  if decide (v24 < v23) = true then if (0 : Int) ≤ v24 then if v24 < (↑(List.length v22) : Int) then Option.bind (Z6V k (b1_0, b1_1, b1_2) [(Prod.fst (List.getD v22 (Int.toNat v24) ((0 : Int), (0 : Int), (0 : Int))), Prod.fst (Prod.snd (List.getD v22 (Int.toNat v24) ((0 : Int), (0 : Int), (0 : Int)))), Prod.snd (Prod.snd (List.getD v22 (Int.toNat v24) ((0 : Int), (0 : Int), (0 : Int)))))] o3) fun z0 => if (0 : Int) ≤ wrap64 ((↑(List.length z0.1) : Int) - (1 : Int)) then if wrap64 ((↑(List.length z0.1) : Int) - (1 : Int)) < (↑(List.length z0.1) : Int) then Z2x k b1_0 b1_1 b1_2 (putK [Prod.fst (List.getD z0.1 (Int.toNat (wrap64 ((↑(List.length z0.1) : Int) - (1 : Int)))) ((0 : Int), (0 : Int), (0 : Int))), Prod.fst (Prod.snd (List.getD z0.1 (Int.toNat (wrap64 ((↑(List.length z0.1) : Int) - (1 : Int)))) ((0 : Int), (0 : Int), (0 : Int)))), Prod.snd (Prod.snd (List.getD z0.1 (Int.toNat (wrap64 ((↑(List.length z0.1) : Int) - (1 : Int)))) ((0 : Int), (0 : Int), (0 : Int))))] true o2) o3 v22 v23 (wrap64 (v24 + (1 : Int))) else none else none else none else none else some o2
noncomputable def Z9U : Spec := Spec.mk [OSh.ro, OSh.box (26 : Nat) [Sh.int .i64, Sh.int .i64, Sh.snap (0 : Nat) (Ty.pair (Ty.int .i64) (Ty.int .i64))], OSh.mp (110 : Nat) true (3 : Nat) Ty.bool, OSh.row true (3 : Nat) (Ty.int .i64)] [((4 : Nat), TSh.at (Sh.ptr (1 : Nat) (0 : Nat))), ((9 : Nat), TSh.at (Sh.mp (2 : Nat))), ((10 : Nat), TSh.at (Sh.sl (3 : Nat))), ((22 : Nat), TSh.at (Sh.snap (0 : Nat) (Ty.pair (Ty.int .i64) (Ty.pair (Ty.int .i64) (Ty.int .i64))))), ((23 : Nat), TSh.at (Sh.int .i64)), ((24 : Nat), TSh.at (Sh.int .i64))]
noncomputable def Zmz : Spec := Spec.mk [OSh.ro, OSh.mp (110 : Nat) true (3 : Nat) Ty.bool] [((9 : Nat), TSh.at (Sh.mp (1 : Nat)))]
noncomputable def Z36 : LoopDef (Tup Z4r × OutD) := .plain Z9U Zmz (List (List Int × Bool)) (fun k x => Z2x k x.1.2.1.1 x.1.2.1.2.1 x.1.2.1.2.2.1 x.1.2.2.1 x.1.2.2.2.1 x.2.2.2.2.1 x.2.2.2.2.2.1 x.2.2.2.2.2.2.1) (fun z => (((), z, ()), ((), ()))) (fun y => (y.1.2.1)) (fun _ => rfl)
noncomputable def Z61 : Nat → Int × Int × List (Int × Int) → List (Int × Int × Int) → List Int → Int → Option Int
 | 0, _, _, _, _ => none
 | k + 1, p0, p1, p2, p3 =>
  if (0 : Nat) + List.length p2 ≤ (140737488355328 / 8 : Nat) then if List.length p2 + List.length [p3] ≤ (140737488355328 / 8 : Nat) then Option.bind (Z2x k p0.1 p0.2.1 p0.2.2 [] (p2 ++ [p3]) p1 (↑(List.length p1) : Int) (0 : Int)) fun z1 => some (↑(List.length z1) : Int) else none else none
noncomputable def Z1I : FnDef := .of Zgy Z4r (Int) (fun k x => Z61 k x.1 x.2.1 x.2.2.1 x.2.2.2.1) Zfl ZfZ Zlj
noncomputable def Z8X : Code := Tryz.f48.body.getD .skip
noncomputable def Z3n : Ctx (Tup Z4r × OutD) := { T := T, G := [(88, Z25.E)], mvs := [], no := 0, n := 46, res := resOf T Zgy Z4r Tryz.f48.results.toList, loops := [(0, Z36.E)], regs := [], conds := [], cuts := [] }
theorem Zg7 (k : Nat) : EnvOK Tryz.prog k Z3n.G := (EnvOK.cons (ZhJ k) (EnvOK.nil mixed))
noncomputable def Z6N : Code := (findLoop 0 Z8X).getD .skip
theorem Zn1 (k : Nat) (x : Z9U.D) : Z36.lp (k + 1) x = loopK Z3n Z36 0 Z6N k x := by kernel_rfl
theorem Zma (k : Nat) : LOK Tryz.prog Z3n k Z6N := LOK.by [] (by kernel_rfl) AllOK.nil
theorem Zmc (x : Z9U.D) : Z36.lp 0 x = none := by kernel_rfl
theorem Zlu (k : Nat) : EOK Tryz.prog Z3n k Z36.E (.block 0 (.loop Z6N)) := Zr T_ok Zg7 Zmc Zn1 Zma k
theorem ZrV (k : Nat) (x : Tup Z1I.ps) : Z1I.f (k + 1) x = fnK Z1I Z3n Z8X k x := by kernel_rfl
theorem Zsd (x : Tup Z1I.ps) : Z1I.f 0 x = none := by kernel_rfl
theorem ZrN (k : Nat) : LOK Tryz.prog Z3n k Z8X := LOK.by [(Z36.E, .block 0 (.loop Z6N))] (by kernel_rfl) (AllOK.cons (Zlu k) AllOK.nil)
theorem Zgv (k : Nat) : SoundAt Tryz.prog k 48 Z1I.E := @Zk Tryz.prog Z1I Z3n 48 Tryz.f48 Z8X (by kernel_rfl) (by kernel_rfl) (by kernel_rfl) Tryz.func48 (by kernel_rfl) (by kernel_rfl) (by kernel_rfl) T_ok Zg7 ZrN Zsd ZrV k
noncomputable def Z9p : List PK := [PK.mk Ty.bool false none false none]
noncomputable def Zqk : List PK := [PK.mk (Ty.pair (Ty.int .i64) (Ty.pair (Ty.int .i64) (Ty.slice (122 : Nat) (Ty.pair (Ty.int .i64) (Ty.int .i64))))) true none false none, PK.mk (Ty.slice (3 : Nat) (Ty.int .i64)) false none false none, PK.mk (Ty.slice (67 : Nat) (Ty.pair (Ty.int .i64) (Ty.pair (Ty.int .i64) (Ty.int .i64)))) false none false none]
noncomputable def ZgZ (r : Bool) : Tup Z9p × OutD := ((r, ()), none)
noncomputable def ZgL : Tup Z9p × OutD → Option (Bool)
 | (a, none) => some (a.1)
 | _ => none
theorem Zih : ∀ b r, ZgL b = some r → ZgZ r = b := by
 rintro ⟨a, o⟩ r h
 cases o with
 | none => injection h with h; subst h; rfl
 | some _ => cases h
noncomputable def Z7v : Nat → Int → Int → List (Int × Int) → List (Int × Int × Int) → Int → Int → Option (LR Unit Bool)
 | 0, _, _, _, _, _, _ => none
 | k + 1, b1_0, b1_1, b1_2, v32, v33, v34 =>
  if decide (v34 < v33) = true then if (0 : Int) ≤ v34 then if v34 < (↑(List.length v32) : Int) then Option.bind (Z2L k (Prod.fst (List.getD v32 (Int.toNat v34) ((0 : Int), (0 : Int), (0 : Int)))) (1 : Int) (3 : Int)) fun z2 => if (!z2) = true then some (LR.ret false) else Option.bind (Z2L k (Prod.fst (Prod.snd (List.getD v32 (Int.toNat v34) ((0 : Int), (0 : Int), (0 : Int))))) (0 : Int) b1_0) fun z3 => if (!z3) = true then some (LR.ret false) else Option.bind (Z2L k (Prod.snd (Prod.snd (List.getD v32 (Int.toNat v34) ((0 : Int), (0 : Int), (0 : Int))))) (-1 : Int) b1_1) fun z4 => if (!z4) = true then some (LR.ret false) else Z7v k b1_0 b1_1 b1_2 v32 v33 (wrap64 (v34 + (1 : Int))) else none else none else some (LR.go ())
noncomputable def ZeE : Spec := Spec.mk [OSh.ro, OSh.box (26 : Nat) [Sh.int .i64, Sh.int .i64, Sh.snap (0 : Nat) (Ty.pair (Ty.int .i64) (Ty.int .i64))]] [((3 : Nat), TSh.at (Sh.ptr (1 : Nat) (0 : Nat))), ((32 : Nat), TSh.at (Sh.snap (0 : Nat) (Ty.pair (Ty.int .i64) (Ty.pair (Ty.int .i64) (Ty.int .i64))))), ((33 : Nat), TSh.at (Sh.int .i64)), ((34 : Nat), TSh.at (Sh.int .i64))]
noncomputable def Zwm : Spec := Spec.mk [OSh.ro] []
noncomputable def Z6v : LoopDef (Tup Z9p × OutD) := .rets ZeE Zwm (Unit) (Bool) (fun k x => Z7v k x.1.2.1.1 x.1.2.1.2.1 x.1.2.1.2.2.1 x.2.2.1 x.2.2.2.1 x.2.2.2.2.1) (fun z => (((), ()), (()))) (fun y => ()) (fun _ => rfl) ZgZ ZgL Zih
noncomputable def Z4J : Nat → Int × Int × List (Int × Int) → List Int → List (Int × Int × Int) → Option Bool
 | 0, _, _, _ => none
 | k + 1, p0, p1, p2 =>
  Option.bind (Zd4 k (Prod.fst p0, Prod.fst p0.2, Prod.snd p0.2)) fun z0 => if (!z0) = true then some false else if decide ((↑(List.length p1) : Int) > (20 : Int)) = true then some false else Option.bind (Zf6 k p1 (0 : Int) (wrap64 (Prod.fst p0.2 - (1 : Int)))) fun z1 => if (!z1) = true then some false else if decide ((↑(List.length p2) : Int) ≠ (↑(List.length p1) : Int)) = true then some false else Option.bind (Z7v k p0.1 p0.2.1 p0.2.2 p2 (↑(List.length p2) : Int) (0 : Int)) fun z5 => LR.on z5 (fun y5 => some true) fun r5 => some r5
noncomputable def Z20 : FnDef := .of Zqk Z9p (Bool) (fun k x => Z4J k x.1 x.2.1 x.2.2.1) ZgZ ZgL Zih
noncomputable def Zee : Code := Tryz.f49.body.getD .skip
noncomputable def Z7z : Ctx (Tup Z9p × OutD) := { T := T, G := [(89, Z4T.E), (90, Z71.E), (59, Z2K.E)], mvs := [], no := 0, n := 59, res := resOf T Zqk Z9p Tryz.f49.results.toList, loops := [(0, Z6v.E)], regs := [], conds := [], cuts := [] }
theorem ZqM (k : Nat) : EnvOK Tryz.prog k Z7z.G := (EnvOK.cons (Zzy k) (EnvOK.cons (ZE8 k) (EnvOK.cons (Za5 k) (EnvOK.nil mixed))))
noncomputable def Zbr : Code := (findLoop 0 Zee).getD .skip
theorem ZvZ (k : Nat) (x : ZeE.D) : Z6v.lp (k + 1) x = loopK Z7z Z6v 0 Zbr k x := by kernel_rfl
theorem Zw8 (k : Nat) : LOK Tryz.prog Z7z k Zbr := LOK.by [] (by kernel_rfl) AllOK.nil
theorem Zw6 (x : ZeE.D) : Z6v.lp 0 x = none := by kernel_rfl
theorem Zvc (k : Nat) : EOK Tryz.prog Z7z k Z6v.E (.block 0 (.loop Zbr)) := Zr T_ok ZqM Zw6 ZvZ Zw8 k
theorem ZBM (k : Nat) (x : Tup Z20.ps) : Z20.f (k + 1) x = fnK Z20 Z7z Zee k x := by kernel_rfl
theorem ZAU (x : Tup Z20.ps) : Z20.f 0 x = none := by kernel_rfl
theorem ZAt (k : Nat) : LOK Tryz.prog Z7z k Zee := LOK.by [(Z6v.E, .block 0 (.loop Zbr))] (by kernel_rfl) (AllOK.cons (Zvc k) AllOK.nil)
theorem Z9g (k : Nat) : SoundAt Tryz.prog k 49 Z20.E := @Zk Tryz.prog Z20 Z7z 49 Tryz.f49 Zee (by kernel_rfl) (by kernel_rfl) (by kernel_rfl) Tryz.func49 (by kernel_rfl) (by kernel_rfl) (by kernel_rfl) T_ok ZqM ZAt ZAU ZBM k
noncomputable def Z4m : List PK := [PK.mk (Ty.int .i64) false none false none]
noncomputable def ZlU : List PK := [PK.mk (Ty.pair (Ty.int .i64) (Ty.pair (Ty.int .i64) (Ty.slice (122 : Nat) (Ty.pair (Ty.int .i64) (Ty.int .i64))))) true none false none, PK.mk (Ty.slice (42 : Nat) (Ty.pair (Ty.int .i64) (Ty.pair (Ty.int .i64) (Ty.int .i64)))) false none false none, PK.mk (Ty.slice (3 : Nat) (Ty.int .i64)) false none false none, PK.mk (Ty.int .i64) false none false none]
noncomputable def Zk9 (r : Int) : Tup Z4m × OutD := ((r, ()), none)
noncomputable def ZjI : Tup Z4m × OutD → Option (Int)
 | (a, none) => some (a.1)
 | _ => none
theorem Zrv : ∀ b r, ZjI b = some r → Zk9 r = b := by
 rintro ⟨a, o⟩ r h
 cases o with
 | none => injection h with h; subst h; rfl
 | some _ => cases h
noncomputable def Z9M : Nat → Int → Int → List (Int × Int) → List (Int × Int × Int) → Int → Int → Int → List Int → Int → List (Int × Int × Int) → Int → Int → Option (Int × Int × List (Int × Int) × List (Int × Int × Int) × List (Int × Int × Int) × List Int × Int × List (Int × Int × Int) × Int × Int) := fun k b1_0 b1_1 b1_2 o2 b3_0 b3_1 b3_2 v2 v3 v18 v19 v20 =>
    Option.bind (Zi k v2) fun z0 => if List.length z0 + List.length [v3] ≤ (140737488355328 / 8 : Nat) then Option.bind (Z2z k (b1_0, b1_1, b1_2) [(b3_0, b3_1, b3_2)] (z0 ++ [v3])) fun z1 => some (b1_0, b1_1, b1_2, o2, Prod.fst z1, v2, v3, v18, v19, v20) else none
noncomputable def Zgh : Spec := Spec.mk [OSh.ro, OSh.box (26 : Nat) [Sh.int .i64, Sh.int .i64, Sh.snap (0 : Nat) (Ty.pair (Ty.int .i64) (Ty.int .i64))], OSh.row true (67 : Nat) (Ty.pair (Ty.int .i64) (Ty.pair (Ty.int .i64) (Ty.int .i64))), OSh.box (42 : Nat) [Sh.int .i64, Sh.int .i64, Sh.int .i64]] [((2 : Nat), TSh.at (Sh.snap (0 : Nat) (Ty.int .i64))), ((3 : Nat), TSh.at (Sh.int .i64)), ((4 : Nat), TSh.at (Sh.ptr (1 : Nat) (0 : Nat))), ((9 : Nat), TSh.at (Sh.sl (2 : Nat))), ((11 : Nat), TSh.at (Sh.ptr (3 : Nat) (0 : Nat))), ((18 : Nat), TSh.at (Sh.snap (0 : Nat) (Ty.pair (Ty.int .i64) (Ty.pair (Ty.int .i64) (Ty.int .i64))))), ((19 : Nat), TSh.at (Sh.int .i64)), ((20 : Nat), TSh.at (Sh.int .i64))]
noncomputable def Zrn : Spec := Spec.mk [OSh.ro, OSh.box (26 : Nat) [Sh.int .i64, Sh.int .i64, Sh.snap (0 : Nat) (Ty.pair (Ty.int .i64) (Ty.int .i64))], OSh.row true (67 : Nat) (Ty.pair (Ty.int .i64) (Ty.pair (Ty.int .i64) (Ty.int .i64))), OSh.row true (67 : Nat) (Ty.pair (Ty.int .i64) (Ty.pair (Ty.int .i64) (Ty.int .i64)))] [((2 : Nat), TSh.at (Sh.snap (0 : Nat) (Ty.int .i64))), ((3 : Nat), TSh.at (Sh.int .i64)), ((4 : Nat), TSh.at (Sh.ptr (1 : Nat) (0 : Nat))), ((9 : Nat), TSh.at (Sh.sl (2 : Nat))), ((12 : Nat), TSh.at (Sh.sl (3 : Nat))), ((18 : Nat), TSh.at (Sh.snap (0 : Nat) (Ty.pair (Ty.int .i64) (Ty.pair (Ty.int .i64) (Ty.int .i64))))), ((19 : Nat), TSh.at (Sh.int .i64)), ((20 : Nat), TSh.at (Sh.int .i64))]
noncomputable def Z3k : LoopDef (Tup Z4m × OutD) := .plain Zgh Zrn (Int × Int × List (Int × Int) × List (Int × Int × Int) × List (Int × Int × Int) × List Int × Int × List (Int × Int × Int) × Int × Int) (fun k x => Z9M k x.1.2.1.1 x.1.2.1.2.1 x.1.2.1.2.2.1 x.1.2.2.1 x.1.2.2.2.1.1 x.1.2.2.2.1.2.1 x.1.2.2.2.1.2.2.1 x.2.1 x.2.2.1 x.2.2.2.2.2.2.1 x.2.2.2.2.2.2.2.1 x.2.2.2.2.2.2.2.2.1) (fun z => (((), (z.1, z.2.1, z.2.2.1, ()), z.2.2.2.1, z.2.2.2.2.1, ()), (z.2.2.2.2.2.1, z.2.2.2.2.2.2.1, (), (), (), z.2.2.2.2.2.2.2.1, z.2.2.2.2.2.2.2.2.1, z.2.2.2.2.2.2.2.2.2, ()))) (fun y => (y.1.2.1.1, y.1.2.1.2.1, y.1.2.1.2.2.1, y.1.2.2.1, y.1.2.2.2.1, y.2.1, y.2.2.1, y.2.2.2.2.2.2.1, y.2.2.2.2.2.2.2.1, y.2.2.2.2.2.2.2.2.1)) (fun _ => rfl)
noncomputable def Z4e : Nat → Int → Int → List (Int × Int) → List (Int × Int × Int) → Int → Int → Int → List Int → Int → Bool → List (Int × Int × Int) → Int → Int → Int → Int → Option (Int × Int × List (Int × Int) × List (Int × Int × Int) × Int × Int × Int × List Int × Int × Bool × List (Int × Int × Int) × Int × Int)
 | 0, _, _, _, _, _, _, _, _, _, _, _, _, _, _, _ => none
 | k + 1, b1_0, b1_1, b1_2, o2, b3_0, b3_1, b3_2, v2, v3, v15, v18, v19, v20, v43, v44 =>
  if decide (v44 < v43) = true then if (0 : Int) ≤ v44 then if v44 < (↑(List.length o2) : Int) then if v15 = true then Z4e k b1_0 b1_1 b1_2 o2 b3_0 b3_1 b3_2 v2 v3 true v18 v19 v20 v43 (wrap64 (v44 + (1 : Int))) else Z4e k b1_0 b1_1 b1_2 o2 b3_0 b3_1 b3_2 v2 v3 (decide (Prod.fst (List.getD o2 (Int.toNat v44) ((0 : Int), (0 : Int), (0 : Int))) = b3_0) && (decide (Prod.fst (Prod.snd (List.getD o2 (Int.toNat v44) ((0 : Int), (0 : Int), (0 : Int)))) = b3_1) && (decide (Prod.snd (Prod.snd (List.getD o2 (Int.toNat v44) ((0 : Int), (0 : Int), (0 : Int)))) = b3_2) && true))) v18 v19 v20 v43 (wrap64 (v44 + (1 : Int))) else none else none else some (b1_0, b1_1, b1_2, o2, b3_0, b3_1, b3_2, v2, v3, v15, v18, v19, v20)
noncomputable def ZcZ : Spec := Spec.mk [OSh.ro, OSh.box (26 : Nat) [Sh.int .i64, Sh.int .i64, Sh.snap (0 : Nat) (Ty.pair (Ty.int .i64) (Ty.int .i64))], OSh.row true (67 : Nat) (Ty.pair (Ty.int .i64) (Ty.pair (Ty.int .i64) (Ty.int .i64))), OSh.box (67 : Nat) [Sh.int .i64, Sh.int .i64, Sh.int .i64]] [((2 : Nat), TSh.at (Sh.snap (0 : Nat) (Ty.int .i64))), ((3 : Nat), TSh.at (Sh.int .i64)), ((4 : Nat), TSh.at (Sh.ptr (1 : Nat) (0 : Nat))), ((9 : Nat), TSh.at (Sh.sl (2 : Nat))), ((14 : Nat), TSh.at (Sh.ptr (3 : Nat) (0 : Nat))), ((15 : Nat), TSh.at Sh.bool), ((18 : Nat), TSh.at (Sh.snap (0 : Nat) (Ty.pair (Ty.int .i64) (Ty.pair (Ty.int .i64) (Ty.int .i64))))), ((19 : Nat), TSh.at (Sh.int .i64)), ((20 : Nat), TSh.at (Sh.int .i64)), ((42 : Nat), TSh.at (Sh.sl (2 : Nat))), ((43 : Nat), TSh.at (Sh.int .i64)), ((44 : Nat), TSh.at (Sh.int .i64))]
noncomputable def Zt8 : Spec := Spec.mk [OSh.ro, OSh.box (26 : Nat) [Sh.int .i64, Sh.int .i64, Sh.snap (0 : Nat) (Ty.pair (Ty.int .i64) (Ty.int .i64))], OSh.row true (67 : Nat) (Ty.pair (Ty.int .i64) (Ty.pair (Ty.int .i64) (Ty.int .i64))), OSh.box (67 : Nat) [Sh.int .i64, Sh.int .i64, Sh.int .i64]] [((2 : Nat), TSh.at (Sh.snap (0 : Nat) (Ty.int .i64))), ((3 : Nat), TSh.at (Sh.int .i64)), ((4 : Nat), TSh.at (Sh.ptr (1 : Nat) (0 : Nat))), ((9 : Nat), TSh.at (Sh.sl (2 : Nat))), ((14 : Nat), TSh.at (Sh.ptr (3 : Nat) (0 : Nat))), ((15 : Nat), TSh.at Sh.bool), ((18 : Nat), TSh.at (Sh.snap (0 : Nat) (Ty.pair (Ty.int .i64) (Ty.pair (Ty.int .i64) (Ty.int .i64))))), ((19 : Nat), TSh.at (Sh.int .i64)), ((20 : Nat), TSh.at (Sh.int .i64))]
noncomputable def Z58 : LoopDef (Tup Z4m × OutD) := .plain ZcZ Zt8 (Int × Int × List (Int × Int) × List (Int × Int × Int) × Int × Int × Int × List Int × Int × Bool × List (Int × Int × Int) × Int × Int) (fun k x => Z4e k x.1.2.1.1 x.1.2.1.2.1 x.1.2.1.2.2.1 x.1.2.2.1 x.1.2.2.2.1.1 x.1.2.2.2.1.2.1 x.1.2.2.2.1.2.2.1 x.2.1 x.2.2.1 x.2.2.2.2.2.2.1 x.2.2.2.2.2.2.2.1 x.2.2.2.2.2.2.2.2.1 x.2.2.2.2.2.2.2.2.2.1 x.2.2.2.2.2.2.2.2.2.2.2.1 x.2.2.2.2.2.2.2.2.2.2.2.2.1) (fun z => (((), (z.1, z.2.1, z.2.2.1, ()), z.2.2.2.1, (z.2.2.2.2.1, z.2.2.2.2.2.1, z.2.2.2.2.2.2.1, ()), ()), (z.2.2.2.2.2.2.2.1, z.2.2.2.2.2.2.2.2.1, (), (), (), z.2.2.2.2.2.2.2.2.2.1, z.2.2.2.2.2.2.2.2.2.2.1, z.2.2.2.2.2.2.2.2.2.2.2.1, z.2.2.2.2.2.2.2.2.2.2.2.2, ()))) (fun y => (y.1.2.1.1, y.1.2.1.2.1, y.1.2.1.2.2.1, y.1.2.2.1, y.1.2.2.2.1.1, y.1.2.2.2.1.2.1, y.1.2.2.2.1.2.2.1, y.2.1, y.2.2.1, y.2.2.2.2.2.2.1, y.2.2.2.2.2.2.2.1, y.2.2.2.2.2.2.2.2.1, y.2.2.2.2.2.2.2.2.2.1)) (fun _ => rfl)
noncomputable def Z44 : Nat → Int → Int → List (Int × Int) → List (Int × Int × Int) → List Int → Int → List (Int × Int × Int) → Int → Int → Option (List (Int × Int × Int))
 | 0, _, _, _, _, _, _, _, _, _ => none
 | k + 1, b1_0, b1_1, b1_2, o2, v2, v3, v18, v19, v20 =>
  if decide (v20 < v19) = true then if (0 : Int) ≤ v20 then if v20 < (↑(List.length v18) : Int) then Option.bind (Z9M k b1_0 b1_1 b1_2 o2 (Prod.fst (List.getD v18 (Int.toNat v20) ((0 : Int), (0 : Int), (0 : Int)))) (Prod.fst (Prod.snd (List.getD v18 (Int.toNat v20) ((0 : Int), (0 : Int), (0 : Int))))) (Prod.snd (Prod.snd (List.getD v18 (Int.toNat v20) ((0 : Int), (0 : Int), (0 : Int))))) v2 v3 v18 v19 v20) fun z400 => if (0 : Int) ≤ wrap64 ((↑(List.length z400.2.2.2.2.1) : Int) - (1 : Int)) then if wrap64 ((↑(List.length z400.2.2.2.2.1) : Int) - (1 : Int)) < (↑(List.length z400.2.2.2.2.1) : Int) then Option.bind (Z4e k z400.1 z400.2.1 z400.2.2.1 z400.2.2.2.1 (Prod.fst (List.getD z400.2.2.2.2.1 (Int.toNat (wrap64 ((↑(List.length z400.2.2.2.2.1) : Int) - (1 : Int)))) ((0 : Int), (0 : Int), (0 : Int)))) (Prod.fst (Prod.snd (List.getD z400.2.2.2.2.1 (Int.toNat (wrap64 ((↑(List.length z400.2.2.2.2.1) : Int) - (1 : Int)))) ((0 : Int), (0 : Int), (0 : Int))))) (Prod.snd (Prod.snd (List.getD z400.2.2.2.2.1 (Int.toNat (wrap64 ((↑(List.length z400.2.2.2.2.1) : Int) - (1 : Int)))) ((0 : Int), (0 : Int), (0 : Int))))) z400.2.2.2.2.2.1 z400.2.2.2.2.2.2.1 false z400.2.2.2.2.2.2.2.1 z400.2.2.2.2.2.2.2.2.1 z400.2.2.2.2.2.2.2.2.2 (↑(List.length z400.2.2.2.1) : Int) (0 : Int)) fun z401 => if (!Prod.fst z401.2.2.2.2.2.2.2.2.2) = true then if List.length z401.2.2.2.1 + List.length [(Prod.fst z401.2.2.2.2, Prod.fst z401.2.2.2.2.2, Prod.fst z401.2.2.2.2.2.2)] ≤ (140737488355328 / 24 : Nat) then Z44 k z401.1 z401.2.1 z401.2.2.1 (Prod.fst z401.2.2.2 ++ [(Prod.fst z401.2.2.2.2, Prod.fst z401.2.2.2.2.2, Prod.fst z401.2.2.2.2.2.2)]) z401.2.2.2.2.2.2.2.1 z401.2.2.2.2.2.2.2.2.1 z401.2.2.2.2.2.2.2.2.2.2.1 z401.2.2.2.2.2.2.2.2.2.2.2.1 (wrap64 (Prod.snd z401.2.2.2.2.2.2.2.2.2.2.2 + (1 : Int))) else none else Z44 k z401.1 z401.2.1 z401.2.2.1 z401.2.2.2.1 z401.2.2.2.2.2.2.2.1 z401.2.2.2.2.2.2.2.2.1 z401.2.2.2.2.2.2.2.2.2.2.1 z401.2.2.2.2.2.2.2.2.2.2.2.1 (wrap64 (Prod.snd z401.2.2.2.2.2.2.2.2.2.2.2 + (1 : Int))) else none else none else none else none else some o2
noncomputable def ZcP : Spec := Spec.mk [OSh.ro, OSh.box (26 : Nat) [Sh.int .i64, Sh.int .i64, Sh.snap (0 : Nat) (Ty.pair (Ty.int .i64) (Ty.int .i64))], OSh.row true (67 : Nat) (Ty.pair (Ty.int .i64) (Ty.pair (Ty.int .i64) (Ty.int .i64)))] [((2 : Nat), TSh.at (Sh.snap (0 : Nat) (Ty.int .i64))), ((3 : Nat), TSh.at (Sh.int .i64)), ((4 : Nat), TSh.at (Sh.ptr (1 : Nat) (0 : Nat))), ((9 : Nat), TSh.at (Sh.sl (2 : Nat))), ((18 : Nat), TSh.at (Sh.snap (0 : Nat) (Ty.pair (Ty.int .i64) (Ty.pair (Ty.int .i64) (Ty.int .i64))))), ((19 : Nat), TSh.at (Sh.int .i64)), ((20 : Nat), TSh.at (Sh.int .i64))]
noncomputable def Zt4 : Spec := Spec.mk [OSh.ro, OSh.row true (67 : Nat) (Ty.pair (Ty.int .i64) (Ty.pair (Ty.int .i64) (Ty.int .i64)))] [((9 : Nat), TSh.at (Sh.sl (1 : Nat)))]
noncomputable def Z50 : LoopDef (Tup Z4m × OutD) := .plain ZcP Zt4 (List (Int × Int × Int)) (fun k x => Z44 k x.1.2.1.1 x.1.2.1.2.1 x.1.2.1.2.2.1 x.1.2.2.1 x.2.1 x.2.2.1 x.2.2.2.2.2.1 x.2.2.2.2.2.2.1 x.2.2.2.2.2.2.2.1) (fun z => (((), z, ()), ((), ()))) (fun y => (y.1.2.1)) (fun _ => rfl)
noncomputable def Z9y : Nat → Int × Int × List (Int × Int) → List (Int × Int × Int) → List Int → Int → Option Int
 | 0, _, _, _, _ => none
 | k + 1, p0, p1, p2, p3 =>
  Option.bind (Z44 k p0.1 p0.2.1 p0.2.2 [] p2 p3 p1 (↑(List.length p1) : Int) (0 : Int)) fun z402 => some (↑(List.length z402) : Int)
noncomputable def Z3r : FnDef := .of ZlU Z4m (Int) (fun k x => Z9y k x.1 x.2.1 x.2.2.1 x.2.2.2.1) Zk9 ZjI Zrv
noncomputable def Z77 : Code := Tryz.f51.body.getD .skip
noncomputable def Zw : Ctx (Tup Z4m × OutD) := { T := T, G := [(92, Z72.E), (86, Z4D.E)], mvs := [], no := 0, n := 64, res := resOf T ZlU Z4m Tryz.f51.results.toList, loops := [(2, Z58.E), (0, Z50.E)], regs := [(5, Z3k.E)], conds := [], cuts := [] }
theorem Zca (k : Nat) : EnvOK Tryz.prog k Zw.G := (EnvOK.cons (ZEi k) (EnvOK.cons (Zkd k) (EnvOK.nil mixed)))
noncomputable def Z90 : Array Oper := (findReg 5 Z77).getD #[]
noncomputable abbrev U0 : TV := TV.sv (SV.at At.un)
noncomputable abbrev I0 (x : Int) : TV := TV.sv (SV.at (At.int .i64 x))
noncomputable abbrev J0 (x : Int) : At := At.int .i64 x
noncomputable abbrev L0 (n : Nat) : TV := TV.sv (SV.at (At.sl n))
noncomputable abbrev P0 (n : Nat) : TV := TV.sv (SV.at (At.ptr n 0))
noncomputable abbrev T1 : Ty := Ty.int .i64
noncomputable abbrev T2 : Ty := Ty.pair T1 T1
noncomputable abbrev T3 : Ty := Ty.pair T1 T2
noncomputable def sets (l : List TV) (s : List (Nat × TV)) : List TV := s.foldl (fun a p => a.set p.1 p.2) l
noncomputable abbrev w5_Z : Type := Int × Int × List (Int × Int) × List (Int × Int × Int) × List (Int × Int × Int) × List Int × Int × List (Int × Int × Int) × Int × Int
noncomputable abbrev w5_Y : Type := Int × Int × List (Int × Int) × List (Int × Int × Int) × Int × Int × Int × List Int × Int × List (Int × Int × Int) × Int × Int
section
variable (k : Nat) (x : w5_Y)
noncomputable def w5_B : List TV := [U0, U0, TV.sv (SV.at (At.snap 0 T1 x.2.2.2.2.2.2.2.1)), I0 x.2.2.2.2.2.2.2.2.1, P0 1, U0, U0, U0, U0, L0 2, U0, P0 3, U0, U0, U0, U0, U0, U0, TV.sv (SV.at (At.snap 0 T3 x.2.2.2.2.2.2.2.2.2.1)), I0 x.2.2.2.2.2.2.2.2.2.2.1, I0 x.2.2.2.2.2.2.2.2.2.2.2, U0, U0, U0, U0, U0, U0, U0, TV.sv (SV.at (At.snap 0 T1 x.2.2.2.2.2.2.2.1)), U0, I0 x.2.2.2.2.2.2.2.2.1, U0, U0, U0, U0, U0, U0, U0, U0, U0, U0, U0, U0, U0, U0, U0, U0, U0, U0, U0, U0, U0, U0, U0, U0, U0, U0, U0, U0, U0, U0, U0, U0, U0]
noncomputable def Ze : Ob := Ob.box 26 [J0 x.1, J0 x.2.1, At.snap 0 T2 x.2.2.1]
noncomputable def Zf : Ob := Ob.row true 67 T3 x.2.2.2.1
noncomputable def Zd : Ob := Ob.box 42 [J0 x.2.2.2.2.1, J0 x.2.2.2.2.2.1, J0 x.2.2.2.2.2.2.1]
noncomputable def Zh : Ob := Ob.row true 3 T1 [x.2.2.2.2.2.2.2.2.1]
noncomputable def Zl : Ob := Ob.box 26 [J0 (0 : Int), J0 (0 : Int), At.nils]
noncomputable def Zp : Ob := Ob.row true 42 T3 [(x.2.2.2.2.1, x.2.2.2.2.2.1, x.2.2.2.2.2.2.1)]
noncomputable def Zg : TV := TV.sv (SV.agg [J0 x.2.2.2.2.1, J0 x.2.2.2.2.2.1, J0 x.2.2.2.2.2.2.1])
noncomputable def Zt : TV := TV.sv (SV.agg [J0 x.1, J0 x.2.1, At.snap 0 T2 x.2.2.1])
abbrev y1 := true
abbrev n1 := false
noncomputable def w5_R (y : List (Int × Int × Int)) : w5_Z := (x.1, x.2.1, x.2.2.1, x.2.2.2.1, y, x.2.2.2.2.2.2.2.1, x.2.2.2.2.2.2.2.2.1, x.2.2.2.2.2.2.2.2.2.1, x.2.2.2.2.2.2.2.2.2.2.1, x.2.2.2.2.2.2.2.2.2.2.2)
noncomputable def w5_G (z : List Int) : Option (List w5_Z) := Option.bind (Z2z k (x.1, x.2.1, x.2.2.1) [(x.2.2.2.2.1, x.2.2.2.2.2.1, x.2.2.2.2.2.2.1)] (z ++ [x.2.2.2.2.2.2.2.2.1])) fun y => some [w5_R x y.1]
noncomputable def w5_H {α : Type} (z : List Int) (e : Option α) : Option α := if List.length z + List.length [x.2.2.2.2.2.2.2.2.1] ≤ (140737488355328 / 8 : Nat) then e else none
noncomputable def w5_X (n : Nat) (m : Array Bool) (l : List (Nat × TV)) (o : List Ob) : Option (List w5_Z) := execT Zw.G (stepOp Zw.T Zw.G Zw.mvs k) Z90 n m ⟨sets (w5_B x) l, Ob.ro :: o⟩ (outK Zw Z3k)
noncomputable def Za (f0 : List Int) : Option w5_Z := Option.bind (Z2z k (x.1, x.2.1, x.2.2.1) [(x.2.2.2.2.1, x.2.2.2.2.2.1, x.2.2.2.2.2.2.1)] (f0 ++ [x.2.2.2.2.2.2.2.2.1])) fun y0 => some (w5_R x y0.1)
noncomputable def Z7 (f0 : List Int) : Option w5_Z := w5_H x f0 (Option.bind (Z2z k (x.1, x.2.1, x.2.2.1) [(x.2.2.2.2.1, x.2.2.2.2.2.1, x.2.2.2.2.2.2.1)] (f0 ++ [x.2.2.2.2.2.2.2.2.1])) fun y0 => some (w5_R x y0.1))
noncomputable def Zb : Option w5_Z := Option.bind (Zi k x.2.2.2.2.2.2.2.1) fun y0 => w5_H x y0 (Option.bind (Z2z k (x.1, x.2.1, x.2.2.1) [(x.2.2.2.2.1, x.2.2.2.2.2.1, x.2.2.2.2.2.2.1)] (y0 ++ [x.2.2.2.2.2.2.2.2.1])) fun y1 => some (w5_R x y1.1))
noncomputable def w5_0 (z2 : List Int) : Option (List w5_Z) := w5_X k x 7 #[y1,y1,y1,y1,y1,y1,y1,y1,n1,n1,n1,n1,n1,n1,n1] [(25, Zt x), (26, Zg x), (27, L0 4), (29, L0 5), (31, L0 6), (32, L0 7)] [Ze x, Zf x, Zd x, Zp x, Ob.dead, Zh x, Ob.row true 3 T1 (z2 ++ [x.2.2.2.2.2.2.2.2.1])]
theorem ZO9 (z2 : List Int) : w5_0 k x z2 = joinL (w5_G k x z2) (w5_G k x z2) := by kernel_rfl
theorem ZIT (z2 : List Int) : w5_0 k x z2 = repl 2 (Za k x z2) := by
 rw [ZO9]
 simp only [w5_G, w5_H, Za, Z7, Zb, Z5, Z6, Z2, Z3, Z4, Z1, if_true]
noncomputable def w5_1 (z2 : List Int) : Option (List w5_Z) := w5_X k x 8 #[y1,y1,y1,y1,y1,y1,y1,n1,n1,n1,n1,n1,n1,n1,n1] [(25, Zt x), (26, Zg x), (27, L0 4), (29, L0 5), (31, L0 6)] [Ze x, Zf x, Zd x, Zp x, Ob.row true 3 T1 z2, Zh x]
theorem ZO5 (z2 : List Int) : w5_1 k x z2 = joinL (w5_H x z2 (w5_0 k x z2)) (w5_H x z2 (w5_G k x z2)) := by kernel_rfl
theorem ZIV (z2 : List Int) : w5_1 k x z2 = repl 3 (Z7 k x z2) := by
 rw [ZO5]
 simp only [ZIT, w5_G, w5_H, Za, Z7, Zb, Z5, Z6, Z2, Z3, Z4, Z1, if_true]
noncomputable def w5_2 (z2 : List Int) : Option (List w5_Z) := w5_X k x 9 #[y1,y1,y1,y1,y1,y1,n1,n1,n1,n1,n1,n1,n1,n1,n1] [(25, Zt x), (26, Zg x), (27, L0 4), (29, L0 5)] [Ze x, Zf x, Zd x, Zp x, Ob.row true 3 T1 z2]
theorem ZO1 (z2 : List Int) : w5_2 k x z2 = joinL (w5_1 k x z2) (w5_H x z2 (w5_G k x z2)) := by kernel_rfl
theorem ZIS (z2 : List Int) : w5_2 k x z2 = repl 4 (Z7 k x z2) := by
 rw [ZO1]
 simp only [ZIV, w5_G, w5_H, Za, Z7, Zb, Z5, Z6, Z2, Z3, Z4, Z1, if_true]
noncomputable def w5_3 (z10 : List Int) : Option (List w5_Z) := w5_X k x 7 #[y1,y1,y1,y1,y1,y1,y1,y1,n1,n1,n1,n1,n1,n1,n1] [(25, Zt x), (26, Zg x), (27, L0 4), (29, L0 6), (31, L0 5), (32, L0 7)] [Ze x, Zf x, Zd x, Zp x, Zh x, Ob.dead, Ob.row true 3 T1 (z10 ++ [x.2.2.2.2.2.2.2.2.1])]
theorem ZO2 (z10 : List Int) : w5_3 k x z10 = joinL (w5_G k x z10) (w5_G k x z10) := by kernel_rfl
theorem ZIO (z10 : List Int) : w5_3 k x z10 = repl 2 (Za k x z10) := by
 rw [ZO2]
 simp only [w5_G, w5_H, Za, Z7, Zb, Z5, Z6, Z2, Z3, Z4, Z1, if_true]
noncomputable def w5_4 (z10 : List Int) : Option (List w5_Z) := w5_X k x 8 #[y1,y1,y1,y1,y1,y1,y1,n1,n1,n1,n1,n1,n1,n1,n1] [(25, Zt x), (26, Zg x), (27, L0 4), (29, L0 6), (31, L0 5)] [Ze x, Zf x, Zd x, Zp x, Zh x, Ob.row true 3 T1 z10]
theorem ZOc (z10 : List Int) : w5_4 k x z10 = joinL (w5_H x z10 (w5_3 k x z10)) (w5_H x z10 (w5_G k x z10)) := by kernel_rfl
theorem ZIU (z10 : List Int) : w5_4 k x z10 = repl 3 (Z7 k x z10) := by
 rw [ZOc]
 simp only [ZIO, w5_G, w5_H, Za, Z7, Zb, Z5, Z6, Z2, Z3, Z4, Z1, if_true]
noncomputable def w5_5 : Option (List w5_Z) := w5_X k x 9 #[y1,y1,y1,y1,n1,y1,y1,n1,n1,n1,n1,n1,n1,n1,n1] [(25, Zt x), (26, Zg x), (27, L0 4), (31, L0 5)] [Ze x, Zf x, Zd x, Zp x, Zh x]
theorem ZO6 : w5_5 k x = joinL (Option.bind (Zi k x.2.2.2.2.2.2.2.1) fun z10 => w5_4 k x z10) (Option.bind (Zi k x.2.2.2.2.2.2.2.1) fun z16 => w5_H x z16 (w5_G k x z16)) := by kernel_rfl
theorem ZIR : w5_5 k x = repl 4 (Zb k x) := by
 rw [ZO6]
 simp only [ZIU, w5_G, w5_H, Za, Z7, Zb, Z5, Z6, Z2, Z3, Z4, Z1, if_true]
noncomputable def w5_6 : Option (List w5_Z) := w5_X k x 9 #[y1,y1,y1,y1,n1,y1,n1,n1,n1,n1,n1,n1,y1,n1,n1] [(13, P0 5), (25, Zt x), (26, Zg x), (27, L0 4)] [Ze x, Zf x, Zd x, Zp x, Zl]
theorem ZO0 : w5_6 k x = joinL (Option.bind (Zi k x.2.2.2.2.2.2.2.1) fun z20 => w5_H x z20 (w5_G k x z20)) (Option.bind (Zi k x.2.2.2.2.2.2.2.1) fun z22 => w5_H x z22 (w5_G k x z22)) := by kernel_rfl
theorem ZIW : w5_6 k x = repl 2 (Zb k x) := by
 rw [ZO0]
 simp only [w5_G, w5_H, Za, Z7, Zb, Z5, Z6, Z2, Z3, Z4, Z1, if_true]
noncomputable def w5_7 : Option (List w5_Z) := w5_X k x 10 #[y1,y1,y1,y1,n1,y1,n1,n1,n1,n1,n1,n1,n1,n1,n1] [(25, Zt x), (26, Zg x), (27, L0 4)] [Ze x, Zf x, Zd x, Zp x]
theorem ZOa : w5_7 k x = joinL (Option.bind (Zi k x.2.2.2.2.2.2.2.1) fun z2 => w5_2 k x z2) (joinL (w5_5 k x) (w5_6 k x)) := by kernel_rfl
theorem ZIQ : w5_7 k x = repl 10 (Zb k x) := by
 rw [ZOa]
 simp only [ZIS, ZIR, ZIW, w5_G, w5_H, Za, Z7, Zb, Z5, Z6, Z2, Z3, Z4, Z1, if_true]
noncomputable def w5_8 (z28 : List Int) : Option (List w5_Z) := w5_X k x 7 #[y1,y1,y1,y1,y1,y1,y1,y1,n1,n1,n1,n1,n1,n1,n1] [(25, Zt x), (26, Zg x), (27, L0 5), (29, L0 4), (31, L0 6), (32, L0 7)] [Ze x, Zf x, Zd x, Ob.dead, Zp x, Zh x, Ob.row true 3 T1 (z28 ++ [x.2.2.2.2.2.2.2.2.1])]
theorem ZO7 (z28 : List Int) : w5_8 k x z28 = joinL (w5_G k x z28) (w5_G k x z28) := by kernel_rfl
theorem ZIN (z28 : List Int) : w5_8 k x z28 = repl 2 (Za k x z28) := by
 rw [ZO7]
 simp only [w5_G, w5_H, Za, Z7, Zb, Z5, Z6, Z2, Z3, Z4, Z1, if_true]
noncomputable def w5_9 (z28 : List Int) : Option (List w5_Z) := w5_X k x 8 #[y1,y1,y1,y1,y1,y1,y1,n1,n1,n1,n1,n1,n1,n1,n1] [(25, Zt x), (26, Zg x), (27, L0 5), (29, L0 4), (31, L0 6)] [Ze x, Zf x, Zd x, Ob.row true 3 T1 z28, Zp x, Zh x]
theorem ZO3 (z28 : List Int) : w5_9 k x z28 = joinL (w5_H x z28 (w5_8 k x z28)) (w5_H x z28 (w5_G k x z28)) := by kernel_rfl
theorem ZIP (z28 : List Int) : w5_9 k x z28 = repl 3 (Z7 k x z28) := by
 rw [ZO3]
 simp only [ZIN, w5_G, w5_H, Za, Z7, Zb, Z5, Z6, Z2, Z3, Z4, Z1, if_true]
noncomputable def ZC0 (z28 : List Int) : Option (List w5_Z) := w5_X k x 9 #[y1,y1,y1,y1,y1,y1,n1,n1,n1,n1,n1,n1,n1,n1,n1] [(25, Zt x), (26, Zg x), (27, L0 5), (29, L0 4)] [Ze x, Zf x, Zd x, Ob.row true 3 T1 z28, Zp x]
theorem ZNr (z28 : List Int) : ZC0 k x z28 = joinL (w5_9 k x z28) (w5_H x z28 (w5_G k x z28)) := by kernel_rfl
theorem ZHt (z28 : List Int) : ZC0 k x z28 = repl 4 (Z7 k x z28) := by
 rw [ZNr]
 simp only [ZIP, w5_G, w5_H, Za, Z7, Zb, Z5, Z6, Z2, Z3, Z4, Z1, if_true]
noncomputable def ZC5 (z28 : List Int) : Option (List w5_Z) := w5_X k x 7 #[y1,y1,y1,y1,y1,y1,y1,y1,n1,n1,n1,n1,n1,n1,n1] [(25, Zt x), (26, Zg x), (27, L0 6), (29, L0 4), (31, L0 5), (32, L0 7)] [Ze x, Zf x, Zd x, Ob.dead, Zh x, Zp x, Ob.row true 3 T1 (z28 ++ [x.2.2.2.2.2.2.2.2.1])]
theorem ZNI (z28 : List Int) : ZC5 k x z28 = joinL (w5_G k x z28) (w5_G k x z28) := by kernel_rfl
theorem ZHY (z28 : List Int) : ZC5 k x z28 = repl 2 (Za k x z28) := by
 rw [ZNI]
 simp only [w5_G, w5_H, Za, Z7, Zb, Z5, Z6, Z2, Z3, Z4, Z1, if_true]
noncomputable def ZBP (z28 : List Int) : Option (List w5_Z) := w5_X k x 8 #[y1,y1,y1,y1,y1,y1,y1,n1,n1,n1,n1,n1,n1,n1,n1] [(25, Zt x), (26, Zg x), (27, L0 6), (29, L0 4), (31, L0 5)] [Ze x, Zf x, Zd x, Ob.row true 3 T1 z28, Zh x, Zp x]
theorem ZNJ (z28 : List Int) : ZBP k x z28 = joinL (w5_H x z28 (ZC5 k x z28)) (w5_H x z28 (w5_G k x z28)) := by kernel_rfl
theorem ZIp (z28 : List Int) : ZBP k x z28 = repl 3 (Z7 k x z28) := by
 rw [ZNJ]
 simp only [ZHY, w5_G, w5_H, Za, Z7, Zb, Z5, Z6, Z2, Z3, Z4, Z1, if_true]
noncomputable def ZBV (z28 : List Int) : Option (List w5_Z) := w5_X k x 7 #[y1,y1,y1,y1,y1,y1,y1,y1,n1,n1,n1,n1,n1,n1,n1] [(25, Zt x), (26, Zg x), (27, L0 7), (29, L0 4), (31, L0 5), (32, L0 6)] [Ze x, Zf x, Zd x, Ob.dead, Zh x, Ob.row true 3 T1 (z28 ++ [x.2.2.2.2.2.2.2.2.1]), Zp x]
theorem ZNQ (z28 : List Int) : ZBV k x z28 = joinL (w5_G k x z28) (w5_G k x z28) := by kernel_rfl
theorem ZId (z28 : List Int) : ZBV k x z28 = repl 2 (Za k x z28) := by
 rw [ZNQ]
 simp only [w5_G, w5_H, Za, Z7, Zb, Z5, Z6, Z2, Z3, Z4, Z1, if_true]
noncomputable def Zym (z28 : List Int) : Option (List w5_Z) := w5_X k x 8 #[y1,y1,n1,y1,y1,y1,y1,y1,n1,n1,n1,n1,n1,n1,n1] [(25, Zt x), (26, Zg x), (29, L0 4), (31, L0 5), (32, L0 6)] [Ze x, Zf x, Zd x, Ob.dead, Zh x, Ob.row true 3 T1 (z28 ++ [x.2.2.2.2.2.2.2.2.1])]
theorem ZNZ (z28 : List Int) : Zym k x z28 = joinL (ZBV k x z28) (w5_G k x z28) := by kernel_rfl
theorem ZDi (z28 : List Int) : Zym k x z28 = repl 3 (Za k x z28) := by
 rw [ZNZ]
 simp only [ZId, w5_G, w5_H, Za, Z7, Zb, Z5, Z6, Z2, Z3, Z4, Z1, if_true]
noncomputable def Zz8 (z28 : List Int) : Option (List w5_Z) := w5_X k x 8 #[y1,y1,n1,y1,y1,y1,y1,n1,n1,n1,n1,n1,y1,n1,n1] [(13, P0 6), (25, Zt x), (26, Zg x), (29, L0 4), (31, L0 5)] [Ze x, Zf x, Zd x, Ob.row true 3 T1 z28, Zh x, Zl]
theorem ZMf (z28 : List Int) : Zz8 k x z28 = joinL (w5_H x z28 (w5_G k x z28)) (w5_H x z28 (w5_G k x z28)) := by kernel_rfl
theorem ZCz (z28 : List Int) : Zz8 k x z28 = repl 2 (Z7 k x z28) := by
 rw [ZMf]
 simp only [w5_G, w5_H, Za, Z7, Zb, Z5, Z6, Z2, Z3, Z4, Z1, if_true]
noncomputable def Zzi (z28 : List Int) : Option (List w5_Z) := w5_X k x 9 #[y1,y1,n1,y1,y1,y1,y1,n1,n1,n1,n1,n1,n1,n1,n1] [(25, Zt x), (26, Zg x), (29, L0 4), (31, L0 5)] [Ze x, Zf x, Zd x, Ob.row true 3 T1 z28, Zh x]
theorem ZMt (z28 : List Int) : Zzi k x z28 = joinL (ZBP k x z28) (joinL (w5_H x z28 (Zym k x z28)) (Zz8 k x z28)) := by kernel_rfl
theorem ZEN (z28 : List Int) : Zzi k x z28 = repl 8 (Z7 k x z28) := by
 rw [ZMt]
 simp only [ZIp, ZDi, ZCz, w5_G, w5_H, Za, Z7, Zb, Z5, Z6, Z2, Z3, Z4, Z1, if_true]
noncomputable def ZyY (z28 : List Int) : Option (List w5_Z) := w5_X k x 8 #[y1,y1,n1,y1,y1,y1,y1,n1,n1,n1,n1,n1,y1,n1,n1] [(13, P0 5), (25, Zt x), (26, Zg x), (29, L0 4), (31, L0 6)] [Ze x, Zf x, Zd x, Ob.row true 3 T1 z28, Zl, Zh x]
theorem ZNB (z28 : List Int) : ZyY k x z28 = joinL (w5_H x z28 (w5_G k x z28)) (w5_H x z28 (w5_G k x z28)) := by kernel_rfl
theorem ZCW (z28 : List Int) : ZyY k x z28 = repl 2 (Z7 k x z28) := by
 rw [ZNB]
 simp only [w5_G, w5_H, Za, Z7, Zb, Z5, Z6, Z2, Z3, Z4, Z1, if_true]
noncomputable def Zxw (z28 : List Int) : Option (List w5_Z) := w5_X k x 9 #[y1,y1,n1,y1,y1,y1,n1,n1,n1,n1,n1,n1,y1,n1,n1] [(13, P0 5), (25, Zt x), (26, Zg x), (29, L0 4)] [Ze x, Zf x, Zd x, Ob.row true 3 T1 z28, Zl]
theorem ZMl (z28 : List Int) : Zxw k x z28 = joinL (w5_H x z28 (w5_G k x z28)) (ZyY k x z28) := by kernel_rfl
theorem ZCX (z28 : List Int) : Zxw k x z28 = repl 3 (Z7 k x z28) := by
 rw [ZMl]
 simp only [ZCW, w5_G, w5_H, Za, Z7, Zb, Z5, Z6, Z2, Z3, Z4, Z1, if_true]
noncomputable def Zxr (z28 : List Int) : Option (List w5_Z) := w5_X k x 10 #[y1,y1,n1,y1,y1,y1,n1,n1,n1,n1,n1,n1,n1,n1,n1] [(25, Zt x), (26, Zg x), (29, L0 4)] [Ze x, Zf x, Zd x, Ob.row true 3 T1 z28]
theorem ZN5 (z28 : List Int) : Zxr k x z28 = joinL (ZC0 k x z28) (joinL (Zzi k x z28) (Zxw k x z28)) := by kernel_rfl
theorem ZDt (z28 : List Int) : Zxr k x z28 = repl 15 (Z7 k x z28) := by
 rw [ZN5]
 simp only [ZHt, ZEN, ZCX, w5_G, w5_H, Za, Z7, Zb, Z5, Z6, Z2, Z3, Z4, Z1, if_true]
noncomputable def ZC1 (z56 : List Int) : Option (List w5_Z) := w5_X k x 7 #[y1,y1,y1,y1,y1,y1,y1,y1,n1,n1,n1,n1,n1,n1,n1] [(25, Zt x), (26, Zg x), (27, L0 5), (29, L0 6), (31, L0 4), (32, L0 7)] [Ze x, Zf x, Zd x, Zh x, Zp x, Ob.dead, Ob.row true 3 T1 (z56 ++ [x.2.2.2.2.2.2.2.2.1])]
theorem ZM7 (z56 : List Int) : ZC1 k x z56 = joinL (w5_G k x z56) (w5_G k x z56) := by kernel_rfl
theorem ZHK (z56 : List Int) : ZC1 k x z56 = repl 2 (Za k x z56) := by
 rw [ZM7]
 simp only [w5_G, w5_H, Za, Z7, Zb, Z5, Z6, Z2, Z3, Z4, Z1, if_true]
noncomputable def ZBQ (z56 : List Int) : Option (List w5_Z) := w5_X k x 8 #[y1,y1,y1,y1,y1,y1,y1,n1,n1,n1,n1,n1,n1,n1,n1] [(25, Zt x), (26, Zg x), (27, L0 5), (29, L0 6), (31, L0 4)] [Ze x, Zf x, Zd x, Zh x, Zp x, Ob.row true 3 T1 z56]
theorem ZM3 (z56 : List Int) : ZBQ k x z56 = joinL (w5_H x z56 (ZC1 k x z56)) (w5_H x z56 (w5_G k x z56)) := by kernel_rfl
theorem ZIb (z56 : List Int) : ZBQ k x z56 = repl 3 (Z7 k x z56) := by
 rw [ZM3]
 simp only [ZHK, w5_G, w5_H, Za, Z7, Zb, Z5, Z6, Z2, Z3, Z4, Z1, if_true]
noncomputable def ZCe : Option (List w5_Z) := w5_X k x 9 #[y1,y1,y1,y1,n1,y1,y1,n1,n1,n1,n1,n1,n1,n1,n1] [(25, Zt x), (26, Zg x), (27, L0 5), (31, L0 4)] [Ze x, Zf x, Zd x, Zh x, Zp x]
theorem ZMM : ZCe k x = joinL (Option.bind (Zi k x.2.2.2.2.2.2.2.1) fun z56 => ZBQ k x z56) (Option.bind (Zi k x.2.2.2.2.2.2.2.1) fun z62 => w5_H x z62 (w5_G k x z62)) := by kernel_rfl
theorem ZI6 : ZCe k x = repl 4 (Zb k x) := by
 rw [ZMM]
 simp only [ZIb, w5_G, w5_H, Za, Z7, Zb, Z5, Z6, Z2, Z3, Z4, Z1, if_true]
noncomputable def ZCg (z66 : List Int) : Option (List w5_Z) := w5_X k x 7 #[y1,y1,y1,y1,y1,y1,y1,y1,n1,n1,n1,n1,n1,n1,n1] [(25, Zt x), (26, Zg x), (27, L0 6), (29, L0 5), (31, L0 4), (32, L0 7)] [Ze x, Zf x, Zd x, Zh x, Ob.dead, Zp x, Ob.row true 3 T1 (z66 ++ [x.2.2.2.2.2.2.2.2.1])]
theorem ZMu (z66 : List Int) : ZCg k x z66 = joinL (w5_G k x z66) (w5_G k x z66) := by kernel_rfl
theorem ZHJ (z66 : List Int) : ZCg k x z66 = repl 2 (Za k x z66) := by
 rw [ZMu]
 simp only [w5_G, w5_H, Za, Z7, Zb, Z5, Z6, Z2, Z3, Z4, Z1, if_true]
noncomputable def ZCt (z66 : List Int) : Option (List w5_Z) := w5_X k x 8 #[y1,y1,y1,y1,y1,y1,y1,n1,n1,n1,n1,n1,n1,n1,n1] [(25, Zt x), (26, Zg x), (27, L0 6), (29, L0 5), (31, L0 4)] [Ze x, Zf x, Zd x, Zh x, Ob.row true 3 T1 z66, Zp x]
theorem ZMd (z66 : List Int) : ZCt k x z66 = joinL (w5_H x z66 (ZCg k x z66)) (w5_H x z66 (w5_G k x z66)) := by kernel_rfl
theorem ZIe (z66 : List Int) : ZCt k x z66 = repl 3 (Z7 k x z66) := by
 rw [ZMd]
 simp only [ZHJ, w5_G, w5_H, Za, Z7, Zb, Z5, Z6, Z2, Z3, Z4, Z1, if_true]
noncomputable def ZCh (z66 : List Int) : Option (List w5_Z) := w5_X k x 7 #[y1,y1,y1,y1,y1,y1,y1,y1,n1,n1,n1,n1,n1,n1,n1] [(25, Zt x), (26, Zg x), (27, L0 7), (29, L0 5), (31, L0 4), (32, L0 6)] [Ze x, Zf x, Zd x, Zh x, Ob.dead, Ob.row true 3 T1 (z66 ++ [x.2.2.2.2.2.2.2.2.1]), Zp x]
theorem ZNk (z66 : List Int) : ZCh k x z66 = joinL (w5_G k x z66) (w5_G k x z66) := by kernel_rfl
theorem ZIr (z66 : List Int) : ZCh k x z66 = repl 2 (Za k x z66) := by
 rw [ZNk]
 simp only [w5_G, w5_H, Za, Z7, Zb, Z5, Z6, Z2, Z3, Z4, Z1, if_true]
noncomputable def ZyS (z66 : List Int) : Option (List w5_Z) := w5_X k x 8 #[y1,y1,n1,y1,y1,y1,y1,y1,n1,n1,n1,n1,n1,n1,n1] [(25, Zt x), (26, Zg x), (29, L0 5), (31, L0 4), (32, L0 6)] [Ze x, Zf x, Zd x, Zh x, Ob.dead, Ob.row true 3 T1 (z66 ++ [x.2.2.2.2.2.2.2.2.1])]
theorem ZNL (z66 : List Int) : ZyS k x z66 = joinL (ZCh k x z66) (w5_G k x z66) := by kernel_rfl
theorem ZDx (z66 : List Int) : ZyS k x z66 = repl 3 (Za k x z66) := by
 rw [ZNL]
 simp only [ZIr, w5_G, w5_H, Za, Z7, Zb, Z5, Z6, Z2, Z3, Z4, Z1, if_true]
noncomputable def ZyU (z66 : List Int) : Option (List w5_Z) := w5_X k x 8 #[y1,y1,n1,y1,y1,y1,y1,n1,n1,n1,n1,n1,y1,n1,n1] [(13, P0 6), (25, Zt x), (26, Zg x), (29, L0 5), (31, L0 4)] [Ze x, Zf x, Zd x, Zh x, Ob.row true 3 T1 z66, Zl]
theorem ZNx (z66 : List Int) : ZyU k x z66 = joinL (w5_H x z66 (w5_G k x z66)) (w5_H x z66 (w5_G k x z66)) := by kernel_rfl
theorem ZDE (z66 : List Int) : ZyU k x z66 = repl 2 (Z7 k x z66) := by
 rw [ZNx]
 simp only [w5_G, w5_H, Za, Z7, Zb, Z5, Z6, Z2, Z3, Z4, Z1, if_true]
noncomputable def ZxB (z66 : List Int) : Option (List w5_Z) := w5_X k x 9 #[y1,y1,n1,y1,y1,y1,y1,n1,n1,n1,n1,n1,n1,n1,n1] [(25, Zt x), (26, Zg x), (29, L0 5), (31, L0 4)] [Ze x, Zf x, Zd x, Zh x, Ob.row true 3 T1 z66]
theorem ZMR (z66 : List Int) : ZxB k x z66 = joinL (ZCt k x z66) (joinL (w5_H x z66 (ZyS k x z66)) (ZyU k x z66)) := by kernel_rfl
theorem ZEh (z66 : List Int) : ZxB k x z66 = repl 8 (Z7 k x z66) := by
 rw [ZMR]
 simp only [ZIe, ZDx, ZDE, w5_G, w5_H, Za, Z7, Zb, Z5, Z6, Z2, Z3, Z4, Z1, if_true]
noncomputable def Zy4 (z83 : List Int) : Option (List w5_Z) := w5_X k x 8 #[y1,y1,n1,y1,y1,y1,y1,n1,n1,n1,n1,n1,y1,n1,n1] [(13, P0 5), (25, Zt x), (26, Zg x), (29, L0 6), (31, L0 4)] [Ze x, Zf x, Zd x, Zh x, Zl, Ob.row true 3 T1 z83]
theorem ZNd (z83 : List Int) : Zy4 k x z83 = joinL (w5_H x z83 (w5_G k x z83)) (w5_H x z83 (w5_G k x z83)) := by kernel_rfl
theorem ZEj (z83 : List Int) : Zy4 k x z83 = repl 2 (Z7 k x z83) := by
 rw [ZNd]
 simp only [w5_G, w5_H, Za, Z7, Zb, Z5, Z6, Z2, Z3, Z4, Z1, if_true]
noncomputable def Zyg : Option (List w5_Z) := w5_X k x 9 #[y1,y1,n1,y1,n1,y1,y1,n1,n1,n1,n1,n1,y1,n1,n1] [(13, P0 5), (25, Zt x), (26, Zg x), (31, L0 4)] [Ze x, Zf x, Zd x, Zh x, Zl]
theorem ZLT : Zyg k x = joinL (Option.bind (Zi k x.2.2.2.2.2.2.2.1) fun z81 => w5_H x z81 (w5_G k x z81)) (Option.bind (Zi k x.2.2.2.2.2.2.2.1) fun z83 => Zy4 k x z83) := by kernel_rfl
theorem ZDg : Zyg k x = repl 3 (Zb k x) := by
 rw [ZLT]
 simp only [ZEj, w5_G, w5_H, Za, Z7, Zb, Z5, Z6, Z2, Z3, Z4, Z1, if_true]
noncomputable def Zyw : Option (List w5_Z) := w5_X k x 10 #[y1,y1,n1,y1,n1,y1,y1,n1,n1,n1,n1,n1,n1,n1,n1] [(25, Zt x), (26, Zg x), (31, L0 4)] [Ze x, Zf x, Zd x, Zh x]
theorem ZLM : Zyw k x = joinL (ZCe k x) (joinL (Option.bind (Zi k x.2.2.2.2.2.2.2.1) fun z66 => ZxB k x z66) (Zyg k x)) := by kernel_rfl
theorem ZCB : Zyw k x = repl 15 (Zb k x) := by
 rw [ZLM]
 simp only [ZI6, ZEh, ZDg, w5_G, w5_H, Za, Z7, Zb, Z5, Z6, Z2, Z3, Z4, Z1, if_true]
noncomputable def ZC4 : Option (List w5_Z) := w5_X k x 9 #[y1,y1,y1,y1,n1,y1,n1,n1,n1,n1,n1,n1,y1,n1,n1] [(13, P0 4), (25, Zt x), (26, Zg x), (27, L0 5)] [Ze x, Zf x, Zd x, Zl, Zp x]
theorem ZNO : ZC4 k x = joinL (Option.bind (Zi k x.2.2.2.2.2.2.2.1) fun z91 => w5_H x z91 (w5_G k x z91)) (Option.bind (Zi k x.2.2.2.2.2.2.2.1) fun z93 => w5_H x z93 (w5_G k x z93)) := by kernel_rfl
theorem ZHP : ZC4 k x = repl 2 (Zb k x) := by
 rw [ZNO]
 simp only [w5_G, w5_H, Za, Z7, Zb, Z5, Z6, Z2, Z3, Z4, Z1, if_true]
noncomputable def Zye (z97 : List Int) : Option (List w5_Z) := w5_X k x 8 #[y1,y1,n1,y1,y1,y1,y1,n1,n1,n1,n1,n1,y1,n1,n1] [(13, P0 4), (25, Zt x), (26, Zg x), (29, L0 5), (31, L0 6)] [Ze x, Zf x, Zd x, Zl, Ob.row true 3 T1 z97, Zh x]
theorem ZMD (z97 : List Int) : Zye k x z97 = joinL (w5_H x z97 (w5_G k x z97)) (w5_H x z97 (w5_G k x z97)) := by kernel_rfl
theorem ZDo (z97 : List Int) : Zye k x z97 = repl 2 (Z7 k x z97) := by
 rw [ZMD]
 simp only [w5_G, w5_H, Za, Z7, Zb, Z5, Z6, Z2, Z3, Z4, Z1, if_true]
noncomputable def ZyH (z97 : List Int) : Option (List w5_Z) := w5_X k x 9 #[y1,y1,n1,y1,y1,y1,n1,n1,n1,n1,n1,n1,y1,n1,n1] [(13, P0 4), (25, Zt x), (26, Zg x), (29, L0 5)] [Ze x, Zf x, Zd x, Zl, Ob.row true 3 T1 z97]
theorem ZMp (z97 : List Int) : ZyH k x z97 = joinL (w5_H x z97 (w5_G k x z97)) (Zye k x z97) := by kernel_rfl
theorem ZCQ (z97 : List Int) : ZyH k x z97 = repl 3 (Z7 k x z97) := by
 rw [ZMp]
 simp only [ZDo, w5_G, w5_H, Za, Z7, Zb, Z5, Z6, Z2, Z3, Z4, Z1, if_true]
noncomputable def ZyR (z105 : List Int) : Option (List w5_Z) := w5_X k x 8 #[y1,y1,n1,y1,y1,y1,y1,n1,n1,n1,n1,n1,y1,n1,n1] [(13, P0 4), (25, Zt x), (26, Zg x), (29, L0 6), (31, L0 5)] [Ze x, Zf x, Zd x, Zl, Zh x, Ob.row true 3 T1 z105]
theorem ZLN (z105 : List Int) : ZyR k x z105 = joinL (w5_H x z105 (w5_G k x z105)) (w5_H x z105 (w5_G k x z105)) := by kernel_rfl
theorem ZEF (z105 : List Int) : ZyR k x z105 = repl 2 (Z7 k x z105) := by
 rw [ZLN]
 simp only [w5_G, w5_H, Za, Z7, Zb, Z5, Z6, Z2, Z3, Z4, Z1, if_true]
noncomputable def Zyt : Option (List w5_Z) := w5_X k x 9 #[y1,y1,n1,y1,n1,y1,y1,n1,n1,n1,n1,n1,y1,n1,n1] [(13, P0 4), (25, Zt x), (26, Zg x), (31, L0 5)] [Ze x, Zf x, Zd x, Zl, Zh x]
theorem ZM4 : Zyt k x = joinL (Option.bind (Zi k x.2.2.2.2.2.2.2.1) fun z103 => w5_H x z103 (w5_G k x z103)) (Option.bind (Zi k x.2.2.2.2.2.2.2.1) fun z105 => ZyR k x z105) := by kernel_rfl
theorem ZE0 : Zyt k x = repl 3 (Zb k x) := by
 rw [ZM4]
 simp only [ZEF, w5_G, w5_H, Za, Z7, Zb, Z5, Z6, Z2, Z3, Z4, Z1, if_true]
noncomputable def Zz0 : Option (List w5_Z) := w5_X k x 10 #[y1,y1,n1,y1,n1,y1,n1,n1,n1,n1,n1,n1,y1,n1,n1] [(13, P0 4), (25, Zt x), (26, Zg x)] [Ze x, Zf x, Zd x, Zl]
theorem ZNt : Zz0 k x = joinL (ZC4 k x) (joinL (Option.bind (Zi k x.2.2.2.2.2.2.2.1) fun z97 => ZyH k x z97) (Zyt k x)) := by kernel_rfl
theorem ZEJ : Zz0 k x = repl 8 (Zb k x) := by
 rw [ZNt]
 simp only [ZHP, ZCQ, ZE0, w5_G, w5_H, Za, Z7, Zb, Z5, Z6, Z2, Z3, Z4, Z1, if_true]
noncomputable def ZCm : Option (List w5_Z) := w5_X k x 11 #[y1,y1,n1,y1,n1,y1,n1,n1,n1,n1,n1,n1,n1,n1,n1] [(25, Zt x), (26, Zg x)] [Ze x, Zf x, Zd x]
theorem ZNs : ZCm k x = joinL (w5_7 k x) (joinL (Option.bind (Zi k x.2.2.2.2.2.2.2.1) fun z28 => Zxr k x z28) (joinL (Zyw k x) (Zz0 k x))) := by kernel_rfl
theorem ZHR : ZCm k x = repl 48 (Zb k x) := by
 rw [ZNs]
 simp only [ZIQ, ZDt, ZCB, ZEJ, w5_G, w5_H, Za, Z7, Zb, Z5, Z6, Z2, Z3, Z4, Z1, if_true]
noncomputable def ZCn (z115 : List Int) : Option (List w5_Z) := w5_X k x 9 #[y1,n1,n1,y1,y1,y1,y1,y1,n1,n1,n1,n1,n1,n1,n1] [(25, Zt x), (29, L0 4), (31, L0 5), (32, L0 6)] [Ze x, Zf x, Zd x, Ob.dead, Zh x, Ob.row true 3 T1 (z115 ++ [x.2.2.2.2.2.2.2.2.1])]
theorem ZMV (z115 : List Int) : ZCn k x z115 = joinL (Zym k x z115) (w5_G k x z115) := by kernel_rfl
theorem ZHQ (z115 : List Int) : ZCn k x z115 = repl 4 (Za k x z115) := by
 rw [ZMV]
 simp only [ZDi, w5_G, w5_H, Za, Z7, Zb, Z5, Z6, Z2, Z3, Z4, Z1, if_true]
noncomputable def ZCs (z115 : List Int) : Option (List w5_Z) := w5_X k x 9 #[y1,n1,n1,y1,y1,y1,y1,n1,n1,n1,n1,n1,y1,n1,n1] [(13, P0 6), (25, Zt x), (29, L0 4), (31, L0 5)] [Ze x, Zf x, Zd x, Ob.row true 3 T1 z115, Zh x, Zl]
theorem ZNX (z115 : List Int) : ZCs k x z115 = joinL (Zz8 k x z115) (w5_H x z115 (w5_G k x z115)) := by kernel_rfl
theorem ZIj (z115 : List Int) : ZCs k x z115 = repl 3 (Z7 k x z115) := by
 rw [ZNX]
 simp only [ZCz, w5_G, w5_H, Za, Z7, Zb, Z5, Z6, Z2, Z3, Z4, Z1, if_true]
noncomputable def ZBT (z115 : List Int) : Option (List w5_Z) := w5_X k x 10 #[y1,n1,n1,y1,y1,y1,y1,n1,n1,n1,n1,n1,n1,n1,n1] [(25, Zt x), (29, L0 4), (31, L0 5)] [Ze x, Zf x, Zd x, Ob.row true 3 T1 z115, Zh x]
theorem ZMa (z115 : List Int) : ZBT k x z115 = joinL (Zzi k x z115) (joinL (w5_H x z115 (ZCn k x z115)) (ZCs k x z115)) := by kernel_rfl
theorem ZIt (z115 : List Int) : ZBT k x z115 = repl 15 (Z7 k x z115) := by
 rw [ZMa]
 simp only [ZEN, ZHQ, ZIj, w5_G, w5_H, Za, Z7, Zb, Z5, Z6, Z2, Z3, Z4, Z1, if_true]
noncomputable def ZCb (z115 : List Int) : Option (List w5_Z) := w5_X k x 9 #[y1,n1,n1,y1,y1,y1,y1,n1,n1,n1,n1,n1,y1,n1,n1] [(13, P0 5), (25, Zt x), (29, L0 4), (31, L0 6)] [Ze x, Zf x, Zd x, Ob.row true 3 T1 z115, Zl, Zh x]
theorem ZNq (z115 : List Int) : ZCb k x z115 = joinL (ZyY k x z115) (w5_H x z115 (w5_G k x z115)) := by kernel_rfl
theorem ZHI (z115 : List Int) : ZCb k x z115 = repl 3 (Z7 k x z115) := by
 rw [ZNq]
 simp only [ZCW, w5_G, w5_H, Za, Z7, Zb, Z5, Z6, Z2, Z3, Z4, Z1, if_true]
noncomputable def ZBU (z115 : List Int) : Option (List w5_Z) := w5_X k x 10 #[y1,n1,n1,y1,y1,y1,n1,n1,n1,n1,n1,n1,y1,n1,n1] [(13, P0 5), (25, Zt x), (29, L0 4)] [Ze x, Zf x, Zd x, Ob.row true 3 T1 z115, Zl]
theorem ZLU (z115 : List Int) : ZBU k x z115 = joinL (Zxw k x z115) (ZCb k x z115) := by kernel_rfl
theorem ZHw (z115 : List Int) : ZBU k x z115 = repl 6 (Z7 k x z115) := by
 rw [ZLU]
 simp only [ZCX, ZHI, w5_G, w5_H, Za, Z7, Zb, Z5, Z6, Z2, Z3, Z4, Z1, if_true]
noncomputable def ZCq (z115 : List Int) : Option (List w5_Z) := w5_X k x 11 #[y1,n1,n1,y1,y1,y1,n1,n1,n1,n1,n1,n1,n1,n1,n1] [(25, Zt x), (29, L0 4)] [Ze x, Zf x, Zd x, Ob.row true 3 T1 z115]
theorem ZMU (z115 : List Int) : ZCq k x z115 = joinL (Zxr k x z115) (joinL (ZBT k x z115) (ZBU k x z115)) := by kernel_rfl
theorem ZIk (z115 : List Int) : ZCq k x z115 = repl 36 (Z7 k x z115) := by
 rw [ZMU]
 simp only [ZDt, ZIt, ZHw, w5_G, w5_H, Za, Z7, Zb, Z5, Z6, Z2, Z3, Z4, Z1, if_true]
noncomputable def ZC2 (z125 : List Int) : Option (List w5_Z) := w5_X k x 9 #[y1,n1,n1,y1,y1,y1,y1,y1,n1,n1,n1,n1,n1,n1,n1] [(25, Zt x), (29, L0 5), (31, L0 4), (32, L0 6)] [Ze x, Zf x, Zd x, Zh x, Ob.dead, Ob.row true 3 T1 (z125 ++ [x.2.2.2.2.2.2.2.2.1])]
theorem ZMe (z125 : List Int) : ZC2 k x z125 = joinL (ZyS k x z125) (w5_G k x z125) := by kernel_rfl
theorem ZHE (z125 : List Int) : ZC2 k x z125 = repl 4 (Za k x z125) := by
 rw [ZMe]
 simp only [ZDx, w5_G, w5_H, Za, Z7, Zb, Z5, Z6, Z2, Z3, Z4, Z1, if_true]
noncomputable def ZC3 (z125 : List Int) : Option (List w5_Z) := w5_X k x 9 #[y1,n1,n1,y1,y1,y1,y1,n1,n1,n1,n1,n1,y1,n1,n1] [(13, P0 6), (25, Zt x), (29, L0 5), (31, L0 4)] [Ze x, Zf x, Zd x, Zh x, Ob.row true 3 T1 z125, Zl]
theorem ZLK (z125 : List Int) : ZC3 k x z125 = joinL (ZyU k x z125) (w5_H x z125 (w5_G k x z125)) := by kernel_rfl
theorem ZHC (z125 : List Int) : ZC3 k x z125 = repl 3 (Z7 k x z125) := by
 rw [ZLK]
 simp only [ZDE, w5_G, w5_H, Za, Z7, Zb, Z5, Z6, Z2, Z3, Z4, Z1, if_true]
noncomputable def ZBS (z125 : List Int) : Option (List w5_Z) := w5_X k x 10 #[y1,n1,n1,y1,y1,y1,y1,n1,n1,n1,n1,n1,n1,n1,n1] [(25, Zt x), (29, L0 5), (31, L0 4)] [Ze x, Zf x, Zd x, Zh x, Ob.row true 3 T1 z125]
theorem ZNb (z125 : List Int) : ZBS k x z125 = joinL (ZxB k x z125) (joinL (w5_H x z125 (ZC2 k x z125)) (ZC3 k x z125)) := by kernel_rfl
theorem ZIi (z125 : List Int) : ZBS k x z125 = repl 15 (Z7 k x z125) := by
 rw [ZNb]
 simp only [ZEh, ZHE, ZHC, w5_G, w5_H, Za, Z7, Zb, Z5, Z6, Z2, Z3, Z4, Z1, if_true]
noncomputable def ZCo (z131 : List Int) : Option (List w5_Z) := w5_X k x 9 #[y1,n1,n1,y1,y1,y1,y1,n1,n1,n1,n1,n1,y1,n1,n1] [(13, P0 5), (25, Zt x), (29, L0 6), (31, L0 4)] [Ze x, Zf x, Zd x, Zh x, Zl, Ob.row true 3 T1 z131]
theorem ZNS (z131 : List Int) : ZCo k x z131 = joinL (Zy4 k x z131) (w5_H x z131 (w5_G k x z131)) := by kernel_rfl
theorem ZHu (z131 : List Int) : ZCo k x z131 = repl 3 (Z7 k x z131) := by
 rw [ZNS]
 simp only [ZEj, w5_G, w5_H, Za, Z7, Zb, Z5, Z6, Z2, Z3, Z4, Z1, if_true]
noncomputable def ZBR : Option (List w5_Z) := w5_X k x 10 #[y1,n1,n1,y1,n1,y1,y1,n1,n1,n1,n1,n1,y1,n1,n1] [(13, P0 5), (25, Zt x), (31, L0 4)] [Ze x, Zf x, Zd x, Zh x, Zl]
theorem ZNH : ZBR k x = joinL (Zyg k x) (Option.bind (Zi k x.2.2.2.2.2.2.2.1) fun z131 => ZCo k x z131) := by kernel_rfl
theorem ZI1 : ZBR k x = repl 6 (Zb k x) := by
 rw [ZNH]
 simp only [ZDg, ZHu, w5_G, w5_H, Za, Z7, Zb, Z5, Z6, Z2, Z3, Z4, Z1, if_true]
noncomputable def ZCi : Option (List w5_Z) := w5_X k x 11 #[y1,n1,n1,y1,n1,y1,y1,n1,n1,n1,n1,n1,n1,n1,n1] [(25, Zt x), (31, L0 4)] [Ze x, Zf x, Zd x, Zh x]
theorem ZLL : ZCi k x = joinL (Zyw k x) (joinL (Option.bind (Zi k x.2.2.2.2.2.2.2.1) fun z125 => ZBS k x z125) (ZBR k x)) := by kernel_rfl
theorem ZHD : ZCi k x = repl 36 (Zb k x) := by
 rw [ZLL]
 simp only [ZCB, ZIi, ZI1, w5_G, w5_H, Za, Z7, Zb, Z5, Z6, Z2, Z3, Z4, Z1, if_true]
noncomputable def ZCr (z138 : List Int) : Option (List w5_Z) := w5_X k x 9 #[y1,n1,n1,y1,y1,y1,y1,n1,n1,n1,n1,n1,y1,n1,n1] [(13, P0 4), (25, Zt x), (29, L0 5), (31, L0 6)] [Ze x, Zf x, Zd x, Zl, Ob.row true 3 T1 z138, Zh x]
theorem ZNy (z138 : List Int) : ZCr k x z138 = joinL (Zye k x z138) (w5_H x z138 (w5_G k x z138)) := by kernel_rfl
theorem ZIu (z138 : List Int) : ZCr k x z138 = repl 3 (Z7 k x z138) := by
 rw [ZNy]
 simp only [ZDo, w5_G, w5_H, Za, Z7, Zb, Z5, Z6, Z2, Z3, Z4, Z1, if_true]
noncomputable def ZCc (z138 : List Int) : Option (List w5_Z) := w5_X k x 10 #[y1,n1,n1,y1,y1,y1,n1,n1,n1,n1,n1,n1,y1,n1,n1] [(13, P0 4), (25, Zt x), (29, L0 5)] [Ze x, Zf x, Zd x, Zl, Ob.row true 3 T1 z138]
theorem ZMg (z138 : List Int) : ZCc k x z138 = joinL (ZyH k x z138) (ZCr k x z138) := by kernel_rfl
theorem ZHF (z138 : List Int) : ZCc k x z138 = repl 6 (Z7 k x z138) := by
 rw [ZMg]
 simp only [ZCQ, ZIu, w5_G, w5_H, Za, Z7, Zb, Z5, Z6, Z2, Z3, Z4, Z1, if_true]
noncomputable def ZC8 (z142 : List Int) : Option (List w5_Z) := w5_X k x 9 #[y1,n1,n1,y1,y1,y1,y1,n1,n1,n1,n1,n1,y1,n1,n1] [(13, P0 4), (25, Zt x), (29, L0 6), (31, L0 5)] [Ze x, Zf x, Zd x, Zl, Zh x, Ob.row true 3 T1 z142]
theorem ZNh (z142 : List Int) : ZC8 k x z142 = joinL (ZyR k x z142) (w5_H x z142 (w5_G k x z142)) := by kernel_rfl
theorem ZIo (z142 : List Int) : ZC8 k x z142 = repl 3 (Z7 k x z142) := by
 rw [ZNh]
 simp only [ZEF, w5_G, w5_H, Za, Z7, Zb, Z5, Z6, Z2, Z3, Z4, Z1, if_true]
noncomputable def ZBZ : Option (List w5_Z) := w5_X k x 10 #[y1,n1,n1,y1,n1,y1,y1,n1,n1,n1,n1,n1,y1,n1,n1] [(13, P0 4), (25, Zt x), (31, L0 5)] [Ze x, Zf x, Zd x, Zl, Zh x]
theorem ZLI : ZBZ k x = joinL (Zyt k x) (Option.bind (Zi k x.2.2.2.2.2.2.2.1) fun z142 => ZC8 k x z142) := by kernel_rfl
theorem ZHz : ZBZ k x = repl 6 (Zb k x) := by
 rw [ZLI]
 simp only [ZE0, ZIo, w5_G, w5_H, Za, Z7, Zb, Z5, Z6, Z2, Z3, Z4, Z1, if_true]
noncomputable def ZBO : Option (List w5_Z) := w5_X k x 11 #[y1,n1,n1,y1,n1,y1,n1,n1,n1,n1,n1,n1,y1,n1,n1] [(13, P0 4), (25, Zt x)] [Ze x, Zf x, Zd x, Zl]
theorem ZNC : ZBO k x = joinL (Zz0 k x) (joinL (Option.bind (Zi k x.2.2.2.2.2.2.2.1) fun z138 => ZCc k x z138) (ZBZ k x)) := by kernel_rfl
theorem ZIf : ZBO k x = repl 20 (Zb k x) := by
 rw [ZNC]
 simp only [ZEJ, ZHF, ZHz, w5_G, w5_H, Za, Z7, Zb, Z5, Z6, Z2, Z3, Z4, Z1, if_true]
noncomputable def ZHd : Option (List w5_Z) := w5_X k x 12 #[y1,n1,n1,y1,n1,y1,n1,n1,n1,n1,n1,n1,n1,n1,n1] [(25, Zt x)] [Ze x, Zf x, Zd x]
theorem ZNR : ZHd k x = joinL (ZCm k x) (joinL (Option.bind (Zi k x.2.2.2.2.2.2.2.1) fun z115 => ZCq k x z115) (joinL (ZCi k x) (ZBO k x))) := by kernel_rfl
theorem ZND : ZHd k x = repl 140 (Zb k x) := by
 rw [ZNR]
 simp only [ZHR, ZIk, ZHD, ZIf, w5_G, w5_H, Za, Z7, Zb, Z5, Z6, Z2, Z3, Z4, Z1, if_true]
noncomputable def ZHa (z151 : List Int) : Option (List w5_Z) := w5_X k x 8 #[n1,y1,y1,y1,y1,y1,y1,y1,n1,n1,n1,n1,n1,n1,n1] [(26, Zg x), (27, L0 4), (29, L0 5), (31, L0 6), (32, L0 7)] [Ze x, Zf x, Zd x, Zp x, Ob.dead, Zh x, Ob.row true 3 T1 (z151 ++ [x.2.2.2.2.2.2.2.2.1])]
theorem ZN9 (z151 : List Int) : ZHa k x z151 = joinL (w5_0 k x z151) (w5_G k x z151) := by kernel_rfl
theorem ZNV (z151 : List Int) : ZHa k x z151 = repl 3 (Za k x z151) := by
 rw [ZN9]
 simp only [ZIT, w5_G, w5_H, Za, Z7, Zb, Z5, Z6, Z2, Z3, Z4, Z1, if_true]
noncomputable def ZH8 (z151 : List Int) : Option (List w5_Z) := w5_X k x 8 #[n1,y1,y1,y1,y1,y1,y1,n1,n1,n1,n1,n1,y1,n1,n1] [(13, P0 7), (26, Zg x), (27, L0 4), (29, L0 5), (31, L0 6)] [Ze x, Zf x, Zd x, Zp x, Ob.row true 3 T1 z151, Zh x, Zl]
theorem ZNz (z151 : List Int) : ZH8 k x z151 = joinL (w5_H x z151 (w5_G k x z151)) (w5_H x z151 (w5_G k x z151)) := by kernel_rfl
theorem ZNN (z151 : List Int) : ZH8 k x z151 = repl 2 (Z7 k x z151) := by
 rw [ZNz]
 simp only [w5_G, w5_H, Za, Z7, Zb, Z5, Z6, Z2, Z3, Z4, Z1, if_true]
noncomputable def ZHk (z151 : List Int) : Option (List w5_Z) := w5_X k x 9 #[n1,y1,y1,y1,y1,y1,y1,n1,n1,n1,n1,n1,n1,n1,n1] [(26, Zg x), (27, L0 4), (29, L0 5), (31, L0 6)] [Ze x, Zf x, Zd x, Zp x, Ob.row true 3 T1 z151, Zh x]
theorem ZMZ (z151 : List Int) : ZHk k x z151 = joinL (w5_1 k x z151) (joinL (w5_H x z151 (ZHa k x z151)) (ZH8 k x z151)) := by kernel_rfl
theorem ZMk (z151 : List Int) : ZHk k x z151 = repl 8 (Z7 k x z151) := by
 rw [ZMZ]
 simp only [ZIV, ZNV, ZNN, w5_G, w5_H, Za, Z7, Zb, Z5, Z6, Z2, Z3, Z4, Z1, if_true]
noncomputable def ZGN (z151 : List Int) : Option (List w5_Z) := w5_X k x 8 #[n1,y1,y1,y1,y1,y1,y1,n1,n1,n1,n1,n1,y1,n1,n1] [(13, P0 6), (26, Zg x), (27, L0 4), (29, L0 5), (31, L0 7)] [Ze x, Zf x, Zd x, Zp x, Ob.row true 3 T1 z151, Zl, Zh x]
theorem ZMJ (z151 : List Int) : ZGN k x z151 = joinL (w5_H x z151 (w5_G k x z151)) (w5_H x z151 (w5_G k x z151)) := by kernel_rfl
theorem ZMi (z151 : List Int) : ZGN k x z151 = repl 2 (Z7 k x z151) := by
 rw [ZMJ]
 simp only [w5_G, w5_H, Za, Z7, Zb, Z5, Z6, Z2, Z3, Z4, Z1, if_true]
noncomputable def ZGv (z151 : List Int) : Option (List w5_Z) := w5_X k x 9 #[n1,y1,y1,y1,y1,y1,n1,n1,n1,n1,n1,n1,y1,n1,n1] [(13, P0 6), (26, Zg x), (27, L0 4), (29, L0 5)] [Ze x, Zf x, Zd x, Zp x, Ob.row true 3 T1 z151, Zl]
theorem ZMB (z151 : List Int) : ZGv k x z151 = joinL (w5_H x z151 (w5_G k x z151)) (ZGN k x z151) := by kernel_rfl
theorem ZMw (z151 : List Int) : ZGv k x z151 = repl 3 (Z7 k x z151) := by
 rw [ZMB]
 simp only [ZMi, w5_G, w5_H, Za, Z7, Zb, Z5, Z6, Z2, Z3, Z4, Z1, if_true]
noncomputable def ZH5 (z151 : List Int) : Option (List w5_Z) := w5_X k x 10 #[n1,y1,y1,y1,y1,y1,n1,n1,n1,n1,n1,n1,n1,n1,n1] [(26, Zg x), (27, L0 4), (29, L0 5)] [Ze x, Zf x, Zd x, Zp x, Ob.row true 3 T1 z151]
theorem ZNU (z151 : List Int) : ZH5 k x z151 = joinL (w5_2 k x z151) (joinL (ZHk k x z151) (ZGv k x z151)) := by kernel_rfl
theorem ZM1 (z151 : List Int) : ZH5 k x z151 = repl 15 (Z7 k x z151) := by
 rw [ZNU]
 simp only [ZIS, ZMk, ZMw, w5_G, w5_H, Za, Z7, Zb, Z5, Z6, Z2, Z3, Z4, Z1, if_true]
noncomputable def ZGn (z164 : List Int) : Option (List w5_Z) := w5_X k x 8 #[n1,y1,y1,y1,y1,y1,y1,y1,n1,n1,n1,n1,n1,n1,n1] [(26, Zg x), (27, L0 4), (29, L0 6), (31, L0 5), (32, L0 7)] [Ze x, Zf x, Zd x, Zp x, Zh x, Ob.dead, Ob.row true 3 T1 (z164 ++ [x.2.2.2.2.2.2.2.2.1])]
theorem ZMQ (z164 : List Int) : ZGn k x z164 = joinL (w5_3 k x z164) (w5_G k x z164) := by kernel_rfl
theorem ZNF (z164 : List Int) : ZGn k x z164 = repl 3 (Za k x z164) := by
 rw [ZMQ]
 simp only [ZIO, w5_G, w5_H, Za, Z7, Zb, Z5, Z6, Z2, Z3, Z4, Z1, if_true]
noncomputable def ZGU (z164 : List Int) : Option (List w5_Z) := w5_X k x 8 #[n1,y1,y1,y1,y1,y1,y1,n1,n1,n1,n1,n1,y1,n1,n1] [(13, P0 7), (26, Zg x), (27, L0 4), (29, L0 6), (31, L0 5)] [Ze x, Zf x, Zd x, Zp x, Zh x, Ob.row true 3 T1 z164, Zl]
theorem ZMY (z164 : List Int) : ZGU k x z164 = joinL (w5_H x z164 (w5_G k x z164)) (w5_H x z164 (w5_G k x z164)) := by kernel_rfl
theorem ZNw (z164 : List Int) : ZGU k x z164 = repl 2 (Z7 k x z164) := by
 rw [ZMY]
 simp only [w5_G, w5_H, Za, Z7, Zb, Z5, Z6, Z2, Z3, Z4, Z1, if_true]
noncomputable def ZHe (z164 : List Int) : Option (List w5_Z) := w5_X k x 9 #[n1,y1,y1,y1,y1,y1,y1,n1,n1,n1,n1,n1,n1,n1,n1] [(26, Zg x), (27, L0 4), (29, L0 6), (31, L0 5)] [Ze x, Zf x, Zd x, Zp x, Zh x, Ob.row true 3 T1 z164]
theorem ZNj (z164 : List Int) : ZHe k x z164 = joinL (w5_4 k x z164) (joinL (w5_H x z164 (ZGn k x z164)) (ZGU k x z164)) := by kernel_rfl
theorem ZM8 (z164 : List Int) : ZHe k x z164 = repl 8 (Z7 k x z164) := by
 rw [ZNj]
 simp only [ZIU, ZNF, ZNw, w5_G, w5_H, Za, Z7, Zb, Z5, Z6, Z2, Z3, Z4, Z1, if_true]
noncomputable def ZH7 (z173 : List Int) : Option (List w5_Z) := w5_X k x 8 #[n1,y1,y1,y1,y1,y1,y1,n1,n1,n1,n1,n1,y1,n1,n1] [(13, P0 6), (26, Zg x), (27, L0 4), (29, L0 7), (31, L0 5)] [Ze x, Zf x, Zd x, Zp x, Zh x, Zl, Ob.row true 3 T1 z173]
theorem ZMA (z173 : List Int) : ZH7 k x z173 = joinL (w5_H x z173 (w5_G k x z173)) (w5_H x z173 (w5_G k x z173)) := by kernel_rfl
theorem ZMq (z173 : List Int) : ZH7 k x z173 = repl 2 (Z7 k x z173) := by
 rw [ZMA]
 simp only [w5_G, w5_H, Za, Z7, Zb, Z5, Z6, Z2, Z3, Z4, Z1, if_true]
noncomputable def ZGs : Option (List w5_Z) := w5_X k x 9 #[n1,y1,y1,y1,n1,y1,y1,n1,n1,n1,n1,n1,y1,n1,n1] [(13, P0 6), (26, Zg x), (27, L0 4), (31, L0 5)] [Ze x, Zf x, Zd x, Zp x, Zh x, Zl]
theorem ZMT : ZGs k x = joinL (Option.bind (Zi k x.2.2.2.2.2.2.2.1) fun z171 => w5_H x z171 (w5_G k x z171)) (Option.bind (Zi k x.2.2.2.2.2.2.2.1) fun z173 => ZH7 k x z173) := by kernel_rfl
theorem ZN3 : ZGs k x = repl 3 (Zb k x) := by
 rw [ZMT]
 simp only [ZMq, w5_G, w5_H, Za, Z7, Zb, Z5, Z6, Z2, Z3, Z4, Z1, if_true]
noncomputable def ZHn : Option (List w5_Z) := w5_X k x 10 #[n1,y1,y1,y1,n1,y1,y1,n1,n1,n1,n1,n1,n1,n1,n1] [(26, Zg x), (27, L0 4), (31, L0 5)] [Ze x, Zf x, Zd x, Zp x, Zh x]
theorem ZNA : ZHn k x = joinL (w5_5 k x) (joinL (Option.bind (Zi k x.2.2.2.2.2.2.2.1) fun z164 => ZHe k x z164) (ZGs k x)) := by kernel_rfl
theorem ZN1 : ZHn k x = repl 15 (Zb k x) := by
 rw [ZNA]
 simp only [ZIR, ZM8, ZN3, w5_G, w5_H, Za, Z7, Zb, Z5, Z6, Z2, Z3, Z4, Z1, if_true]
noncomputable def ZGO (z181 : List Int) : Option (List w5_Z) := w5_X k x 8 #[n1,y1,y1,y1,y1,y1,y1,n1,n1,n1,n1,n1,y1,n1,n1] [(13, P0 5), (26, Zg x), (27, L0 4), (29, L0 6), (31, L0 7)] [Ze x, Zf x, Zd x, Zp x, Zl, Ob.row true 3 T1 z181, Zh x]
theorem ZMb (z181 : List Int) : ZGO k x z181 = joinL (w5_H x z181 (w5_G k x z181)) (w5_H x z181 (w5_G k x z181)) := by kernel_rfl
theorem ZLZ (z181 : List Int) : ZGO k x z181 = repl 2 (Z7 k x z181) := by
 rw [ZMb]
 simp only [w5_G, w5_H, Za, Z7, Zb, Z5, Z6, Z2, Z3, Z4, Z1, if_true]
noncomputable def ZH1 (z181 : List Int) : Option (List w5_Z) := w5_X k x 9 #[n1,y1,y1,y1,y1,y1,n1,n1,n1,n1,n1,n1,y1,n1,n1] [(13, P0 5), (26, Zg x), (27, L0 4), (29, L0 6)] [Ze x, Zf x, Zd x, Zp x, Zl, Ob.row true 3 T1 z181]
theorem ZN7 (z181 : List Int) : ZH1 k x z181 = joinL (w5_H x z181 (w5_G k x z181)) (ZGO k x z181) := by kernel_rfl
theorem ZMW (z181 : List Int) : ZH1 k x z181 = repl 3 (Z7 k x z181) := by
 rw [ZN7]
 simp only [ZLZ, w5_G, w5_H, Za, Z7, Zb, Z5, Z6, Z2, Z3, Z4, Z1, if_true]
noncomputable def ZGE (z189 : List Int) : Option (List w5_Z) := w5_X k x 8 #[n1,y1,y1,y1,y1,y1,y1,n1,n1,n1,n1,n1,y1,n1,n1] [(13, P0 5), (26, Zg x), (27, L0 4), (29, L0 7), (31, L0 6)] [Ze x, Zf x, Zd x, Zp x, Zl, Zh x, Ob.row true 3 T1 z189]
theorem ZNM (z189 : List Int) : ZGE k x z189 = joinL (w5_H x z189 (w5_G k x z189)) (w5_H x z189 (w5_G k x z189)) := by kernel_rfl
theorem ZLJ (z189 : List Int) : ZGE k x z189 = repl 2 (Z7 k x z189) := by
 rw [ZNM]
 simp only [w5_G, w5_H, Za, Z7, Zb, Z5, Z6, Z2, Z3, Z4, Z1, if_true]
noncomputable def ZGy : Option (List w5_Z) := w5_X k x 9 #[n1,y1,y1,y1,n1,y1,y1,n1,n1,n1,n1,n1,y1,n1,n1] [(13, P0 5), (26, Zg x), (27, L0 4), (31, L0 6)] [Ze x, Zf x, Zd x, Zp x, Zl, Zh x]
theorem ZMo : ZGy k x = joinL (Option.bind (Zi k x.2.2.2.2.2.2.2.1) fun z187 => w5_H x z187 (w5_G k x z187)) (Option.bind (Zi k x.2.2.2.2.2.2.2.1) fun z189 => ZGE k x z189) := by kernel_rfl
theorem ZNv : ZGy k x = repl 3 (Zb k x) := by
 rw [ZMo]
 simp only [ZLJ, w5_G, w5_H, Za, Z7, Zb, Z5, Z6, Z2, Z3, Z4, Z1, if_true]
noncomputable def ZGV : Option (List w5_Z) := w5_X k x 10 #[n1,y1,y1,y1,n1,y1,n1,n1,n1,n1,n1,n1,y1,n1,n1] [(13, P0 5), (26, Zg x), (27, L0 4)] [Ze x, Zf x, Zd x, Zp x, Zl]
theorem ZNm : ZGV k x = joinL (w5_6 k x) (joinL (Option.bind (Zi k x.2.2.2.2.2.2.2.1) fun z181 => ZH1 k x z181) (ZGy k x)) := by kernel_rfl
theorem ZMr : ZGV k x = repl 8 (Zb k x) := by
 rw [ZNm]
 simp only [ZIW, ZMW, ZNv, w5_G, w5_H, Za, Z7, Zb, Z5, Z6, Z2, Z3, Z4, Z1, if_true]
noncomputable def ZGD : Option (List w5_Z) := w5_X k x 11 #[n1,y1,y1,y1,n1,y1,n1,n1,n1,n1,n1,n1,n1,n1,n1] [(26, Zg x), (27, L0 4)] [Ze x, Zf x, Zd x, Zp x]
theorem ZMN : ZGD k x = joinL (w5_7 k x) (joinL (Option.bind (Zi k x.2.2.2.2.2.2.2.1) fun z151 => ZH5 k x z151) (joinL (ZHn k x) (ZGV k x))) := by kernel_rfl
theorem ZMn : ZGD k x = repl 48 (Zb k x) := by
 rw [ZMN]
 simp only [ZIQ, ZM1, ZN1, ZMr, w5_G, w5_H, Za, Z7, Zb, Z5, Z6, Z2, Z3, Z4, Z1, if_true]
noncomputable def ZGm (z199 : List Int) : Option (List w5_Z) := w5_X k x 8 #[n1,y1,y1,y1,y1,y1,y1,y1,n1,n1,n1,n1,n1,n1,n1] [(26, Zg x), (27, L0 5), (29, L0 4), (31, L0 6), (32, L0 7)] [Ze x, Zf x, Zd x, Ob.dead, Zp x, Zh x, Ob.row true 3 T1 (z199 ++ [x.2.2.2.2.2.2.2.2.1])]
theorem ZMG (z199 : List Int) : ZGm k x z199 = joinL (w5_8 k x z199) (w5_G k x z199) := by kernel_rfl
theorem ZLP (z199 : List Int) : ZGm k x z199 = repl 3 (Za k x z199) := by
 rw [ZMG]
 simp only [ZIN, w5_G, w5_H, Za, Z7, Zb, Z5, Z6, Z2, Z3, Z4, Z1, if_true]
noncomputable def ZHg (z199 : List Int) : Option (List w5_Z) := w5_X k x 8 #[n1,y1,y1,y1,y1,y1,y1,n1,n1,n1,n1,n1,y1,n1,n1] [(13, P0 7), (26, Zg x), (27, L0 5), (29, L0 4), (31, L0 6)] [Ze x, Zf x, Zd x, Ob.row true 3 T1 z199, Zp x, Zh x, Zl]
theorem ZMz (z199 : List Int) : ZHg k x z199 = joinL (w5_H x z199 (w5_G k x z199)) (w5_H x z199 (w5_G k x z199)) := by kernel_rfl
theorem ZMS (z199 : List Int) : ZHg k x z199 = repl 2 (Z7 k x z199) := by
 rw [ZMz]
 simp only [w5_G, w5_H, Za, Z7, Zb, Z5, Z6, Z2, Z3, Z4, Z1, if_true]
noncomputable def ZGC (z199 : List Int) : Option (List w5_Z) := w5_X k x 9 #[n1,y1,y1,y1,y1,y1,y1,n1,n1,n1,n1,n1,n1,n1,n1] [(26, Zg x), (27, L0 5), (29, L0 4), (31, L0 6)] [Ze x, Zf x, Zd x, Ob.row true 3 T1 z199, Zp x, Zh x]
theorem ZNo (z199 : List Int) : ZGC k x z199 = joinL (w5_9 k x z199) (joinL (w5_H x z199 (ZGm k x z199)) (ZHg k x z199)) := by kernel_rfl
theorem ZLX (z199 : List Int) : ZGC k x z199 = repl 8 (Z7 k x z199) := by
 rw [ZNo]
 simp only [ZIP, ZLP, ZMS, w5_G, w5_H, Za, Z7, Zb, Z5, Z6, Z2, Z3, Z4, Z1, if_true]
noncomputable def ZGR (z199 : List Int) : Option (List w5_Z) := w5_X k x 8 #[n1,y1,y1,y1,y1,y1,y1,n1,n1,n1,n1,n1,y1,n1,n1] [(13, P0 6), (26, Zg x), (27, L0 5), (29, L0 4), (31, L0 7)] [Ze x, Zf x, Zd x, Ob.row true 3 T1 z199, Zp x, Zl, Zh x]
theorem ZLV (z199 : List Int) : ZGR k x z199 = joinL (w5_H x z199 (w5_G k x z199)) (w5_H x z199 (w5_G k x z199)) := by kernel_rfl
theorem ZN6 (z199 : List Int) : ZGR k x z199 = repl 2 (Z7 k x z199) := by
 rw [ZLV]
 simp only [w5_G, w5_H, Za, Z7, Zb, Z5, Z6, Z2, Z3, Z4, Z1, if_true]
noncomputable def ZGW (z199 : List Int) : Option (List w5_Z) := w5_X k x 9 #[n1,y1,y1,y1,y1,y1,n1,n1,n1,n1,n1,n1,y1,n1,n1] [(13, P0 6), (26, Zg x), (27, L0 5), (29, L0 4)] [Ze x, Zf x, Zd x, Ob.row true 3 T1 z199, Zp x, Zl]
theorem ZMh (z199 : List Int) : ZGW k x z199 = joinL (w5_H x z199 (w5_G k x z199)) (ZGR k x z199) := by kernel_rfl
theorem ZNg (z199 : List Int) : ZGW k x z199 = repl 3 (Z7 k x z199) := by
 rw [ZMh]
 simp only [ZN6, w5_G, w5_H, Za, Z7, Zb, Z5, Z6, Z2, Z3, Z4, Z1, if_true]
noncomputable def ZGx (z199 : List Int) : Option (List w5_Z) := w5_X k x 10 #[n1,y1,y1,y1,y1,y1,n1,n1,n1,n1,n1,n1,n1,n1,n1] [(26, Zg x), (27, L0 5), (29, L0 4)] [Ze x, Zf x, Zd x, Ob.row true 3 T1 z199, Zp x]
theorem ZNW (z199 : List Int) : ZGx k x z199 = joinL (ZC0 k x z199) (joinL (ZGC k x z199) (ZGW k x z199)) := by kernel_rfl
theorem ZNT (z199 : List Int) : ZGx k x z199 = repl 15 (Z7 k x z199) := by
 rw [ZNW]
 simp only [ZHt, ZLX, ZNg, w5_G, w5_H, Za, Z7, Zb, Z5, Z6, Z2, Z3, Z4, Z1, if_true]
noncomputable def ZGz (z199 : List Int) : Option (List w5_Z) := w5_X k x 8 #[n1,y1,y1,y1,y1,y1,y1,y1,n1,n1,n1,n1,n1,n1,n1] [(26, Zg x), (27, L0 6), (29, L0 4), (31, L0 5), (32, L0 7)] [Ze x, Zf x, Zd x, Ob.dead, Zh x, Zp x, Ob.row true 3 T1 (z199 ++ [x.2.2.2.2.2.2.2.2.1])]
theorem ZLY (z199 : List Int) : ZGz k x z199 = joinL (ZC5 k x z199) (w5_G k x z199) := by kernel_rfl
theorem ZMj (z199 : List Int) : ZGz k x z199 = repl 3 (Za k x z199) := by
 rw [ZLY]
 simp only [ZHY, w5_G, w5_H, Za, Z7, Zb, Z5, Z6, Z2, Z3, Z4, Z1, if_true]
noncomputable def ZH3 (z199 : List Int) : Option (List w5_Z) := w5_X k x 8 #[n1,y1,y1,y1,y1,y1,y1,n1,n1,n1,n1,n1,y1,n1,n1] [(13, P0 7), (26, Zg x), (27, L0 6), (29, L0 4), (31, L0 5)] [Ze x, Zf x, Zd x, Ob.row true 3 T1 z199, Zh x, Zp x, Zl]
theorem ZLS (z199 : List Int) : ZH3 k x z199 = joinL (w5_H x z199 (w5_G k x z199)) (w5_H x z199 (w5_G k x z199)) := by kernel_rfl
theorem ZNi (z199 : List Int) : ZH3 k x z199 = repl 2 (Z7 k x z199) := by
 rw [ZLS]
 simp only [w5_G, w5_H, Za, Z7, Zb, Z5, Z6, Z2, Z3, Z4, Z1, if_true]
noncomputable def ZH6 (z199 : List Int) : Option (List w5_Z) := w5_X k x 9 #[n1,y1,y1,y1,y1,y1,y1,n1,n1,n1,n1,n1,n1,n1,n1] [(26, Zg x), (27, L0 6), (29, L0 4), (31, L0 5)] [Ze x, Zf x, Zd x, Ob.row true 3 T1 z199, Zh x, Zp x]
theorem ZLH (z199 : List Int) : ZH6 k x z199 = joinL (ZBP k x z199) (joinL (w5_H x z199 (ZGz k x z199)) (ZH3 k x z199)) := by kernel_rfl
theorem ZMx (z199 : List Int) : ZH6 k x z199 = repl 8 (Z7 k x z199) := by
 rw [ZLH]
 simp only [ZIp, ZMj, ZNi, w5_G, w5_H, Za, Z7, Zb, Z5, Z6, Z2, Z3, Z4, Z1, if_true]
noncomputable def ZH2 (z199 : List Int) : Option (List w5_Z) := w5_X k x 8 #[n1,y1,y1,y1,y1,y1,y1,y1,n1,n1,n1,n1,n1,n1,n1] [(26, Zg x), (27, L0 7), (29, L0 4), (31, L0 5), (32, L0 6)] [Ze x, Zf x, Zd x, Ob.dead, Zh x, Ob.row true 3 T1 (z199 ++ [x.2.2.2.2.2.2.2.2.1]), Zp x]
theorem ZNu (z199 : List Int) : ZH2 k x z199 = joinL (ZBV k x z199) (w5_G k x z199) := by kernel_rfl
theorem ZN2 (z199 : List Int) : ZH2 k x z199 = repl 3 (Za k x z199) := by
 rw [ZNu]
 simp only [ZId, w5_G, w5_H, Za, Z7, Zb, Z5, Z6, Z2, Z3, Z4, Z1, if_true]
noncomputable def ZC7 (z199 : List Int) : Option (List w5_Z) := w5_X k x 8 #[n1,y1,n1,y1,y1,y1,y1,y1,n1,n1,n1,n1,y1,n1,n1] [(13, P0 7), (26, Zg x), (29, L0 4), (31, L0 5), (32, L0 6)] [Ze x, Zf x, Zd x, Ob.dead, Zh x, Ob.row true 3 T1 (z199 ++ [x.2.2.2.2.2.2.2.2.1]), Zl]
theorem ZNl (z199 : List Int) : ZC7 k x z199 = joinL (w5_G k x z199) (w5_G k x z199) := by kernel_rfl
theorem ZHU (z199 : List Int) : ZC7 k x z199 = repl 2 (Za k x z199) := by
 rw [ZNl]
 simp only [w5_G, w5_H, Za, Z7, Zb, Z5, Z6, Z2, Z3, Z4, Z1, if_true]
noncomputable def ZCd (z199 : List Int) : Option (List w5_Z) := w5_X k x 9 #[n1,y1,n1,y1,y1,y1,y1,y1,n1,n1,n1,n1,n1,n1,n1] [(26, Zg x), (29, L0 4), (31, L0 5), (32, L0 6)] [Ze x, Zf x, Zd x, Ob.dead, Zh x, Ob.row true 3 T1 (z199 ++ [x.2.2.2.2.2.2.2.2.1])]
theorem ZLR (z199 : List Int) : ZCd k x z199 = joinL (Zym k x z199) (joinL (ZH2 k x z199) (ZC7 k x z199)) := by kernel_rfl
theorem ZIm (z199 : List Int) : ZCd k x z199 = repl 8 (Za k x z199) := by
 rw [ZLR]
 simp only [ZDi, ZN2, ZHU, w5_G, w5_H, Za, Z7, Zb, Z5, Z6, Z2, Z3, Z4, Z1, if_true]
noncomputable def ZHh (z199 : List Int) : Option (List w5_Z) := w5_X k x 8 #[n1,y1,y1,y1,y1,y1,y1,n1,n1,n1,n1,n1,y1,n1,n1] [(13, P0 6), (26, Zg x), (27, L0 7), (29, L0 4), (31, L0 5)] [Ze x, Zf x, Zd x, Ob.row true 3 T1 z199, Zh x, Zl, Zp x]
theorem ZLQ (z199 : List Int) : ZHh k x z199 = joinL (w5_H x z199 (w5_G k x z199)) (w5_H x z199 (w5_G k x z199)) := by kernel_rfl
theorem ZMI (z199 : List Int) : ZHh k x z199 = repl 2 (Z7 k x z199) := by
 rw [ZLQ]
 simp only [w5_G, w5_H, Za, Z7, Zb, Z5, Z6, Z2, Z3, Z4, Z1, if_true]
noncomputable def ZCf (z199 : List Int) : Option (List w5_Z) := w5_X k x 8 #[n1,y1,n1,y1,y1,y1,y1,y1,n1,n1,n1,n1,y1,n1,n1] [(13, P0 6), (26, Zg x), (29, L0 4), (31, L0 5), (32, L0 7)] [Ze x, Zf x, Zd x, Ob.dead, Zh x, Zl, Ob.row true 3 T1 (z199 ++ [x.2.2.2.2.2.2.2.2.1])]
theorem ZMF (z199 : List Int) : ZCf k x z199 = joinL (w5_G k x z199) (w5_G k x z199) := by kernel_rfl
theorem ZHs (z199 : List Int) : ZCf k x z199 = repl 2 (Za k x z199) := by
 rw [ZMF]
 simp only [w5_G, w5_H, Za, Z7, Zb, Z5, Z6, Z2, Z3, Z4, Z1, if_true]
noncomputable def ZCa (z199 : List Int) : Option (List w5_Z) := w5_X k x 9 #[n1,y1,n1,y1,y1,y1,y1,n1,n1,n1,n1,n1,y1,n1,n1] [(13, P0 6), (26, Zg x), (29, L0 4), (31, L0 5)] [Ze x, Zf x, Zd x, Ob.row true 3 T1 z199, Zh x, Zl]
theorem ZMy (z199 : List Int) : ZCa k x z199 = joinL (Zz8 k x z199) (joinL (ZHh k x z199) (w5_H x z199 (ZCf k x z199))) := by kernel_rfl
theorem ZIg (z199 : List Int) : ZCa k x z199 = repl 6 (Z7 k x z199) := by
 rw [ZMy]
 simp only [ZCz, ZMI, ZHs, w5_G, w5_H, Za, Z7, Zb, Z5, Z6, Z2, Z3, Z4, Z1, if_true]
noncomputable def ZBW (z199 : List Int) : Option (List w5_Z) := w5_X k x 10 #[n1,y1,n1,y1,y1,y1,y1,n1,n1,n1,n1,n1,n1,n1,n1] [(26, Zg x), (29, L0 4), (31, L0 5)] [Ze x, Zf x, Zd x, Ob.row true 3 T1 z199, Zh x]
theorem ZLO (z199 : List Int) : ZBW k x z199 = joinL (Zzi k x z199) (joinL (ZH6 k x z199) (joinL (w5_H x z199 (ZCd k x z199)) (ZCa k x z199))) := by kernel_rfl
theorem ZI2 (z199 : List Int) : ZBW k x z199 = repl 30 (Z7 k x z199) := by
 rw [ZLO]
 simp only [ZEN, ZMx, ZIm, ZIg, w5_G, w5_H, Za, Z7, Zb, Z5, Z6, Z2, Z3, Z4, Z1, if_true]
noncomputable def ZGJ (z199 : List Int) : Option (List w5_Z) := w5_X k x 8 #[n1,y1,y1,y1,y1,y1,y1,n1,n1,n1,n1,n1,y1,n1,n1] [(13, P0 5), (26, Zg x), (27, L0 6), (29, L0 4), (31, L0 7)] [Ze x, Zf x, Zd x, Ob.row true 3 T1 z199, Zl, Zp x, Zh x]
theorem ZLW (z199 : List Int) : ZGJ k x z199 = joinL (w5_H x z199 (w5_G k x z199)) (w5_H x z199 (w5_G k x z199)) := by kernel_rfl
theorem ZMX (z199 : List Int) : ZGJ k x z199 = repl 2 (Z7 k x z199) := by
 rw [ZLW]
 simp only [w5_G, w5_H, Za, Z7, Zb, Z5, Z6, Z2, Z3, Z4, Z1, if_true]
noncomputable def ZGF (z199 : List Int) : Option (List w5_Z) := w5_X k x 9 #[n1,y1,y1,y1,y1,y1,n1,n1,n1,n1,n1,n1,y1,n1,n1] [(13, P0 5), (26, Zg x), (27, L0 6), (29, L0 4)] [Ze x, Zf x, Zd x, Ob.row true 3 T1 z199, Zl, Zp x]
theorem ZNG (z199 : List Int) : ZGF k x z199 = joinL (w5_H x z199 (w5_G k x z199)) (ZGJ k x z199) := by kernel_rfl
theorem ZMC (z199 : List Int) : ZGF k x z199 = repl 3 (Z7 k x z199) := by
 rw [ZNG]
 simp only [ZMX, w5_G, w5_H, Za, Z7, Zb, Z5, Z6, Z2, Z3, Z4, Z1, if_true]
noncomputable def ZGX (z199 : List Int) : Option (List w5_Z) := w5_X k x 8 #[n1,y1,y1,y1,y1,y1,y1,n1,n1,n1,n1,n1,y1,n1,n1] [(13, P0 5), (26, Zg x), (27, L0 7), (29, L0 4), (31, L0 6)] [Ze x, Zf x, Zd x, Ob.row true 3 T1 z199, Zl, Zh x, Zp x]
theorem ZM5 (z199 : List Int) : ZGX k x z199 = joinL (w5_H x z199 (w5_G k x z199)) (w5_H x z199 (w5_G k x z199)) := by kernel_rfl
theorem ZNY (z199 : List Int) : ZGX k x z199 = repl 2 (Z7 k x z199) := by
 rw [ZM5]
 simp only [w5_G, w5_H, Za, Z7, Zb, Z5, Z6, Z2, Z3, Z4, Z1, if_true]
noncomputable def ZC6 (z199 : List Int) : Option (List w5_Z) := w5_X k x 8 #[n1,y1,n1,y1,y1,y1,y1,y1,n1,n1,n1,n1,y1,n1,n1] [(13, P0 5), (26, Zg x), (29, L0 4), (31, L0 6), (32, L0 7)] [Ze x, Zf x, Zd x, Ob.dead, Zl, Zh x, Ob.row true 3 T1 (z199 ++ [x.2.2.2.2.2.2.2.2.1])]
theorem ZMs (z199 : List Int) : ZC6 k x z199 = joinL (w5_G k x z199) (w5_G k x z199) := by kernel_rfl
theorem ZIl (z199 : List Int) : ZC6 k x z199 = repl 2 (Za k x z199) := by
 rw [ZMs]
 simp only [w5_G, w5_H, Za, Z7, Zb, Z5, Z6, Z2, Z3, Z4, Z1, if_true]
noncomputable def ZCl (z199 : List Int) : Option (List w5_Z) := w5_X k x 9 #[n1,y1,n1,y1,y1,y1,y1,n1,n1,n1,n1,n1,y1,n1,n1] [(13, P0 5), (26, Zg x), (29, L0 4), (31, L0 6)] [Ze x, Zf x, Zd x, Ob.row true 3 T1 z199, Zl, Zh x]
theorem ZN0 (z199 : List Int) : ZCl k x z199 = joinL (ZyY k x z199) (joinL (ZGX k x z199) (w5_H x z199 (ZC6 k x z199))) := by kernel_rfl
theorem ZIq (z199 : List Int) : ZCl k x z199 = repl 6 (Z7 k x z199) := by
 rw [ZN0]
 simp only [ZCW, ZNY, ZIl, w5_G, w5_H, Za, Z7, Zb, Z5, Z6, Z2, Z3, Z4, Z1, if_true]
noncomputable def ZBY (z199 : List Int) : Option (List w5_Z) := w5_X k x 10 #[n1,y1,n1,y1,y1,y1,n1,n1,n1,n1,n1,n1,y1,n1,n1] [(13, P0 5), (26, Zg x), (29, L0 4)] [Ze x, Zf x, Zd x, Ob.row true 3 T1 z199, Zl]
theorem ZNE (z199 : List Int) : ZBY k x z199 = joinL (Zxw k x z199) (joinL (ZGF k x z199) (ZCl k x z199)) := by kernel_rfl
theorem ZHN (z199 : List Int) : ZBY k x z199 = repl 12 (Z7 k x z199) := by
 rw [ZNE]
 simp only [ZCX, ZMC, ZIq, w5_G, w5_H, Za, Z7, Zb, Z5, Z6, Z2, Z3, Z4, Z1, if_true]
noncomputable def ZBX (z199 : List Int) : Option (List w5_Z) := w5_X k x 11 #[n1,y1,n1,y1,y1,y1,n1,n1,n1,n1,n1,n1,n1,n1,n1] [(26, Zg x), (29, L0 4)] [Ze x, Zf x, Zd x, Ob.row true 3 T1 z199]
theorem ZM0 (z199 : List Int) : ZBX k x z199 = joinL (Zxr k x z199) (joinL (ZGx k x z199) (joinL (ZBW k x z199) (ZBY k x z199))) := by kernel_rfl
theorem ZI4 (z199 : List Int) : ZBX k x z199 = repl 72 (Z7 k x z199) := by
 rw [ZM0]
 simp only [ZDt, ZNT, ZI2, ZHN, w5_G, w5_H, Za, Z7, Zb, Z5, Z6, Z2, Z3, Z4, Z1, if_true]
noncomputable def ZGQ (z246 : List Int) : Option (List w5_Z) := w5_X k x 8 #[n1,y1,y1,y1,y1,y1,y1,y1,n1,n1,n1,n1,n1,n1,n1] [(26, Zg x), (27, L0 5), (29, L0 6), (31, L0 4), (32, L0 7)] [Ze x, Zf x, Zd x, Zh x, Zp x, Ob.dead, Ob.row true 3 T1 (z246 ++ [x.2.2.2.2.2.2.2.2.1])]
theorem ZM6 (z246 : List Int) : ZGQ k x z246 = joinL (ZC1 k x z246) (w5_G k x z246) := by kernel_rfl
theorem ZM9 (z246 : List Int) : ZGQ k x z246 = repl 3 (Za k x z246) := by
 rw [ZM6]
 simp only [ZHK, w5_G, w5_H, Za, Z7, Zb, Z5, Z6, Z2, Z3, Z4, Z1, if_true]
noncomputable def ZGP (z246 : List Int) : Option (List w5_Z) := w5_X k x 8 #[n1,y1,y1,y1,y1,y1,y1,n1,n1,n1,n1,n1,y1,n1,n1] [(13, P0 7), (26, Zg x), (27, L0 5), (29, L0 6), (31, L0 4)] [Ze x, Zf x, Zd x, Zh x, Zp x, Ob.row true 3 T1 z246, Zl]
theorem ZME (z246 : List Int) : ZGP k x z246 = joinL (w5_H x z246 (w5_G k x z246)) (w5_H x z246 (w5_G k x z246)) := by kernel_rfl
theorem ZNK (z246 : List Int) : ZGP k x z246 = repl 2 (Z7 k x z246) := by
 rw [ZME]
 simp only [w5_G, w5_H, Za, Z7, Zb, Z5, Z6, Z2, Z3, Z4, Z1, if_true]
noncomputable def ZEm (z246 : List Int) : Option (List w5_Z) := w5_X k x 9 #[n1,y1,y1,y1,y1,y1,y1,n1,n1,n1,n1,n1,n1,n1,n1] [(26, Zg x), (27, L0 5), (29, L0 6), (31, L0 4)] [Ze x, Zf x, Zd x, Zh x, Zp x, Ob.row true 3 T1 z246]
theorem ZLF (z246 : List Int) : ZEm k x z246 = joinL (ZBQ k x z246) (joinL (w5_H x z246 (ZGQ k x z246)) (ZGP k x z246)) := by kernel_rfl
theorem ZKG (z246 : List Int) : ZEm k x z246 = repl 8 (Z7 k x z246) := by
 rw [ZLF]
 simp only [ZIb, ZM9, ZNK, w5_G, w5_H, Za, Z7, Zb, Z5, Z6, Z2, Z3, Z4, Z1, if_true]
noncomputable def ZEA (z255 : List Int) : Option (List w5_Z) := w5_X k x 8 #[n1,y1,y1,y1,y1,y1,y1,n1,n1,n1,n1,n1,y1,n1,n1] [(13, P0 6), (26, Zg x), (27, L0 5), (29, L0 7), (31, L0 4)] [Ze x, Zf x, Zd x, Zh x, Zp x, Zl, Ob.row true 3 T1 z255]
theorem ZKP (z255 : List Int) : ZEA k x z255 = joinL (w5_H x z255 (w5_G k x z255)) (w5_H x z255 (w5_G k x z255)) := by kernel_rfl
theorem ZKY (z255 : List Int) : ZEA k x z255 = repl 2 (Z7 k x z255) := by
 rw [ZKP]
 simp only [w5_G, w5_H, Za, Z7, Zb, Z5, Z6, Z2, Z3, Z4, Z1, if_true]
noncomputable def ZCT : Option (List w5_Z) := w5_X k x 9 #[n1,y1,y1,y1,n1,y1,y1,n1,n1,n1,n1,n1,y1,n1,n1] [(13, P0 6), (26, Zg x), (27, L0 5), (31, L0 4)] [Ze x, Zf x, Zd x, Zh x, Zp x, Zl]
theorem ZJ4 : ZCT k x = joinL (Option.bind (Zi k x.2.2.2.2.2.2.2.1) fun z253 => w5_H x z253 (w5_G k x z253)) (Option.bind (Zi k x.2.2.2.2.2.2.2.1) fun z255 => ZEA k x z255) := by kernel_rfl
theorem ZK8 : ZCT k x = repl 3 (Zb k x) := by
 rw [ZJ4]
 simp only [ZKY, w5_G, w5_H, Za, Z7, Zb, Z5, Z6, Z2, Z3, Z4, Z1, if_true]
noncomputable def ZDA : Option (List w5_Z) := w5_X k x 10 #[n1,y1,y1,y1,n1,y1,y1,n1,n1,n1,n1,n1,n1,n1,n1] [(26, Zg x), (27, L0 5), (31, L0 4)] [Ze x, Zf x, Zd x, Zh x, Zp x]
theorem ZLl : ZDA k x = joinL (ZCe k x) (joinL (Option.bind (Zi k x.2.2.2.2.2.2.2.1) fun z246 => ZEm k x z246) (ZCT k x)) := by kernel_rfl
theorem ZL7 : ZDA k x = repl 15 (Zb k x) := by
 rw [ZLl]
 simp only [ZI6, ZKG, ZK8, w5_G, w5_H, Za, Z7, Zb, Z5, Z6, Z2, Z3, Z4, Z1, if_true]
noncomputable def ZEk (z263 : List Int) : Option (List w5_Z) := w5_X k x 8 #[n1,y1,y1,y1,y1,y1,y1,y1,n1,n1,n1,n1,n1,n1,n1] [(26, Zg x), (27, L0 6), (29, L0 5), (31, L0 4), (32, L0 7)] [Ze x, Zf x, Zd x, Zh x, Ob.dead, Zp x, Ob.row true 3 T1 (z263 ++ [x.2.2.2.2.2.2.2.2.1])]
theorem ZJt (z263 : List Int) : ZEk k x z263 = joinL (ZCg k x z263) (w5_G k x z263) := by kernel_rfl
theorem ZK3 (z263 : List Int) : ZEk k x z263 = repl 3 (Za k x z263) := by
 rw [ZJt]
 simp only [ZHJ, w5_G, w5_H, Za, Z7, Zb, Z5, Z6, Z2, Z3, Z4, Z1, if_true]
noncomputable def ZCv (z263 : List Int) : Option (List w5_Z) := w5_X k x 8 #[n1,y1,y1,y1,y1,y1,y1,n1,n1,n1,n1,n1,y1,n1,n1] [(13, P0 7), (26, Zg x), (27, L0 6), (29, L0 5), (31, L0 4)] [Ze x, Zf x, Zd x, Zh x, Ob.row true 3 T1 z263, Zp x, Zl]
theorem ZJZ (z263 : List Int) : ZCv k x z263 = joinL (w5_H x z263 (w5_G k x z263)) (w5_H x z263 (w5_G k x z263)) := by kernel_rfl
theorem ZLy (z263 : List Int) : ZCv k x z263 = repl 2 (Z7 k x z263) := by
 rw [ZJZ]
 simp only [w5_G, w5_H, Za, Z7, Zb, Z5, Z6, Z2, Z3, Z4, Z1, if_true]
noncomputable def ZCx (z263 : List Int) : Option (List w5_Z) := w5_X k x 9 #[n1,y1,y1,y1,y1,y1,y1,n1,n1,n1,n1,n1,n1,n1,n1] [(26, Zg x), (27, L0 6), (29, L0 5), (31, L0 4)] [Ze x, Zf x, Zd x, Zh x, Ob.row true 3 T1 z263, Zp x]
theorem ZK7 (z263 : List Int) : ZCx k x z263 = joinL (ZCt k x z263) (joinL (w5_H x z263 (ZEk k x z263)) (ZCv k x z263)) := by kernel_rfl
theorem ZJf (z263 : List Int) : ZCx k x z263 = repl 8 (Z7 k x z263) := by
 rw [ZK7]
 simp only [ZIe, ZK3, ZLy, w5_G, w5_H, Za, Z7, Zb, Z5, Z6, Z2, Z3, Z4, Z1, if_true]
noncomputable def ZE5 (z263 : List Int) : Option (List w5_Z) := w5_X k x 8 #[n1,y1,y1,y1,y1,y1,y1,y1,n1,n1,n1,n1,n1,n1,n1] [(26, Zg x), (27, L0 7), (29, L0 5), (31, L0 4), (32, L0 6)] [Ze x, Zf x, Zd x, Zh x, Ob.dead, Ob.row true 3 T1 (z263 ++ [x.2.2.2.2.2.2.2.2.1]), Zp x]
theorem ZJO (z263 : List Int) : ZE5 k x z263 = joinL (ZCh k x z263) (w5_G k x z263) := by kernel_rfl
theorem ZLE (z263 : List Int) : ZE5 k x z263 = repl 3 (Za k x z263) := by
 rw [ZJO]
 simp only [ZIr, w5_G, w5_H, Za, Z7, Zb, Z5, Z6, Z2, Z3, Z4, Z1, if_true]
noncomputable def Zxt (z263 : List Int) : Option (List w5_Z) := w5_X k x 8 #[n1,y1,n1,y1,y1,y1,y1,y1,n1,n1,n1,n1,y1,n1,n1] [(13, P0 7), (26, Zg x), (29, L0 5), (31, L0 4), (32, L0 6)] [Ze x, Zf x, Zd x, Zh x, Ob.dead, Ob.row true 3 T1 (z263 ++ [x.2.2.2.2.2.2.2.2.1]), Zl]
theorem ZKM (z263 : List Int) : Zxt k x z263 = joinL (w5_G k x z263) (w5_G k x z263) := by kernel_rfl
theorem ZFE (z263 : List Int) : Zxt k x z263 = repl 2 (Za k x z263) := by
 rw [ZKM]
 simp only [w5_G, w5_H, Za, Z7, Zb, Z5, Z6, Z2, Z3, Z4, Z1, if_true]
noncomputable def ZxR (z263 : List Int) : Option (List w5_Z) := w5_X k x 9 #[n1,y1,n1,y1,y1,y1,y1,y1,n1,n1,n1,n1,n1,n1,n1] [(26, Zg x), (29, L0 5), (31, L0 4), (32, L0 6)] [Ze x, Zf x, Zd x, Zh x, Ob.dead, Ob.row true 3 T1 (z263 ++ [x.2.2.2.2.2.2.2.2.1])]
theorem ZKN (z263 : List Int) : ZxR k x z263 = joinL (ZyS k x z263) (joinL (ZE5 k x z263) (Zxt k x z263)) := by kernel_rfl
theorem ZFH (z263 : List Int) : ZxR k x z263 = repl 8 (Za k x z263) := by
 rw [ZKN]
 simp only [ZDx, ZLE, ZFE, w5_G, w5_H, Za, Z7, Zb, Z5, Z6, Z2, Z3, Z4, Z1, if_true]
noncomputable def ZEp (z263 : List Int) : Option (List w5_Z) := w5_X k x 8 #[n1,y1,y1,y1,y1,y1,y1,n1,n1,n1,n1,n1,y1,n1,n1] [(13, P0 6), (26, Zg x), (27, L0 7), (29, L0 5), (31, L0 4)] [Ze x, Zf x, Zd x, Zh x, Ob.row true 3 T1 z263, Zl, Zp x]
theorem ZJG (z263 : List Int) : ZEp k x z263 = joinL (w5_H x z263 (w5_G k x z263)) (w5_H x z263 (w5_G k x z263)) := by kernel_rfl
theorem ZKB (z263 : List Int) : ZEp k x z263 = repl 2 (Z7 k x z263) := by
 rw [ZJG]
 simp only [w5_G, w5_H, Za, Z7, Zb, Z5, Z6, Z2, Z3, Z4, Z1, if_true]
noncomputable def Zxn (z263 : List Int) : Option (List w5_Z) := w5_X k x 8 #[n1,y1,n1,y1,y1,y1,y1,y1,n1,n1,n1,n1,y1,n1,n1] [(13, P0 6), (26, Zg x), (29, L0 5), (31, L0 4), (32, L0 7)] [Ze x, Zf x, Zd x, Zh x, Ob.dead, Zl, Ob.row true 3 T1 (z263 ++ [x.2.2.2.2.2.2.2.2.1])]
theorem ZJ3 (z263 : List Int) : Zxn k x z263 = joinL (w5_G k x z263) (w5_G k x z263) := by kernel_rfl
theorem ZFW (z263 : List Int) : Zxn k x z263 = repl 2 (Za k x z263) := by
 rw [ZJ3]
 simp only [w5_G, w5_H, Za, Z7, Zb, Z5, Z6, Z2, Z3, Z4, Z1, if_true]
noncomputable def Zzk (z263 : List Int) : Option (List w5_Z) := w5_X k x 9 #[n1,y1,n1,y1,y1,y1,y1,n1,n1,n1,n1,n1,y1,n1,n1] [(13, P0 6), (26, Zg x), (29, L0 5), (31, L0 4)] [Ze x, Zf x, Zd x, Zh x, Ob.row true 3 T1 z263, Zl]
theorem ZLs (z263 : List Int) : Zzk k x z263 = joinL (ZyU k x z263) (joinL (ZEp k x z263) (w5_H x z263 (Zxn k x z263))) := by kernel_rfl
theorem ZFL (z263 : List Int) : Zzk k x z263 = repl 6 (Z7 k x z263) := by
 rw [ZLs]
 simp only [ZDE, ZKB, ZFW, w5_G, w5_H, Za, Z7, Zb, Z5, Z6, Z2, Z3, Z4, Z1, if_true]
noncomputable def ZxX (z263 : List Int) : Option (List w5_Z) := w5_X k x 10 #[n1,y1,n1,y1,y1,y1,y1,n1,n1,n1,n1,n1,n1,n1,n1] [(26, Zg x), (29, L0 5), (31, L0 4)] [Ze x, Zf x, Zd x, Zh x, Ob.row true 3 T1 z263]
theorem ZL1 (z263 : List Int) : ZxX k x z263 = joinL (ZxB k x z263) (joinL (ZCx k x z263) (joinL (w5_H x z263 (ZxR k x z263)) (Zzk k x z263))) := by kernel_rfl
theorem ZGc (z263 : List Int) : ZxX k x z263 = repl 30 (Z7 k x z263) := by
 rw [ZL1]
 simp only [ZEh, ZJf, ZFH, ZFL, w5_G, w5_H, Za, Z7, Zb, Z5, Z6, Z2, Z3, Z4, Z1, if_true]
noncomputable def ZDY (z286 : List Int) : Option (List w5_Z) := w5_X k x 8 #[n1,y1,y1,y1,y1,y1,y1,n1,n1,n1,n1,n1,y1,n1,n1] [(13, P0 5), (26, Zg x), (27, L0 6), (29, L0 7), (31, L0 4)] [Ze x, Zf x, Zd x, Zh x, Zl, Zp x, Ob.row true 3 T1 z286]
theorem ZJp (z286 : List Int) : ZDY k x z286 = joinL (w5_H x z286 (w5_G k x z286)) (w5_H x z286 (w5_G k x z286)) := by kernel_rfl
theorem ZJ5 (z286 : List Int) : ZDY k x z286 = repl 2 (Z7 k x z286) := by
 rw [ZJp]
 simp only [w5_G, w5_H, Za, Z7, Zb, Z5, Z6, Z2, Z3, Z4, Z1, if_true]
noncomputable def ZCZ : Option (List w5_Z) := w5_X k x 9 #[n1,y1,y1,y1,n1,y1,y1,n1,n1,n1,n1,n1,y1,n1,n1] [(13, P0 5), (26, Zg x), (27, L0 6), (31, L0 4)] [Ze x, Zf x, Zd x, Zh x, Zl, Zp x]
theorem ZJ6 : ZCZ k x = joinL (Option.bind (Zi k x.2.2.2.2.2.2.2.1) fun z284 => w5_H x z284 (w5_G k x z284)) (Option.bind (Zi k x.2.2.2.2.2.2.2.1) fun z286 => ZDY k x z286) := by kernel_rfl
theorem ZLz : ZCZ k x = repl 3 (Zb k x) := by
 rw [ZJ6]
 simp only [ZJ5, w5_G, w5_H, Za, Z7, Zb, Z5, Z6, Z2, Z3, Z4, Z1, if_true]
noncomputable def ZEo (z292 : List Int) : Option (List w5_Z) := w5_X k x 8 #[n1,y1,y1,y1,y1,y1,y1,n1,n1,n1,n1,n1,y1,n1,n1] [(13, P0 5), (26, Zg x), (27, L0 7), (29, L0 6), (31, L0 4)] [Ze x, Zf x, Zd x, Zh x, Zl, Ob.row true 3 T1 z292, Zp x]
theorem ZLx (z292 : List Int) : ZEo k x z292 = joinL (w5_H x z292 (w5_G k x z292)) (w5_H x z292 (w5_G k x z292)) := by kernel_rfl
theorem ZLA (z292 : List Int) : ZEo k x z292 = repl 2 (Z7 k x z292) := by
 rw [ZLx]
 simp only [w5_G, w5_H, Za, Z7, Zb, Z5, Z6, Z2, Z3, Z4, Z1, if_true]
noncomputable def ZxO (z292 : List Int) : Option (List w5_Z) := w5_X k x 8 #[n1,y1,n1,y1,y1,y1,y1,y1,n1,n1,n1,n1,y1,n1,n1] [(13, P0 5), (26, Zg x), (29, L0 6), (31, L0 4), (32, L0 7)] [Ze x, Zf x, Zd x, Zh x, Zl, Ob.dead, Ob.row true 3 T1 (z292 ++ [x.2.2.2.2.2.2.2.2.1])]
theorem ZJr (z292 : List Int) : ZxO k x z292 = joinL (w5_G k x z292) (w5_G k x z292) := by kernel_rfl
theorem ZG9 (z292 : List Int) : ZxO k x z292 = repl 2 (Za k x z292) := by
 rw [ZJr]
 simp only [w5_G, w5_H, Za, Z7, Zb, Z5, Z6, Z2, Z3, Z4, Z1, if_true]
noncomputable def ZxU (z292 : List Int) : Option (List w5_Z) := w5_X k x 9 #[n1,y1,n1,y1,y1,y1,y1,n1,n1,n1,n1,n1,y1,n1,n1] [(13, P0 5), (26, Zg x), (29, L0 6), (31, L0 4)] [Ze x, Zf x, Zd x, Zh x, Zl, Ob.row true 3 T1 z292]
theorem ZJq (z292 : List Int) : ZxU k x z292 = joinL (Zy4 k x z292) (joinL (ZEo k x z292) (w5_H x z292 (ZxO k x z292))) := by kernel_rfl
theorem ZGg (z292 : List Int) : ZxU k x z292 = repl 6 (Z7 k x z292) := by
 rw [ZJq]
 simp only [ZEj, ZLA, ZG9, w5_G, w5_H, Za, Z7, Zb, Z5, Z6, Z2, Z3, Z4, Z1, if_true]
noncomputable def ZxS : Option (List w5_Z) := w5_X k x 10 #[n1,y1,n1,y1,n1,y1,y1,n1,n1,n1,n1,n1,y1,n1,n1] [(13, P0 5), (26, Zg x), (31, L0 4)] [Ze x, Zf x, Zd x, Zh x, Zl]
theorem ZLk : ZxS k x = joinL (Zyg k x) (joinL (ZCZ k x) (Option.bind (Zi k x.2.2.2.2.2.2.2.1) fun z292 => ZxU k x z292)) := by kernel_rfl
theorem ZGe : ZxS k x = repl 12 (Zb k x) := by
 rw [ZLk]
 simp only [ZDg, ZLz, ZGg, w5_G, w5_H, Za, Z7, Zb, Z5, Z6, Z2, Z3, Z4, Z1, if_true]
noncomputable def ZxQ : Option (List w5_Z) := w5_X k x 11 #[n1,y1,n1,y1,n1,y1,y1,n1,n1,n1,n1,n1,n1,n1,n1] [(26, Zg x), (31, L0 4)] [Ze x, Zf x, Zd x, Zh x]
theorem ZJJ : ZxQ k x = joinL (Zyw k x) (joinL (ZDA k x) (joinL (Option.bind (Zi k x.2.2.2.2.2.2.2.1) fun z263 => ZxX k x z263) (ZxS k x))) := by kernel_rfl
theorem ZGi : ZxQ k x = repl 72 (Zb k x) := by
 rw [ZJJ]
 simp only [ZCB, ZL7, ZGc, ZGe, w5_G, w5_H, Za, Z7, Zb, Z5, Z6, Z2, Z3, Z4, Z1, if_true]
noncomputable def ZDy (z304 : List Int) : Option (List w5_Z) := w5_X k x 8 #[n1,y1,y1,y1,y1,y1,y1,n1,n1,n1,n1,n1,y1,n1,n1] [(13, P0 4), (26, Zg x), (27, L0 5), (29, L0 6), (31, L0 7)] [Ze x, Zf x, Zd x, Zl, Zp x, Ob.row true 3 T1 z304, Zh x]
theorem ZKl (z304 : List Int) : ZDy k x z304 = joinL (w5_H x z304 (w5_G k x z304)) (w5_H x z304 (w5_G k x z304)) := by kernel_rfl
theorem ZKf (z304 : List Int) : ZDy k x z304 = repl 2 (Z7 k x z304) := by
 rw [ZKl]
 simp only [w5_G, w5_H, Za, Z7, Zb, Z5, Z6, Z2, Z3, Z4, Z1, if_true]
noncomputable def ZEG (z304 : List Int) : Option (List w5_Z) := w5_X k x 9 #[n1,y1,y1,y1,y1,y1,n1,n1,n1,n1,n1,n1,y1,n1,n1] [(13, P0 4), (26, Zg x), (27, L0 5), (29, L0 6)] [Ze x, Zf x, Zd x, Zl, Zp x, Ob.row true 3 T1 z304]
theorem ZLo (z304 : List Int) : ZEG k x z304 = joinL (w5_H x z304 (w5_G k x z304)) (ZDy k x z304) := by kernel_rfl
theorem ZKO (z304 : List Int) : ZEG k x z304 = repl 3 (Z7 k x z304) := by
 rw [ZLo]
 simp only [ZKf, w5_G, w5_H, Za, Z7, Zb, Z5, Z6, Z2, Z3, Z4, Z1, if_true]
noncomputable def ZD5 (z312 : List Int) : Option (List w5_Z) := w5_X k x 8 #[n1,y1,y1,y1,y1,y1,y1,n1,n1,n1,n1,n1,y1,n1,n1] [(13, P0 4), (26, Zg x), (27, L0 5), (29, L0 7), (31, L0 6)] [Ze x, Zf x, Zd x, Zl, Zp x, Zh x, Ob.row true 3 T1 z312]
theorem ZK0 (z312 : List Int) : ZD5 k x z312 = joinL (w5_H x z312 (w5_G k x z312)) (w5_H x z312 (w5_G k x z312)) := by kernel_rfl
theorem ZKJ (z312 : List Int) : ZD5 k x z312 = repl 2 (Z7 k x z312) := by
 rw [ZK0]
 simp only [w5_G, w5_H, Za, Z7, Zb, Z5, Z6, Z2, Z3, Z4, Z1, if_true]
noncomputable def ZEr : Option (List w5_Z) := w5_X k x 9 #[n1,y1,y1,y1,n1,y1,y1,n1,n1,n1,n1,n1,y1,n1,n1] [(13, P0 4), (26, Zg x), (27, L0 5), (31, L0 6)] [Ze x, Zf x, Zd x, Zl, Zp x, Zh x]
theorem ZJA : ZEr k x = joinL (Option.bind (Zi k x.2.2.2.2.2.2.2.1) fun z310 => w5_H x z310 (w5_G k x z310)) (Option.bind (Zi k x.2.2.2.2.2.2.2.1) fun z312 => ZD5 k x z312) := by kernel_rfl
theorem ZJR : ZEr k x = repl 3 (Zb k x) := by
 rw [ZJA]
 simp only [ZKJ, w5_G, w5_H, Za, Z7, Zb, Z5, Z6, Z2, Z3, Z4, Z1, if_true]
noncomputable def ZER : Option (List w5_Z) := w5_X k x 10 #[n1,y1,y1,y1,n1,y1,n1,n1,n1,n1,n1,n1,y1,n1,n1] [(13, P0 4), (26, Zg x), (27, L0 5)] [Ze x, Zf x, Zd x, Zl, Zp x]
theorem ZKA : ZER k x = joinL (ZC4 k x) (joinL (Option.bind (Zi k x.2.2.2.2.2.2.2.1) fun z304 => ZEG k x z304) (ZEr k x)) := by kernel_rfl
theorem ZKS : ZER k x = repl 8 (Zb k x) := by
 rw [ZKA]
 simp only [ZHP, ZKO, ZJR, w5_G, w5_H, Za, Z7, Zb, Z5, Z6, Z2, Z3, Z4, Z1, if_true]
noncomputable def ZCS (z320 : List Int) : Option (List w5_Z) := w5_X k x 8 #[n1,y1,y1,y1,y1,y1,y1,n1,n1,n1,n1,n1,y1,n1,n1] [(13, P0 4), (26, Zg x), (27, L0 6), (29, L0 5), (31, L0 7)] [Ze x, Zf x, Zd x, Zl, Ob.row true 3 T1 z320, Zp x, Zh x]
theorem ZJW (z320 : List Int) : ZCS k x z320 = joinL (w5_H x z320 (w5_G k x z320)) (w5_H x z320 (w5_G k x z320)) := by kernel_rfl
theorem ZKi (z320 : List Int) : ZCS k x z320 = repl 2 (Z7 k x z320) := by
 rw [ZJW]
 simp only [w5_G, w5_H, Za, Z7, Zb, Z5, Z6, Z2, Z3, Z4, Z1, if_true]
noncomputable def ZCJ (z320 : List Int) : Option (List w5_Z) := w5_X k x 9 #[n1,y1,y1,y1,y1,y1,n1,n1,n1,n1,n1,n1,y1,n1,n1] [(13, P0 4), (26, Zg x), (27, L0 6), (29, L0 5)] [Ze x, Zf x, Zd x, Zl, Ob.row true 3 T1 z320, Zp x]
theorem ZJD (z320 : List Int) : ZCJ k x z320 = joinL (w5_H x z320 (w5_G k x z320)) (ZCS k x z320) := by kernel_rfl
theorem ZKD (z320 : List Int) : ZCJ k x z320 = repl 3 (Z7 k x z320) := by
 rw [ZJD]
 simp only [ZKi, w5_G, w5_H, Za, Z7, Zb, Z5, Z6, Z2, Z3, Z4, Z1, if_true]
noncomputable def ZD4 (z320 : List Int) : Option (List w5_Z) := w5_X k x 8 #[n1,y1,y1,y1,y1,y1,y1,n1,n1,n1,n1,n1,y1,n1,n1] [(13, P0 4), (26, Zg x), (27, L0 7), (29, L0 5), (31, L0 6)] [Ze x, Zf x, Zd x, Zl, Ob.row true 3 T1 z320, Zh x, Zp x]
theorem ZJB (z320 : List Int) : ZD4 k x z320 = joinL (w5_H x z320 (w5_G k x z320)) (w5_H x z320 (w5_G k x z320)) := by kernel_rfl
theorem ZJb (z320 : List Int) : ZD4 k x z320 = repl 2 (Z7 k x z320) := by
 rw [ZJB]
 simp only [w5_G, w5_H, Za, Z7, Zb, Z5, Z6, Z2, Z3, Z4, Z1, if_true]
noncomputable def ZxV (z320 : List Int) : Option (List w5_Z) := w5_X k x 8 #[n1,y1,n1,y1,y1,y1,y1,y1,n1,n1,n1,n1,y1,n1,n1] [(13, P0 4), (26, Zg x), (29, L0 5), (31, L0 6), (32, L0 7)] [Ze x, Zf x, Zd x, Zl, Ob.dead, Zh x, Ob.row true 3 T1 (z320 ++ [x.2.2.2.2.2.2.2.2.1])]
theorem ZJg (z320 : List Int) : ZxV k x z320 = joinL (w5_G k x z320) (w5_G k x z320) := by kernel_rfl
theorem ZFT (z320 : List Int) : ZxV k x z320 = repl 2 (Za k x z320) := by
 rw [ZJg]
 simp only [w5_G, w5_H, Za, Z7, Zb, Z5, Z6, Z2, Z3, Z4, Z1, if_true]
noncomputable def ZxM (z320 : List Int) : Option (List w5_Z) := w5_X k x 9 #[n1,y1,n1,y1,y1,y1,y1,n1,n1,n1,n1,n1,y1,n1,n1] [(13, P0 4), (26, Zg x), (29, L0 5), (31, L0 6)] [Ze x, Zf x, Zd x, Zl, Ob.row true 3 T1 z320, Zh x]
theorem ZKd (z320 : List Int) : ZxM k x z320 = joinL (Zye k x z320) (joinL (ZD4 k x z320) (w5_H x z320 (ZxV k x z320))) := by kernel_rfl
theorem ZG6 (z320 : List Int) : ZxM k x z320 = repl 6 (Z7 k x z320) := by
 rw [ZKd]
 simp only [ZDo, ZJb, ZFT, w5_G, w5_H, Za, Z7, Zb, Z5, Z6, Z2, Z3, Z4, Z1, if_true]
noncomputable def ZxG (z320 : List Int) : Option (List w5_Z) := w5_X k x 10 #[n1,y1,n1,y1,y1,y1,n1,n1,n1,n1,n1,n1,y1,n1,n1] [(13, P0 4), (26, Zg x), (29, L0 5)] [Ze x, Zf x, Zd x, Zl, Ob.row true 3 T1 z320]
theorem ZJT (z320 : List Int) : ZxG k x z320 = joinL (ZyH k x z320) (joinL (ZCJ k x z320) (ZxM k x z320)) := by kernel_rfl
theorem ZGd (z320 : List Int) : ZxG k x z320 = repl 12 (Z7 k x z320) := by
 rw [ZJT]
 simp only [ZCQ, ZKD, ZG6, w5_G, w5_H, Za, Z7, Zb, Z5, Z6, Z2, Z3, Z4, Z1, if_true]
noncomputable def ZCV (z336 : List Int) : Option (List w5_Z) := w5_X k x 8 #[n1,y1,y1,y1,y1,y1,y1,n1,n1,n1,n1,n1,y1,n1,n1] [(13, P0 4), (26, Zg x), (27, L0 6), (29, L0 7), (31, L0 5)] [Ze x, Zf x, Zd x, Zl, Zh x, Zp x, Ob.row true 3 T1 z336]
theorem ZKC (z336 : List Int) : ZCV k x z336 = joinL (w5_H x z336 (w5_G k x z336)) (w5_H x z336 (w5_G k x z336)) := by kernel_rfl
theorem ZJ0 (z336 : List Int) : ZCV k x z336 = repl 2 (Z7 k x z336) := by
 rw [ZKC]
 simp only [w5_G, w5_H, Za, Z7, Zb, Z5, Z6, Z2, Z3, Z4, Z1, if_true]
noncomputable def ZCP : Option (List w5_Z) := w5_X k x 9 #[n1,y1,y1,y1,n1,y1,y1,n1,n1,n1,n1,n1,y1,n1,n1] [(13, P0 4), (26, Zg x), (27, L0 6), (31, L0 5)] [Ze x, Zf x, Zd x, Zl, Zh x, Zp x]
theorem ZKR : ZCP k x = joinL (Option.bind (Zi k x.2.2.2.2.2.2.2.1) fun z334 => w5_H x z334 (w5_G k x z334)) (Option.bind (Zi k x.2.2.2.2.2.2.2.1) fun z336 => ZCV k x z336) := by kernel_rfl
theorem ZLd : ZCP k x = repl 3 (Zb k x) := by
 rw [ZKR]
 simp only [ZJ0, w5_G, w5_H, Za, Z7, Zb, Z5, Z6, Z2, Z3, Z4, Z1, if_true]
noncomputable def ZE6 (z342 : List Int) : Option (List w5_Z) := w5_X k x 8 #[n1,y1,y1,y1,y1,y1,y1,n1,n1,n1,n1,n1,y1,n1,n1] [(13, P0 4), (26, Zg x), (27, L0 7), (29, L0 6), (31, L0 5)] [Ze x, Zf x, Zd x, Zl, Zh x, Ob.row true 3 T1 z342, Zp x]
theorem ZLt (z342 : List Int) : ZE6 k x z342 = joinL (w5_H x z342 (w5_G k x z342)) (w5_H x z342 (w5_G k x z342)) := by kernel_rfl
theorem ZJe (z342 : List Int) : ZE6 k x z342 = repl 2 (Z7 k x z342) := by
 rw [ZLt]
 simp only [w5_G, w5_H, Za, Z7, Zb, Z5, Z6, Z2, Z3, Z4, Z1, if_true]
noncomputable def Zxz (z342 : List Int) : Option (List w5_Z) := w5_X k x 8 #[n1,y1,n1,y1,y1,y1,y1,y1,n1,n1,n1,n1,y1,n1,n1] [(13, P0 4), (26, Zg x), (29, L0 6), (31, L0 5), (32, L0 7)] [Ze x, Zf x, Zd x, Zl, Zh x, Ob.dead, Ob.row true 3 T1 (z342 ++ [x.2.2.2.2.2.2.2.2.1])]
theorem ZKF (z342 : List Int) : Zxz k x z342 = joinL (w5_G k x z342) (w5_G k x z342) := by kernel_rfl
theorem ZFF (z342 : List Int) : Zxz k x z342 = repl 2 (Za k x z342) := by
 rw [ZKF]
 simp only [w5_G, w5_H, Za, Z7, Zb, Z5, Z6, Z2, Z3, Z4, Z1, if_true]
noncomputable def Zyy (z342 : List Int) : Option (List w5_Z) := w5_X k x 9 #[n1,y1,n1,y1,y1,y1,y1,n1,n1,n1,n1,n1,y1,n1,n1] [(13, P0 4), (26, Zg x), (29, L0 6), (31, L0 5)] [Ze x, Zf x, Zd x, Zl, Zh x, Ob.row true 3 T1 z342]
theorem ZL5 (z342 : List Int) : Zyy k x z342 = joinL (ZyR k x z342) (joinL (ZE6 k x z342) (w5_H x z342 (Zxz k x z342))) := by kernel_rfl
theorem ZG4 (z342 : List Int) : Zyy k x z342 = repl 6 (Z7 k x z342) := by
 rw [ZL5]
 simp only [ZEF, ZJe, ZFF, w5_G, w5_H, Za, Z7, Zb, Z5, Z6, Z2, Z3, Z4, Z1, if_true]
noncomputable def Zy2 : Option (List w5_Z) := w5_X k x 10 #[n1,y1,n1,y1,n1,y1,y1,n1,n1,n1,n1,n1,y1,n1,n1] [(13, P0 4), (26, Zg x), (31, L0 5)] [Ze x, Zf x, Zd x, Zl, Zh x]
theorem ZKg : Zy2 k x = joinL (Zyt k x) (joinL (ZCP k x) (Option.bind (Zi k x.2.2.2.2.2.2.2.1) fun z342 => Zyy k x z342)) := by kernel_rfl
theorem ZG5 : Zy2 k x = repl 12 (Zb k x) := by
 rw [ZKg]
 simp only [ZE0, ZLd, ZG4, w5_G, w5_H, Za, Z7, Zb, Z5, Z6, Z2, Z3, Z4, Z1, if_true]
noncomputable def Zyq : Option (List w5_Z) := w5_X k x 11 #[n1,y1,n1,y1,n1,y1,n1,n1,n1,n1,n1,n1,y1,n1,n1] [(13, P0 4), (26, Zg x)] [Ze x, Zf x, Zd x, Zl]
theorem ZJ7 : Zyq k x = joinL (Zz0 k x) (joinL (ZER k x) (joinL (Option.bind (Zi k x.2.2.2.2.2.2.2.1) fun z320 => ZxG k x z320) (Zy2 k x))) := by kernel_rfl
theorem ZFV : Zyq k x = repl 40 (Zb k x) := by
 rw [ZJ7]
 simp only [ZEJ, ZKS, ZGd, ZG5, w5_G, w5_H, Za, Z7, Zb, Z5, Z6, Z2, Z3, Z4, Z1, if_true]
noncomputable def ZEO : Option (List w5_Z) := w5_X k x 12 #[n1,y1,n1,y1,n1,y1,n1,n1,n1,n1,n1,n1,n1,n1,n1] [(26, Zg x)] [Ze x, Zf x, Zd x]
theorem ZLv : ZEO k x = joinL (ZCm k x) (joinL (ZGD k x) (joinL (Option.bind (Zi k x.2.2.2.2.2.2.2.1) fun z199 => ZBX k x z199) (joinL (ZxQ k x) (Zyq k x)))) := by kernel_rfl
theorem ZJ9 : ZEO k x = repl 280 (Zb k x) := by
 rw [ZLv]
 simp only [ZHR, ZMn, ZI4, ZGi, ZFV, w5_G, w5_H, Za, Z7, Zb, Z5, Z6, Z2, Z3, Z4, Z1, if_true]
noncomputable def ZDH (z356 : List Int) : Option (List w5_Z) := w5_X k x 9 #[n1,n1,n1,y1,y1,y1,y1,y1,n1,n1,n1,n1,y1,n1,n1] [(13, P0 7), (29, L0 4), (31, L0 5), (32, L0 6)] [Ze x, Zf x, Zd x, Ob.dead, Zh x, Ob.row true 3 T1 (z356 ++ [x.2.2.2.2.2.2.2.2.1]), Zl]
theorem ZLu (z356 : List Int) : ZDH k x z356 = joinL (w5_G k x z356) (ZC7 k x z356) := by kernel_rfl
theorem ZJ2 (z356 : List Int) : ZDH k x z356 = repl 3 (Za k x z356) := by
 rw [ZLu]
 simp only [ZHU, w5_G, w5_H, Za, Z7, Zb, Z5, Z6, Z2, Z3, Z4, Z1, if_true]
noncomputable def ZEw (z356 : List Int) : Option (List w5_Z) := w5_X k x 10 #[n1,n1,n1,y1,y1,y1,y1,y1,n1,n1,n1,n1,n1,n1,n1] [(29, L0 4), (31, L0 5), (32, L0 6)] [Ze x, Zf x, Zd x, Ob.dead, Zh x, Ob.row true 3 T1 (z356 ++ [x.2.2.2.2.2.2.2.2.1])]
theorem ZKx (z356 : List Int) : ZEw k x z356 = joinL (ZCn k x z356) (joinL (ZCd k x z356) (ZDH k x z356)) := by kernel_rfl
theorem ZJC (z356 : List Int) : ZEw k x z356 = repl 15 (Za k x z356) := by
 rw [ZKx]
 simp only [ZHQ, ZIm, ZJ2, w5_G, w5_H, Za, Z7, Zb, Z5, Z6, Z2, Z3, Z4, Z1, if_true]
noncomputable def ZEC (z356 : List Int) : Option (List w5_Z) := w5_X k x 9 #[n1,n1,n1,y1,y1,y1,y1,y1,n1,n1,n1,n1,y1,n1,n1] [(13, P0 6), (29, L0 4), (31, L0 5), (32, L0 7)] [Ze x, Zf x, Zd x, Ob.dead, Zh x, Zl, Ob.row true 3 T1 (z356 ++ [x.2.2.2.2.2.2.2.2.1])]
theorem ZJF (z356 : List Int) : ZEC k x z356 = joinL (w5_G k x z356) (ZCf k x z356) := by kernel_rfl
theorem ZKy (z356 : List Int) : ZEC k x z356 = repl 3 (Za k x z356) := by
 rw [ZJF]
 simp only [ZHs, w5_G, w5_H, Za, Z7, Zb, Z5, Z6, Z2, Z3, Z4, Z1, if_true]
noncomputable def ZD9 (z356 : List Int) : Option (List w5_Z) := w5_X k x 10 #[n1,n1,n1,y1,y1,y1,y1,n1,n1,n1,n1,n1,y1,n1,n1] [(13, P0 6), (29, L0 4), (31, L0 5)] [Ze x, Zf x, Zd x, Ob.row true 3 T1 z356, Zh x, Zl]
theorem ZK9 (z356 : List Int) : ZD9 k x z356 = joinL (ZCs k x z356) (joinL (ZCa k x z356) (w5_H x z356 (ZEC k x z356))) := by kernel_rfl
theorem ZIX (z356 : List Int) : ZD9 k x z356 = repl 12 (Z7 k x z356) := by
 rw [ZK9]
 simp only [ZIj, ZIg, ZKy, w5_G, w5_H, Za, Z7, Zb, Z5, Z6, Z2, Z3, Z4, Z1, if_true]
noncomputable def ZDQ (z356 : List Int) : Option (List w5_Z) := w5_X k x 11 #[n1,n1,n1,y1,y1,y1,y1,n1,n1,n1,n1,n1,n1,n1,n1] [(29, L0 4), (31, L0 5)] [Ze x, Zf x, Zd x, Ob.row true 3 T1 z356, Zh x]
theorem ZKc (z356 : List Int) : ZDQ k x z356 = joinL (ZBT k x z356) (joinL (ZBW k x z356) (joinL (w5_H x z356 (ZEw k x z356)) (ZD9 k x z356))) := by kernel_rfl
theorem ZLj (z356 : List Int) : ZDQ k x z356 = repl 72 (Z7 k x z356) := by
 rw [ZKc]
 simp only [ZIt, ZI2, ZJC, ZIX, w5_G, w5_H, Za, Z7, Zb, Z5, Z6, Z2, Z3, Z4, Z1, if_true]
noncomputable def ZD0 (z356 : List Int) : Option (List w5_Z) := w5_X k x 9 #[n1,n1,n1,y1,y1,y1,y1,y1,n1,n1,n1,n1,y1,n1,n1] [(13, P0 5), (29, L0 4), (31, L0 6), (32, L0 7)] [Ze x, Zf x, Zd x, Ob.dead, Zl, Zh x, Ob.row true 3 T1 (z356 ++ [x.2.2.2.2.2.2.2.2.1])]
theorem ZLC (z356 : List Int) : ZD0 k x z356 = joinL (w5_G k x z356) (ZC6 k x z356) := by kernel_rfl
theorem ZJE (z356 : List Int) : ZD0 k x z356 = repl 3 (Za k x z356) := by
 rw [ZLC]
 simp only [ZIl, w5_G, w5_H, Za, Z7, Zb, Z5, Z6, Z2, Z3, Z4, Z1, if_true]
noncomputable def ZDF (z356 : List Int) : Option (List w5_Z) := w5_X k x 10 #[n1,n1,n1,y1,y1,y1,y1,n1,n1,n1,n1,n1,y1,n1,n1] [(13, P0 5), (29, L0 4), (31, L0 6)] [Ze x, Zf x, Zd x, Ob.row true 3 T1 z356, Zl, Zh x]
theorem ZJs (z356 : List Int) : ZDF k x z356 = joinL (ZCb k x z356) (joinL (ZCl k x z356) (w5_H x z356 (ZD0 k x z356))) := by kernel_rfl
theorem ZKT (z356 : List Int) : ZDF k x z356 = repl 12 (Z7 k x z356) := by
 rw [ZJs]
 simp only [ZHI, ZIq, ZJE, w5_G, w5_H, Za, Z7, Zb, Z5, Z6, Z2, Z3, Z4, Z1, if_true]
noncomputable def ZDG (z356 : List Int) : Option (List w5_Z) := w5_X k x 11 #[n1,n1,n1,y1,y1,y1,n1,n1,n1,n1,n1,n1,y1,n1,n1] [(13, P0 5), (29, L0 4)] [Ze x, Zf x, Zd x, Ob.row true 3 T1 z356, Zl]
theorem ZK5 (z356 : List Int) : ZDG k x z356 = joinL (ZBU k x z356) (joinL (ZBY k x z356) (ZDF k x z356)) := by kernel_rfl
theorem ZJH (z356 : List Int) : ZDG k x z356 = repl 30 (Z7 k x z356) := by
 rw [ZK5]
 simp only [ZHw, ZHN, ZKT, w5_G, w5_H, Za, Z7, Zb, Z5, Z6, Z2, Z3, Z4, Z1, if_true]
noncomputable def ZD1 (z356 : List Int) : Option (List w5_Z) := w5_X k x 12 #[n1,n1,n1,y1,y1,y1,n1,n1,n1,n1,n1,n1,n1,n1,n1] [(29, L0 4)] [Ze x, Zf x, Zd x, Ob.row true 3 T1 z356]
theorem ZJj (z356 : List Int) : ZD1 k x z356 = joinL (ZCq k x z356) (joinL (ZBX k x z356) (joinL (ZDQ k x z356) (ZDG k x z356))) := by kernel_rfl
theorem ZKk (z356 : List Int) : ZD1 k x z356 = repl 210 (Z7 k x z356) := by
 rw [ZJj]
 simp only [ZIk, ZI4, ZLj, ZJH, w5_G, w5_H, Za, Z7, Zb, Z5, Z6, Z2, Z3, Z4, Z1, if_true]
noncomputable def ZE1 (z369 : List Int) : Option (List w5_Z) := w5_X k x 9 #[n1,n1,n1,y1,y1,y1,y1,y1,n1,n1,n1,n1,y1,n1,n1] [(13, P0 7), (29, L0 5), (31, L0 4), (32, L0 6)] [Ze x, Zf x, Zd x, Zh x, Ob.dead, Ob.row true 3 T1 (z369 ++ [x.2.2.2.2.2.2.2.2.1]), Zl]
theorem ZKZ (z369 : List Int) : ZE1 k x z369 = joinL (w5_G k x z369) (Zxt k x z369) := by kernel_rfl
theorem ZJi (z369 : List Int) : ZE1 k x z369 = repl 3 (Za k x z369) := by
 rw [ZKZ]
 simp only [ZFE, w5_G, w5_H, Za, Z7, Zb, Z5, Z6, Z2, Z3, Z4, Z1, if_true]
noncomputable def ZDk (z369 : List Int) : Option (List w5_Z) := w5_X k x 10 #[n1,n1,n1,y1,y1,y1,y1,y1,n1,n1,n1,n1,n1,n1,n1] [(29, L0 5), (31, L0 4), (32, L0 6)] [Ze x, Zf x, Zd x, Zh x, Ob.dead, Ob.row true 3 T1 (z369 ++ [x.2.2.2.2.2.2.2.2.1])]
theorem ZKQ (z369 : List Int) : ZDk k x z369 = joinL (ZC2 k x z369) (joinL (ZxR k x z369) (ZE1 k x z369)) := by kernel_rfl
theorem ZK6 (z369 : List Int) : ZDk k x z369 = repl 15 (Za k x z369) := by
 rw [ZKQ]
 simp only [ZHE, ZFH, ZJi, w5_G, w5_H, Za, Z7, Zb, Z5, Z6, Z2, Z3, Z4, Z1, if_true]
noncomputable def ZE7 (z369 : List Int) : Option (List w5_Z) := w5_X k x 9 #[n1,n1,n1,y1,y1,y1,y1,y1,n1,n1,n1,n1,y1,n1,n1] [(13, P0 6), (29, L0 5), (31, L0 4), (32, L0 7)] [Ze x, Zf x, Zd x, Zh x, Ob.dead, Zl, Ob.row true 3 T1 (z369 ++ [x.2.2.2.2.2.2.2.2.1])]
theorem ZJk (z369 : List Int) : ZE7 k x z369 = joinL (w5_G k x z369) (Zxn k x z369) := by kernel_rfl
theorem ZJ8 (z369 : List Int) : ZE7 k x z369 = repl 3 (Za k x z369) := by
 rw [ZJk]
 simp only [ZFW, w5_G, w5_H, Za, Z7, Zb, Z5, Z6, Z2, Z3, Z4, Z1, if_true]
noncomputable def ZEe (z369 : List Int) : Option (List w5_Z) := w5_X k x 10 #[n1,n1,n1,y1,y1,y1,y1,n1,n1,n1,n1,n1,y1,n1,n1] [(13, P0 6), (29, L0 5), (31, L0 4)] [Ze x, Zf x, Zd x, Zh x, Ob.row true 3 T1 z369, Zl]
theorem ZJX (z369 : List Int) : ZEe k x z369 = joinL (ZC3 k x z369) (joinL (Zzk k x z369) (w5_H x z369 (ZE7 k x z369))) := by kernel_rfl
theorem ZKt (z369 : List Int) : ZEe k x z369 = repl 12 (Z7 k x z369) := by
 rw [ZJX]
 simp only [ZHC, ZFL, ZJ8, w5_G, w5_H, Za, Z7, Zb, Z5, Z6, Z2, Z3, Z4, Z1, if_true]
noncomputable def ZEI (z369 : List Int) : Option (List w5_Z) := w5_X k x 11 #[n1,n1,n1,y1,y1,y1,y1,n1,n1,n1,n1,n1,n1,n1,n1] [(29, L0 5), (31, L0 4)] [Ze x, Zf x, Zd x, Zh x, Ob.row true 3 T1 z369]
theorem ZJN (z369 : List Int) : ZEI k x z369 = joinL (ZBS k x z369) (joinL (ZxX k x z369) (joinL (w5_H x z369 (ZDk k x z369)) (ZEe k x z369))) := by kernel_rfl
theorem ZJm (z369 : List Int) : ZEI k x z369 = repl 72 (Z7 k x z369) := by
 rw [ZJN]
 simp only [ZIi, ZGc, ZK6, ZKt, w5_G, w5_H, Za, Z7, Zb, Z5, Z6, Z2, Z3, Z4, Z1, if_true]
noncomputable def ZCL (z377 : List Int) : Option (List w5_Z) := w5_X k x 9 #[n1,n1,n1,y1,y1,y1,y1,y1,n1,n1,n1,n1,y1,n1,n1] [(13, P0 5), (29, L0 6), (31, L0 4), (32, L0 7)] [Ze x, Zf x, Zd x, Zh x, Zl, Ob.dead, Ob.row true 3 T1 (z377 ++ [x.2.2.2.2.2.2.2.2.1])]
theorem ZJM (z377 : List Int) : ZCL k x z377 = joinL (w5_G k x z377) (ZxO k x z377) := by kernel_rfl
theorem ZKu (z377 : List Int) : ZCL k x z377 = repl 3 (Za k x z377) := by
 rw [ZJM]
 simp only [ZG9, w5_G, w5_H, Za, Z7, Zb, Z5, Z6, Z2, Z3, Z4, Z1, if_true]
noncomputable def ZDO (z377 : List Int) : Option (List w5_Z) := w5_X k x 10 #[n1,n1,n1,y1,y1,y1,y1,n1,n1,n1,n1,n1,y1,n1,n1] [(13, P0 5), (29, L0 6), (31, L0 4)] [Ze x, Zf x, Zd x, Zh x, Zl, Ob.row true 3 T1 z377]
theorem ZKp (z377 : List Int) : ZDO k x z377 = joinL (ZCo k x z377) (joinL (ZxU k x z377) (w5_H x z377 (ZCL k x z377))) := by kernel_rfl
theorem ZKV (z377 : List Int) : ZDO k x z377 = repl 12 (Z7 k x z377) := by
 rw [ZKp]
 simp only [ZHu, ZGg, ZKu, w5_G, w5_H, Za, Z7, Zb, Z5, Z6, Z2, Z3, Z4, Z1, if_true]
noncomputable def ZCO : Option (List w5_Z) := w5_X k x 11 #[n1,n1,n1,y1,n1,y1,y1,n1,n1,n1,n1,n1,y1,n1,n1] [(13, P0 5), (31, L0 4)] [Ze x, Zf x, Zd x, Zh x, Zl]
theorem ZL2 : ZCO k x = joinL (ZBR k x) (joinL (ZxS k x) (Option.bind (Zi k x.2.2.2.2.2.2.2.1) fun z377 => ZDO k x z377)) := by kernel_rfl
theorem ZKv : ZCO k x = repl 30 (Zb k x) := by
 rw [ZL2]
 simp only [ZI1, ZGe, ZKV, w5_G, w5_H, Za, Z7, Zb, Z5, Z6, Z2, Z3, Z4, Z1, if_true]
noncomputable def ZEH : Option (List w5_Z) := w5_X k x 12 #[n1,n1,n1,y1,n1,y1,y1,n1,n1,n1,n1,n1,n1,n1,n1] [(31, L0 4)] [Ze x, Zf x, Zd x, Zh x]
theorem ZJS : ZEH k x = joinL (ZCi k x) (joinL (ZxQ k x) (joinL (Option.bind (Zi k x.2.2.2.2.2.2.2.1) fun z369 => ZEI k x z369) (ZCO k x))) := by kernel_rfl
theorem ZJ1 : ZEH k x = repl 210 (Zb k x) := by
 rw [ZJS]
 simp only [ZHD, ZGi, ZJm, ZKv, w5_G, w5_H, Za, Z7, Zb, Z5, Z6, Z2, Z3, Z4, Z1, if_true]
noncomputable def ZCY (z385 : List Int) : Option (List w5_Z) := w5_X k x 9 #[n1,n1,n1,y1,y1,y1,y1,y1,n1,n1,n1,n1,y1,n1,n1] [(13, P0 4), (29, L0 5), (31, L0 6), (32, L0 7)] [Ze x, Zf x, Zd x, Zl, Ob.dead, Zh x, Ob.row true 3 T1 (z385 ++ [x.2.2.2.2.2.2.2.2.1])]
theorem ZJz (z385 : List Int) : ZCY k x z385 = joinL (w5_G k x z385) (ZxV k x z385) := by kernel_rfl
theorem ZJY (z385 : List Int) : ZCY k x z385 = repl 3 (Za k x z385) := by
 rw [ZJz]
 simp only [ZFT, w5_G, w5_H, Za, Z7, Zb, Z5, Z6, Z2, Z3, Z4, Z1, if_true]
noncomputable def ZDs (z385 : List Int) : Option (List w5_Z) := w5_X k x 10 #[n1,n1,n1,y1,y1,y1,y1,n1,n1,n1,n1,n1,y1,n1,n1] [(13, P0 4), (29, L0 5), (31, L0 6)] [Ze x, Zf x, Zd x, Zl, Ob.row true 3 T1 z385, Zh x]
theorem ZIY (z385 : List Int) : ZDs k x z385 = joinL (ZCr k x z385) (joinL (ZxM k x z385) (w5_H x z385 (ZCY k x z385))) := by kernel_rfl
theorem ZKr (z385 : List Int) : ZDs k x z385 = repl 12 (Z7 k x z385) := by
 rw [ZIY]
 simp only [ZIu, ZG6, ZJY, w5_G, w5_H, Za, Z7, Zb, Z5, Z6, Z2, Z3, Z4, Z1, if_true]
noncomputable def ZCH (z385 : List Int) : Option (List w5_Z) := w5_X k x 11 #[n1,n1,n1,y1,y1,y1,n1,n1,n1,n1,n1,n1,y1,n1,n1] [(13, P0 4), (29, L0 5)] [Ze x, Zf x, Zd x, Zl, Ob.row true 3 T1 z385]
theorem ZJw (z385 : List Int) : ZCH k x z385 = joinL (ZCc k x z385) (joinL (ZxG k x z385) (ZDs k x z385)) := by kernel_rfl
theorem ZJu (z385 : List Int) : ZCH k x z385 = repl 30 (Z7 k x z385) := by
 rw [ZJw]
 simp only [ZHF, ZGd, ZKr, w5_G, w5_H, Za, Z7, Zb, Z5, Z6, Z2, Z3, Z4, Z1, if_true]
noncomputable def ZDU (z390 : List Int) : Option (List w5_Z) := w5_X k x 9 #[n1,n1,n1,y1,y1,y1,y1,y1,n1,n1,n1,n1,y1,n1,n1] [(13, P0 4), (29, L0 6), (31, L0 5), (32, L0 7)] [Ze x, Zf x, Zd x, Zl, Zh x, Ob.dead, Ob.row true 3 T1 (z390 ++ [x.2.2.2.2.2.2.2.2.1])]
theorem ZLe (z390 : List Int) : ZDU k x z390 = joinL (w5_G k x z390) (Zxz k x z390) := by kernel_rfl
theorem ZLg (z390 : List Int) : ZDU k x z390 = repl 3 (Za k x z390) := by
 rw [ZLe]
 simp only [ZFF, w5_G, w5_H, Za, Z7, Zb, Z5, Z6, Z2, Z3, Z4, Z1, if_true]
noncomputable def ZED (z390 : List Int) : Option (List w5_Z) := w5_X k x 10 #[n1,n1,n1,y1,y1,y1,y1,n1,n1,n1,n1,n1,y1,n1,n1] [(13, P0 4), (29, L0 6), (31, L0 5)] [Ze x, Zf x, Zd x, Zl, Zh x, Ob.row true 3 T1 z390]
theorem ZLn (z390 : List Int) : ZED k x z390 = joinL (ZC8 k x z390) (joinL (Zyy k x z390) (w5_H x z390 (ZDU k x z390))) := by kernel_rfl
theorem ZJI (z390 : List Int) : ZED k x z390 = repl 12 (Z7 k x z390) := by
 rw [ZLn]
 simp only [ZIo, ZG4, ZLg, w5_G, w5_H, Za, Z7, Zb, Z5, Z6, Z2, Z3, Z4, Z1, if_true]
noncomputable def ZDT : Option (List w5_Z) := w5_X k x 11 #[n1,n1,n1,y1,n1,y1,y1,n1,n1,n1,n1,n1,y1,n1,n1] [(13, P0 4), (31, L0 5)] [Ze x, Zf x, Zd x, Zl, Zh x]
theorem ZKa : ZDT k x = joinL (ZBZ k x) (joinL (Zy2 k x) (Option.bind (Zi k x.2.2.2.2.2.2.2.1) fun z390 => ZED k x z390)) := by kernel_rfl
theorem ZLp : ZDT k x = repl 30 (Zb k x) := by
 rw [ZKa]
 simp only [ZHz, ZG5, ZJI, w5_G, w5_H, Za, Z7, Zb, Z5, Z6, Z2, Z3, Z4, Z1, if_true]
noncomputable def ZEx : Option (List w5_Z) := w5_X k x 12 #[n1,n1,n1,y1,n1,y1,n1,n1,n1,n1,n1,n1,y1,n1,n1] [(13, P0 4)] [Ze x, Zf x, Zd x, Zl]
theorem ZLb : ZEx k x = joinL (ZBO k x) (joinL (Zyq k x) (joinL (Option.bind (Zi k x.2.2.2.2.2.2.2.1) fun z385 => ZCH k x z385) (ZDT k x))) := by kernel_rfl
theorem ZLw : ZEx k x = repl 120 (Zb k x) := by
 rw [ZLb]
 simp only [ZIf, ZFV, ZJu, ZLp, w5_G, w5_H, Za, Z7, Zb, Z5, Z6, Z2, Z3, Z4, Z1, if_true]
noncomputable def ZDc : Option (List w5_Z) := w5_X k x 13 #[n1,n1,n1,y1,n1,y1,n1,n1,n1,n1,n1,n1,n1,n1,n1] [] [Ze x, Zf x, Zd x]
theorem ZLq : ZDc k x = joinL (ZHd k x) (joinL (ZEO k x) (joinL (Option.bind (Zi k x.2.2.2.2.2.2.2.1) fun z356 => ZD1 k x z356) (joinL (ZEH k x) (ZEx k x)))) := by kernel_rfl
theorem ZL6 : ZDc k x = repl 960 (Zb k x) := by
 rw [ZLq]
 simp only [ZND, ZJ9, ZKk, ZJ1, ZLw, w5_G, w5_H, Za, Z7, Zb, Z5, Z6, Z2, Z3, Z4, Z1, if_true]
end
theorem Zsm (k : Nat) (x : Zgh.D) : execD Zw.T Zw.G Zw.mvs k Z90 (Z3k.inp.st Zw.n x) (outK Zw Z3k) = ZDc k (x.1.2.1.1, x.1.2.1.2.1, x.1.2.1.2.2.1, x.1.2.2.1, x.1.2.2.2.1.1, x.1.2.2.2.1.2.1, x.1.2.2.2.1.2.2.1, x.2.1, x.2.2.1, x.2.2.2.2.2.2.1, x.2.2.2.2.2.2.2.1, x.2.2.2.2.2.2.2.2.1) := by kernel_rfl
theorem ZpG (k : Nat) : EOK Tryz.prog Zw k Z3k.E (.region 5 Z90 true) := ZcX (D := Z3k) (m := 960) T_ok (Zca k) (fun x => (Zsm k x).trans (ZL6 k (x.1.2.1.1, x.1.2.1.2.1, x.1.2.1.2.2.1, x.1.2.2.1, x.1.2.2.2.1.1, x.1.2.2.2.1.2.1, x.1.2.2.2.1.2.2.1, x.2.1, x.2.2.1, x.2.2.2.2.2.2.1, x.2.2.2.2.2.2.2.1, x.2.2.2.2.2.2.2.2.1)))
noncomputable def Z9v : Code := (findLoop 2 Z77).getD .skip
theorem Zty (k : Nat) (x : ZcZ.D) : Z58.lp (k + 1) x = loopK Zw Z58 2 Z9v k x := by kernel_rfl
theorem Zti (k : Nat) : LOK Tryz.prog Zw k Z9v := LOK.by [] (by kernel_rfl) AllOK.nil
theorem Zsy (x : ZcZ.D) : Z58.lp 0 x = none := by kernel_rfl
theorem Zri (k : Nat) : EOK Tryz.prog Zw k Z58.E (.block 2 (.loop Z9v)) := Zr T_ok Zca Zsy Zty Zti k
noncomputable def Z9z : Code := (findLoop 0 Z77).getD .skip
theorem Zsv (k : Nat) (x : ZcP.D) : Z50.lp (k + 1) x = loopK Zw Z50 0 Z9z k x := by kernel_rfl
theorem Ztj (k : Nat) : LOK Tryz.prog Zw k Z9z := LOK.by [(Z3k.E, .region 5 Z90 true), (Z58.E, .block 2 (.loop Z9v))] (by kernel_rfl) (AllOK.cons (ZpG k) (AllOK.cons (Zri k) AllOK.nil))
theorem Zto (x : ZcP.D) : Z50.lp 0 x = none := by kernel_rfl
theorem ZrT (k : Nat) : EOK Tryz.prog Zw k Z50.E (.block 0 (.loop Z9z)) := Zr T_ok Zca Zto Zsv Ztj k
theorem ZxW (k : Nat) (x : Tup Z3r.ps) : Z3r.f (k + 1) x = fnK Z3r Zw Z77 k x := by kernel_rfl
theorem ZyL (x : Tup Z3r.ps) : Z3r.f 0 x = none := by kernel_rfl
theorem Zz6 (k : Nat) : LOK Tryz.prog Zw k Z77 := LOK.by [(Z50.E, .block 0 (.loop Z9z))] (by kernel_rfl) (AllOK.cons (ZrT k) AllOK.nil)
theorem ZlP (k : Nat) : SoundAt Tryz.prog k 51 Z3r.E := @Zk Tryz.prog Z3r Zw 51 Tryz.f51 Z77 (by kernel_rfl) (by kernel_rfl) (by kernel_rfl) Tryz.func51 (by kernel_rfl) (by kernel_rfl) (by kernel_rfl) T_ok Zca Zz6 ZyL ZxW k
noncomputable def Z62 : List PK := [PK.mk Ty.bool false none false none]
noncomputable def Zgs : List PK := [PK.mk (Ty.pair (Ty.int .i64) (Ty.pair (Ty.int .i64) (Ty.slice (122 : Nat) (Ty.pair (Ty.int .i64) (Ty.int .i64))))) true none false none, PK.mk (Ty.slice (42 : Nat) (Ty.pair (Ty.int .i64) (Ty.pair (Ty.int .i64) (Ty.int .i64)))) false none false none, PK.mk (Ty.slice (3 : Nat) (Ty.int .i64)) false none false none, PK.mk (Ty.slice (67 : Nat) (Ty.pair (Ty.int .i64) (Ty.pair (Ty.int .i64) (Ty.int .i64)))) false none false none]
noncomputable def Zfd (r : Bool) : Tup Z62 × OutD := ((r, ()), none)
noncomputable def ZfJ : Tup Z62 × OutD → Option (Bool)
 | (a, none) => some (a.1)
 | _ => none
theorem Zlf : ∀ b r, ZfJ b = some r → Zfd r = b := by
 rintro ⟨a, o⟩ r h
 cases o with
 | none => injection h with h; subst h; rfl
 | some _ => cases h
noncomputable def Z91 : Nat → Int × Int × List (Int × Int) → List (Int × Int × Int) → List Int → List (Int × Int × Int) → Option Bool
 | 0, _, _, _, _ => none
 | k + 1, p0, p1, p2, p3 =>
  Option.bind (Z6V k (Prod.fst p0, Prod.fst p0.2, Prod.snd p0.2) p1 p2) fun z0 => Option.bind (Z2p k z0.1 p3) fun z1 => some z1
noncomputable def Z2k : FnDef := .of Zgs Z62 (Bool) (fun k x => Z91 k x.1 x.2.1 x.2.2.1 x.2.2.2.1) Zfd ZfJ Zlf
noncomputable def Zc1 : Code := Tryz.f87.body.getD .skip
noncomputable def Z8O : Ctx (Tup Z62 × OutD) := { T := T, G := [(88, Z25.E), (115, ZB.E)], mvs := [], no := 0, n := 21, res := resOf T Zgs Z62 Tryz.f87.results.toList, loops := [], regs := [], conds := [], cuts := [] }
theorem Zrp (k : Nat) : EnvOK Tryz.prog k Z8O.G := (EnvOK.cons (ZhJ k) (EnvOK.cons (ZdD k) (EnvOK.nil mixed)))
theorem ZrY (k : Nat) (x : Tup Z2k.ps) : Z2k.f (k + 1) x = fnK Z2k Z8O Zc1 k x := by kernel_rfl
theorem Zrz (x : Tup Z2k.ps) : Z2k.f 0 x = none := by kernel_rfl
theorem Zrs (k : Nat) : LOK Tryz.prog Z8O k Zc1 := LOK.by [] (by kernel_rfl) AllOK.nil
theorem ZrW (k : Nat) : SoundAt Tryz.prog k 87 Z2k.E := @Zk Tryz.prog Z2k Z8O 87 Tryz.f87 Zc1 (by kernel_rfl) (by kernel_rfl) (by kernel_rfl) Tryz.func87 (by kernel_rfl) (by kernel_rfl) (by kernel_rfl) T_ok Zrp Zrs Zrz ZrY k
noncomputable def Z7G : List PK := [PK.mk Ty.bool false none false none]
noncomputable def Zir : List PK := [PK.mk (Ty.pair (Ty.int .i64) (Ty.pair (Ty.int .i64) (Ty.slice (122 : Nat) (Ty.pair (Ty.int .i64) (Ty.int .i64))))) true none false none, PK.mk (Ty.slice (42 : Nat) (Ty.pair (Ty.int .i64) (Ty.pair (Ty.int .i64) (Ty.int .i64)))) false none false none, PK.mk (Ty.slice (3 : Nat) (Ty.int .i64)) false none false none, PK.mk (Ty.slice (67 : Nat) (Ty.pair (Ty.int .i64) (Ty.pair (Ty.int .i64) (Ty.int .i64)))) false none false none]
noncomputable def Zhi (r : Bool) : Tup Z7G × OutD := ((r, ()), none)
noncomputable def Zhf : Tup Z7G × OutD → Option (Bool)
 | (a, none) => some (a.1)
 | _ => none
theorem Zov : ∀ b r, Zhf b = some r → Zhi r = b := by
 rintro ⟨a, o⟩ r h
 cases o with
 | none => injection h with h; subst h; rfl
 | some _ => cases h
noncomputable def Zap : Nat → Int × Int × List (Int × Int) → List (Int × Int × Int) → List Int → List (Int × Int × Int) → Option Bool
 | 0, _, _, _, _ => none
 | k + 1, p0, p1, p2, p3 =>
  Option.bind (Z2z k (Prod.fst p0, Prod.fst p0.2, Prod.snd p0.2) p1 p2) fun z0 => Option.bind (Zej k z0.1 p3) fun z1 => some (decide (z1 < (0 : Int)))
noncomputable def Z3a : FnDef := .of Zir Z7G (Bool) (fun k x => Zap k x.1 x.2.1 x.2.2.1 x.2.2.2.1) Zhi Zhf Zov
noncomputable def Zdy : Code := Tryz.f91.body.getD .skip
noncomputable def Zaj : Ctx (Tup Z7G × OutD) := { T := T, G := [(86, Z4D.E), (106, Z5P.E)], mvs := [], no := 0, n := 22, res := resOf T Zir Z7G Tryz.f91.results.toList, loops := [], regs := [], conds := [], cuts := [] }
theorem Zux (k : Nat) : EnvOK Tryz.prog k Zaj.G := (EnvOK.cons (Zkd k) (EnvOK.cons (ZBH k) (EnvOK.nil mixed)))
theorem Zva (k : Nat) (x : Tup Z3a.ps) : Z3a.f (k + 1) x = fnK Z3a Zaj Zdy k x := by kernel_rfl
theorem ZuL (x : Tup Z3a.ps) : Z3a.f 0 x = none := by kernel_rfl
theorem Zvn (k : Nat) : LOK Tryz.prog Zaj k Zdy := LOK.by [] (by kernel_rfl) AllOK.nil
theorem Zvz (k : Nat) : SoundAt Tryz.prog k 91 Z3a.E := @Zk Tryz.prog Z3a Zaj 91 Tryz.f91 Zdy (by kernel_rfl) (by kernel_rfl) (by kernel_rfl) Tryz.func91 (by kernel_rfl) (by kernel_rfl) (by kernel_rfl) T_ok Zux Zvn ZuL Zva k
noncomputable def Z6S : List PK := [PK.mk (Ty.pair (Ty.int .i64) (Ty.pair (Ty.int .i64) (Ty.slice (122 : Nat) (Ty.pair (Ty.int .i64) (Ty.int .i64))))) true none false none]
noncomputable def ZhA : List PK := [PK.mk (Ty.pair (Ty.slice (5 : Nat) (Ty.int .u8)) (Ty.pair (Ty.int .i64) (Ty.int .u64))) false none false (some (82 : Nat))]
noncomputable def ZgA (r : (Int × Int × List (Int × Int)) × Int × Int) : Tup Z6S × OutD := ((r.1, ()), some ⟨Ty.pair (Ty.slice (5 : Nat) (Ty.int .u8)) (Ty.pair (Ty.int .i64) (Ty.int .u64)), [([], r.2)]⟩)
noncomputable def Zc5 : Tup Z6S × OutD → Option ((Int × Int × List (Int × Int)) × Int × Int)
 | (a, some ⟨u, ys⟩) => if h : u = Ty.pair (Ty.slice (5 : Nat) (Ty.int .u8)) (Ty.pair (Ty.int .i64) (Ty.int .u64)) then (match castU h ys with
  | [([], y)] => some (a.1, y)
  | _ => none) else none
 | _ => none
theorem Znc : ∀ b r, Zc5 b = some r → ZgA r = b := by
 rintro ⟨a, o⟩ r h
 cases o with
 | none => cases h
 | some s =>
  obtain ⟨u, ys⟩ := s
  simp only [Zc5] at h
  split at h
  ·rename_i hu
   subst hu
   match ys, h with
   | [], h => cases (show (none : Option _) = some r from h)
   | [([], y)], h => injection (show some _ = some r from h) with h; subst h; rfl
   | [(_ :: _, y)], h => cases (show (none : Option _) = some r from h)
   | (h1, _) :: _ :: _, h => cases h1 <;> cases (show (none : Option _) = some r from h)
  ·cases h
noncomputable def Z73 : Nat → List Int × Int × Int → Option ((Int × Int × List (Int × Int)) × Int × Int)
 | 0, _ => none
 | k + 1, p0 =>
  Option.bind (Z1F k (Prod.fst p0, Prod.fst p0.2, Prod.snd p0.2) (20 : Int)) fun z0 => if Prod.fst z0 = true then Option.bind (ZG k (Prod.fst p0, Prod.fst z0.2, Prod.snd z0.2) [(1 : Int), (10 : Int)]) fun z1 => Option.bind (ZG k (Prod.fst p0, Prod.fst z1.2, Prod.snd z1.2) [(1 : Int), (9 : Int)]) fun z2 => Option.bind (Z24 k (Prod.fst p0, Prod.fst z2.2, Prod.snd z2.2) z1.1 z2.1) fun z3 => some ((Prod.fst z3.1, Prod.fst z3.1.2, Prod.snd z3.1.2), Prod.fst z3.2, Prod.snd z3.2) else Option.bind (Z8 k (Prod.fst p0, Prod.fst z0.2, Prod.snd z0.2) (5 : Int)) fun z4 => Option.bind (Z8 k (Prod.fst p0, Prod.fst z4.2, Prod.snd z4.2) (5 : Int)) fun z5 => Option.bind (Z24 k (Prod.fst p0, Prod.fst z5.2, Prod.snd z5.2) (wrap64 ((1 : Int) + Prod.fst z4)) (wrap64 ((1 : Int) + Prod.fst z5))) fun z6 => some ((Prod.fst z6.1, Prod.fst z6.1.2, Prod.snd z6.1.2), Prod.fst z6.2, Prod.snd z6.2)
noncomputable def Z2M : FnDef := .of ZhA Z6S ((Int × Int × List (Int × Int)) × Int × Int) (fun k x => Z73 k x.1) ZgA Zc5 Znc
noncomputable def ZcV : Code := Tryz.f122.body.getD .skip
noncomputable def Z9O : Ctx (Tup Z6S × OutD) := { T := T, G := [(97, Z28.E), (72, Z14.E), (95, Z1w.E), (73, ZD.E)], mvs := [], no := 2, n := 21, res := resOf T ZhA Z6S Tryz.f122.results.toList, loops := [], regs := [], conds := [], cuts := [] }
theorem Zsz (k : Nat) : EnvOK Tryz.prog k Z9O.G := (EnvOK.cons (Zes k) (EnvOK.cons (Z70 k) (EnvOK.cons (ZfA k) (EnvOK.cons (Z2s k) (EnvOK.nil mixed)))))
theorem ZsP (k : Nat) (x : Tup Z2M.ps) : Z2M.f (k + 1) x = fnK Z2M Z9O ZcV k x := by kernel_rfl
theorem Zt6 (x : Tup Z2M.ps) : Z2M.f 0 x = none := by kernel_rfl
theorem ZtW (k : Nat) : LOK Tryz.prog Z9O k ZcV := LOK.by [] (by kernel_rfl) AllOK.nil
theorem Ztx (k : Nat) : SoundAt Tryz.prog k 122 Z2M.E := @Zk Tryz.prog Z2M Z9O 122 Tryz.f122 ZcV (by kernel_rfl) (by kernel_rfl) (by kernel_rfl) Tryz.func122 (by kernel_rfl) (by kernel_rfl) (by kernel_rfl) T_ok Zsz ZtW Zt6 ZsP k
end
end Go.Proofs.YtglkedenkcpcbaaGreatDoor.Vs
