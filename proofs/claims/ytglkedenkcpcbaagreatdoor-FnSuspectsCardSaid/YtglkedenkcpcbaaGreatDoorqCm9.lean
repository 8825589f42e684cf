/- The proof, part 10. -/
import Derived.Test.YtglkedenkcpcbaaGreatDoorqCm8
set_option maxRecDepth 100000
set_option maxHeartbeats 2000000
set_option linter.unusedVariables false
set_option linter.unusedSimpArgs false
namespace Go.Proofs.YtglkedenkcpcbaaGreatDoor.Vs
open Go.RowKit
noncomputable section
noncomputable def Z3u : List PK := [PK.mk (Ty.int .i64) false none false none, PK.mk (Ty.int .i64) false none false none, PK.mk Ty.bool false none false none]
noncomputable def ZeK : List PK := [PK.mk (Ty.pair (Ty.int .i64) (Ty.pair (Ty.int .i64) (Ty.slice (122 : Nat) (Ty.pair (Ty.int .i64) (Ty.int .i64))))) true none false none, PK.mk (Ty.slice (3 : Nat) (Ty.int .i64)) false none false none, PK.mk (Ty.slice (67 : Nat) (Ty.pair (Ty.int .i64) (Ty.pair (Ty.int .i64) (Ty.int .i64)))) false none false none]
noncomputable def ZdF (r : Int × Int × Bool) : Tup Z3u × OutD := ((r.1, r.2.1, r.2.2, ()), none)
noncomputable def ZdS : Tup Z3u × OutD → Option (Int × Int × Bool)
 | (a, none) => some (a.1, a.2.1, a.2.2.1)
 | _ => none
theorem Zj4 : ∀ b r, ZdS b = some r → ZdF r = b := by
 rintro ⟨a, o⟩ r h
 cases o with
 | none => injection h with h; subst h; rfl
 | some _ => cases h
noncomputable def Z1U : Nat → Int → Int → List (Int × Int) → List (Int × Int × Int) → List Int → Int → Int → Int → Option (Int × Int)
 | 0, _, _, _, _, _, _, _, _ => none
 | k + 1, b1_0, b1_1, b1_2, o2, v1, v10, v11, v12 =>
  if decide (v12 < b1_1) = true then Option.bind (Z61 k (b1_0, b1_1, b1_2) o2 v1 v12) fun z2 => if decide (z2 > v11) = true then Z1U k b1_0 b1_1 b1_2 o2 v1 v12 z2 (wrap64 (v12 + (1 : Int))) else Z1U k b1_0 b1_1 b1_2 o2 v1 v10 v11 (wrap64 (v12 + (1 : Int))) else some (v10, v11)
noncomputable def Z8x : Spec := Spec.mk [OSh.ro, OSh.box (26 : Nat) [Sh.int .i64, Sh.int .i64, Sh.snap (0 : Nat) (Ty.pair (Ty.int .i64) (Ty.int .i64))], OSh.row true (42 : Nat) (Ty.pair (Ty.int .i64) (Ty.pair (Ty.int .i64) (Ty.int .i64)))] [((1 : Nat), TSh.at (Sh.snap (0 : Nat) (Ty.int .i64))), ((3 : Nat), TSh.at (Sh.ptr (1 : Nat) (0 : Nat))), ((9 : Nat), TSh.at (Sh.sl (2 : Nat))), ((10 : Nat), TSh.at (Sh.int .i64)), ((11 : Nat), TSh.at (Sh.int .i64)), ((12 : Nat), TSh.at (Sh.int .i64))]
noncomputable def Zkc : Spec := Spec.mk [OSh.ro] [((10 : Nat), TSh.at (Sh.int .i64)), ((11 : Nat), TSh.at (Sh.int .i64))]
noncomputable def Z2I : LoopDef (Tup Z3u × OutD) := .plain Z8x Zkc (Int × Int) (fun k x => Z1U k x.1.2.1.1 x.1.2.1.2.1 x.1.2.1.2.2.1 x.1.2.2.1 x.2.1 x.2.2.2.2.1 x.2.2.2.2.2.1 x.2.2.2.2.2.2.1) (fun z => (((), ()), (z.1, z.2, ()))) (fun y => (y.2.1, y.2.2.1)) (fun _ => rfl)
noncomputable def Z7u : Nat → Int × Int × List (Int × Int) → List Int → List (Int × Int × Int) → Option (Int × Int × Bool)
 | 0, _, _, _ => none
 | k + 1, p0, p1, p2 =>
  Option.bind (Z4K k (Prod.fst p0, Prod.fst p0.2, Prod.snd p0.2) p1 p2) fun z0 => if (!z0) = true then some ((0 : Int), (0 : Int), false) else Option.bind (Z1G k (Prod.fst p0, Prod.fst p0.2, Prod.snd p0.2) p1 p2) fun z1 => if decide ((↑(List.length z1) : Int) = (0 : Int)) = true then some ((0 : Int), (0 : Int), false) else Option.bind (Z1U k p0.1 p0.2.1 p0.2.2 z1 p1 (0 : Int) (0 : Int) (0 : Int)) fun z3 => some (Prod.fst z3, Prod.snd z3, true)
noncomputable def Z1P : FnDef := .of ZeK Z3u (Int × Int × Bool) (fun k x => Z7u k x.1 x.2.1 x.2.2.1) ZdF ZdS Zj4
noncomputable def Z7r : Code := Tryz.f7.body.getD .skip
noncomputable def Z2A : Ctx (Tup Z3u × OutD) := { T := T, G := [(46, Z1Y.E), (47, ZM.E), (48, Z1I.E)], mvs := [], no := 0, n := 44, res := resOf T ZeK Z3u Tryz.f7.results.toList, loops := [(0, Z2I.E)], regs := [], conds := [], cuts := [] }
theorem Zf0 (k : Nat) : EnvOK Tryz.prog k Z2A.G := (EnvOK.cons (Z9i k) (EnvOK.cons (Z4u k) (EnvOK.cons (Zgv k) (EnvOK.nil mixed))))
noncomputable def Z5t : Code := (findLoop 0 Z7r).getD .skip
theorem Zkh (k : Nat) (x : Z8x.D) : Z2I.lp (k + 1) x = loopK Z2A Z2I 0 Z5t k x := by kernel_rfl
theorem ZkP (k : Nat) : LOK Tryz.prog Z2A k Z5t := LOK.by [] (by kernel_rfl) AllOK.nil
theorem ZjE (x : Z8x.D) : Z2I.lp 0 x = none := by kernel_rfl
theorem Zj5 (k : Nat) : EOK Tryz.prog Z2A k Z2I.E (.block 0 (.loop Z5t)) := Zr T_ok Zf0 ZjE Zkh ZkP k
theorem Zoa (k : Nat) (x : Tup Z1P.ps) : Z1P.f (k + 1) x = fnK Z1P Z2A Z7r k x := by kernel_rfl
theorem Zne (x : Tup Z1P.ps) : Z1P.f 0 x = none := by kernel_rfl
theorem Zok (k : Nat) : LOK Tryz.prog Z2A k Z7r := LOK.by [(Z2I.E, .block 0 (.loop Z5t))] (by kernel_rfl) (AllOK.cons (Zj5 k) AllOK.nil)
theorem ZoA (k : Nat) : SoundAt Tryz.prog k 7 Z1P.E := @Zk Tryz.prog Z1P Z2A 7 Tryz.f7 Z7r (by kernel_rfl) (by kernel_rfl) (by kernel_rfl) Tryz.func7 (by kernel_rfl) (by kernel_rfl) (by kernel_rfl) T_ok Zf0 Zok Zne Zoa k
noncomputable def Z3v : List PK := [PK.mk (Ty.int .i64) false none false none, PK.mk (Ty.int .i64) false none false none, PK.mk Ty.bool false none false none]
noncomputable def ZeW : List PK := [PK.mk (Ty.pair (Ty.int .i64) (Ty.pair (Ty.int .i64) (Ty.slice (122 : Nat) (Ty.pair (Ty.int .i64) (Ty.int .i64))))) true none false none, PK.mk (Ty.slice (3 : Nat) (Ty.int .i64)) false none false none, PK.mk (Ty.slice (67 : Nat) (Ty.pair (Ty.int .i64) (Ty.pair (Ty.int .i64) (Ty.int .i64)))) false none false none]
noncomputable def ZdM (r : Int × Int × Bool) : Tup Z3v × OutD := ((r.1, r.2.1, r.2.2, ()), none)
noncomputable def ZdO : Tup Z3v × OutD → Option (Int × Int × Bool)
 | (a, none) => some (a.1, a.2.1, a.2.2.1)
 | _ => none
theorem ZiZ : ∀ b r, ZdO b = some r → ZdM r = b := by
 rintro ⟨a, o⟩ r h
 cases o with
 | none => injection h with h; subst h; rfl
 | some _ => cases h
noncomputable def Z1W : Nat → Int → Int → List (Int × Int) → List (Int × Int × Int) → List Int → Int → Int → Int → Option (Int × Int)
 | 0, _, _, _, _, _, _, _, _ => none
 | k + 1, b1_0, b1_1, b1_2, o2, v1, v10, v11, v12 =>
  if decide (v12 < b1_1) = true then Option.bind (Z9y k (b1_0, b1_1, b1_2) o2 v1 v12) fun z2 => if decide (z2 > v11) = true then Z1W k b1_0 b1_1 b1_2 o2 v1 v12 z2 (wrap64 (v12 + (1 : Int))) else Z1W k b1_0 b1_1 b1_2 o2 v1 v10 v11 (wrap64 (v12 + (1 : Int))) else some (v10, v11)
noncomputable def Z8r : Spec := Spec.mk [OSh.ro, OSh.box (26 : Nat) [Sh.int .i64, Sh.int .i64, Sh.snap (0 : Nat) (Ty.pair (Ty.int .i64) (Ty.int .i64))], OSh.row true (42 : Nat) (Ty.pair (Ty.int .i64) (Ty.pair (Ty.int .i64) (Ty.int .i64)))] [((1 : Nat), TSh.at (Sh.snap (0 : Nat) (Ty.int .i64))), ((3 : Nat), TSh.at (Sh.ptr (1 : Nat) (0 : Nat))), ((9 : Nat), TSh.at (Sh.sl (2 : Nat))), ((10 : Nat), TSh.at (Sh.int .i64)), ((11 : Nat), TSh.at (Sh.int .i64)), ((12 : Nat), TSh.at (Sh.int .i64))]
noncomputable def Zkk : Spec := Spec.mk [OSh.ro] [((10 : Nat), TSh.at (Sh.int .i64)), ((11 : Nat), TSh.at (Sh.int .i64))]
noncomputable def Z2H : LoopDef (Tup Z3v × OutD) := .plain Z8r Zkk (Int × Int) (fun k x => Z1W k x.1.2.1.1 x.1.2.1.2.1 x.1.2.1.2.2.1 x.1.2.2.1 x.2.1 x.2.2.2.2.1 x.2.2.2.2.2.1 x.2.2.2.2.2.2.1) (fun z => (((), ()), (z.1, z.2, ()))) (fun y => (y.2.1, y.2.2.1)) (fun _ => rfl)
noncomputable def Z7h : Nat → Int × Int × List (Int × Int) → List Int → List (Int × Int × Int) → Option (Int × Int × Bool)
 | 0, _, _, _ => none
 | k + 1, p0, p1, p2 =>
  Option.bind (Z4J k (Prod.fst p0, Prod.fst p0.2, Prod.snd p0.2) p1 p2) fun z0 => if (!z0) = true then some ((0 : Int), (0 : Int), false) else Option.bind (Z4n k (Prod.fst p0, Prod.fst p0.2, Prod.snd p0.2) p1 p2) fun z1 => if decide ((↑(List.length z1) : Int) = (0 : Int)) = true then some ((0 : Int), (0 : Int), false) else Option.bind (Z1W k p0.1 p0.2.1 p0.2.2 z1 p1 (0 : Int) (0 : Int) (0 : Int)) fun z3 => some (Prod.fst z3, Prod.snd z3, true)
noncomputable def Z1Q : FnDef := .of ZeW Z3v (Int × Int × Bool) (fun k x => Z7h k x.1 x.2.1 x.2.2.1) ZdM ZdO ZiZ
noncomputable def Z7p : Code := Tryz.f8.body.getD .skip
noncomputable def Z2F : Ctx (Tup Z3v × OutD) := { T := T, G := [(49, Z20.E), (50, Z1C.E), (51, Z3r.E)], mvs := [], no := 0, n := 44, res := resOf T ZeW Z3v Tryz.f8.results.toList, loops := [(0, Z2H.E)], regs := [], conds := [], cuts := [] }
theorem ZeJ (k : Nat) : EnvOK Tryz.prog k Z2F.G := (EnvOK.cons (Z9g k) (EnvOK.cons (Z9t k) (EnvOK.cons (ZlP k) (EnvOK.nil mixed))))
noncomputable def Z5q : Code := (findLoop 0 Z7p).getD .skip
theorem Zkp (k : Nat) (x : Z8r.D) : Z2H.lp (k + 1) x = loopK Z2F Z2H 0 Z5q k x := by kernel_rfl
theorem Zki (k : Nat) : LOK Tryz.prog Z2F k Z5q := LOK.by [] (by kernel_rfl) AllOK.nil
theorem Zjz (x : Z8r.D) : Z2H.lp 0 x = none := by kernel_rfl
theorem Zj9 (k : Nat) : EOK Tryz.prog Z2F k Z2H.E (.block 0 (.loop Z5q)) := Zr T_ok ZeJ Zjz Zkp Zki k
theorem ZnY (k : Nat) (x : Tup Z1Q.ps) : Z1Q.f (k + 1) x = fnK Z1Q Z2F Z7p k x := by kernel_rfl
theorem Zo6 (x : Tup Z1Q.ps) : Z1Q.f 0 x = none := by kernel_rfl
theorem ZoK (k : Nat) : LOK Tryz.prog Z2F k Z7p := LOK.by [(Z2H.E, .block 0 (.loop Z5q))] (by kernel_rfl) (AllOK.cons (Zj9 k) AllOK.nil)
theorem ZnN (k : Nat) : SoundAt Tryz.prog k 8 Z1Q.E := @Zk Tryz.prog Z1Q Z2F 8 Tryz.f8 Z7p (by kernel_rfl) (by kernel_rfl) (by kernel_rfl) Tryz.func8 (by kernel_rfl) (by kernel_rfl) (by kernel_rfl) T_ok ZeJ ZoK Zo6 ZnY k
noncomputable def Z63 : List PK := [PK.mk (Ty.slice (3 : Nat) (Ty.int .i64)) false none false none, PK.mk Ty.bool false none false none]
noncomputable def Zgn : List PK := [PK.mk (Ty.pair (Ty.int .i64) (Ty.pair (Ty.int .i64) (Ty.slice (122 : Nat) (Ty.pair (Ty.int .i64) (Ty.int .i64))))) true none false none, PK.mk (Ty.slice (3 : Nat) (Ty.int .i64)) false none false none, PK.mk (Ty.slice (67 : Nat) (Ty.pair (Ty.int .i64) (Ty.pair (Ty.int .i64) (Ty.int .i64)))) false none false none]
noncomputable def ZfG (r : List Int × Bool) : Tup Z63 × OutD := ((r.1, r.2, ()), none)
noncomputable def ZfW : Tup Z63 × OutD → Option (List Int × Bool)
 | (a, none) => some (a.1, a.2.1)
 | _ => none
theorem Zls : ∀ b r, ZfW b = some r → ZfG r = b := by
 rintro ⟨a, o⟩ r h
 cases o with
 | none => injection h with h; subst h; rfl
 | some _ => cases h
noncomputable def Z8Q : Nat → Int × Int × List (Int × Int) → List Int → List (Int × Int × Int) → Option (List Int × Bool)
 | 0, _, _, _ => none
 | k + 1, p0, p1, p2 =>
  Option.bind (Z4K k (Prod.fst p0, Prod.fst p0.2, Prod.snd p0.2) p1 p2) fun z0 => if (!z0) = true then some ([], false) else Option.bind (Z1G k (Prod.fst p0, Prod.fst p0.2, Prod.snd p0.2) p1 p2) fun z1 => Option.bind (Z8n k (Prod.fst p0, Prod.fst p0.2, Prod.snd p0.2) z1 true) fun z2 => some (z2, true)
noncomputable def Z2e : FnDef := .of Zgn Z63 (List Int × Bool) (fun k x => Z8Q k x.1 x.2.1 x.2.2.1) ZfG ZfW Zls
noncomputable def Zc2 : Code := Tryz.f9.body.getD .skip
noncomputable def Z8J : Ctx (Tup Z63 × OutD) := { T := T, G := [(46, Z1Y.E), (47, ZM.E), (52, Z2Q.E)], mvs := [], no := 0, n := 19, res := resOf T Zgn Z63 Tryz.f9.results.toList, loops := [], regs := [], conds := [], cuts := [] }
theorem Zsi (k : Nat) : EnvOK Tryz.prog k Z8J.G := (EnvOK.cons (Z9i k) (EnvOK.cons (Z4u k) (EnvOK.cons (Zk1 k) (EnvOK.nil mixed))))
theorem Zrt (k : Nat) (x : Tup Z2e.ps) : Z2e.f (k + 1) x = fnK Z2e Z8J Zc2 k x := by kernel_rfl
theorem ZqY (x : Tup Z2e.ps) : Z2e.f 0 x = none := by kernel_rfl
theorem ZrS (k : Nat) : LOK Tryz.prog Z8J k Zc2 := LOK.by [] (by kernel_rfl) AllOK.nil
theorem Zrf (k : Nat) : SoundAt Tryz.prog k 9 Z2e.E := @Zk Tryz.prog Z2e Z8J 9 Tryz.f9 Zc2 (by kernel_rfl) (by kernel_rfl) (by kernel_rfl) Tryz.func9 (by kernel_rfl) (by kernel_rfl) (by kernel_rfl) T_ok Zsi ZrS ZqY Zrt k
noncomputable def Z7F : List PK := [PK.mk (Ty.slice (3 : Nat) (Ty.int .i64)) false none false none, PK.mk Ty.bool false none false none]
noncomputable def Zie : List PK := [PK.mk (Ty.pair (Ty.int .i64) (Ty.pair (Ty.int .i64) (Ty.slice (122 : Nat) (Ty.pair (Ty.int .i64) (Ty.int .i64))))) true none false none, PK.mk (Ty.slice (3 : Nat) (Ty.int .i64)) false none false none, PK.mk (Ty.slice (67 : Nat) (Ty.pair (Ty.int .i64) (Ty.pair (Ty.int .i64) (Ty.int .i64)))) false none false none]
noncomputable def ZhC (r : List Int × Bool) : Tup Z7F × OutD := ((r.1, r.2, ()), none)
noncomputable def Zhy : Tup Z7F × OutD → Option (List Int × Bool)
 | (a, none) => some (a.1, a.2.1)
 | _ => none
theorem ZnF : ∀ b r, Zhy b = some r → ZhC r = b := by
 rintro ⟨a, o⟩ r h
 cases o with
 | none => injection h with h; subst h; rfl
 | some _ => cases h
noncomputable def Zal : Nat → Int × Int × List (Int × Int) → List Int → List (Int × Int × Int) → Option (List Int × Bool)
 | 0, _, _, _ => none
 | k + 1, p0, p1, p2 =>
  Option.bind (Z4K k (Prod.fst p0, Prod.fst p0.2, Prod.snd p0.2) p1 p2) fun z0 => if (!z0) = true then some ([], false) else Option.bind (Z1G k (Prod.fst p0, Prod.fst p0.2, Prod.snd p0.2) p1 p2) fun z1 => if decide ((↑(List.length z1) : Int) = (0 : Int)) = true then some ([], false) else Option.bind (Z8n k (Prod.fst p0, Prod.fst p0.2, Prod.snd p0.2) z1 false) fun z2 => some (z2, true)
noncomputable def Z3d : FnDef := .of Zie Z7F (List Int × Bool) (fun k x => Zal k x.1 x.2.1 x.2.2.1) ZhC Zhy ZnF
noncomputable def Zdv : Code := Tryz.f11.body.getD .skip
noncomputable def Zar : Ctx (Tup Z7F × OutD) := { T := T, G := [(46, Z1Y.E), (47, ZM.E), (52, Z2Q.E)], mvs := [], no := 0, n := 24, res := resOf T Zie Z7F Tryz.f11.results.toList, loops := [], regs := [], conds := [], cuts := [] }
theorem ZuT (k : Nat) : EnvOK Tryz.prog k Zar.G := (EnvOK.cons (Z9i k) (EnvOK.cons (Z4u k) (EnvOK.cons (Zk1 k) (EnvOK.nil mixed))))
theorem Zuk (k : Nat) (x : Tup Z3d.ps) : Z3d.f (k + 1) x = fnK Z3d Zar Zdv k x := by kernel_rfl
theorem ZuI (x : Tup Z3d.ps) : Z3d.f 0 x = none := by kernel_rfl
theorem ZuG (k : Nat) : LOK Tryz.prog Zar k Zdv := LOK.by [] (by kernel_rfl) AllOK.nil
theorem ZuK (k : Nat) : SoundAt Tryz.prog k 11 Z3d.E := @Zk Tryz.prog Z3d Zar 11 Tryz.f11 Zdv (by kernel_rfl) (by kernel_rfl) (by kernel_rfl) Tryz.func11 (by kernel_rfl) (by kernel_rfl) (by kernel_rfl) T_ok ZuT ZuG ZuI Zuk k
noncomputable def Z5D : List PK := [PK.mk Ty.str false none false none, PK.mk Ty.bool false none false none]
noncomputable def ZiQ : List PK := [PK.mk (Ty.pair (Ty.int .i64) (Ty.pair (Ty.int .i64) (Ty.slice (122 : Nat) (Ty.pair (Ty.int .i64) (Ty.int .i64))))) true none false none, PK.mk (Ty.slice (3 : Nat) (Ty.int .i64)) false none false none, PK.mk (Ty.slice (67 : Nat) (Ty.pair (Ty.int .i64) (Ty.pair (Ty.int .i64) (Ty.int .i64)))) false none false none]
noncomputable def Zhd (r : ByteArray × Bool) : Tup Z5D × OutD := ((r.1, r.2, ()), none)
noncomputable def Zho : Tup Z5D × OutD → Option (ByteArray × Bool)
 | (a, none) => some (a.1, a.2.1)
 | _ => none
theorem Znp : ∀ b r, Zho b = some r → Zhd r = b := by
 rintro ⟨a, o⟩ r h
 cases o with
 | none => injection h with h; subst h; rfl
 | some _ => cases h
noncomputable def Z4z : Nat → List (Int × Int × Int) → ByteArray → Int → Int → Option ByteArray
 | 0, _, _, _, _ => none
 | k + 1, o1, v8, v22, v23 =>
  if decide (v23 < v22) = true then if (0 : Int) ≤ v23 then if v23 < (↑(List.length o1) : Int) then Option.bind (Z8y k (Prod.fst (List.getD o1 (Int.toNat v23) ((0 : Int), (0 : Int), (0 : Int))), Prod.fst (Prod.snd (List.getD o1 (Int.toNat v23) ((0 : Int), (0 : Int), (0 : Int)))), Prod.snd (Prod.snd (List.getD o1 (Int.toNat v23) ((0 : Int), (0 : Int), (0 : Int)))))) fun z2 => if ByteArray.size z2.1 + ByteArray.size (ByteArray.mk #[(10 : UInt8)]) ≤ (9223372036854775807 : Nat) then if ByteArray.size v8 + ByteArray.size (Prod.fst z2 ++ ByteArray.mk #[(10 : UInt8)]) ≤ (9223372036854775807 : Nat) then Z4z k o1 (v8 ++ (Prod.fst z2 ++ ByteArray.mk #[(10 : UInt8)])) v22 (wrap64 (v23 + (1 : Int))) else none else none else none else none else some v8
noncomputable def Zb9 : Spec := Spec.mk [OSh.ro, OSh.row true (42 : Nat) (Ty.pair (Ty.int .i64) (Ty.pair (Ty.int .i64) (Ty.int .i64)))] [((8 : Nat), TSh.at Sh.str), ((21 : Nat), TSh.at (Sh.sl (1 : Nat))), ((22 : Nat), TSh.at (Sh.int .i64)), ((23 : Nat), TSh.at (Sh.int .i64))]
noncomputable def ZpZ : Spec := Spec.mk [OSh.ro] [((8 : Nat), TSh.at Sh.str)]
noncomputable def Z42 : LoopDef (Tup Z5D × OutD) := .plain Zb9 ZpZ (ByteArray) (fun k x => Z4z k x.1.2.1 x.2.1 x.2.2.2.1 x.2.2.2.2.1) (fun z => (((), ()), (z, ()))) (fun y => (y.2.1)) (fun _ => rfl)
noncomputable def Zaf : Nat → Int × Int × List (Int × Int) → List Int → List (Int × Int × Int) → Option (ByteArray × Bool)
 | 0, _, _, _ => none
 | k + 1, p0, p1, p2 =>
  Option.bind (Z4K k (Prod.fst p0, Prod.fst p0.2, Prod.snd p0.2) p1 p2) fun z0 => if (!z0) = true then some (ByteArray.mk #[], false) else Option.bind (Z1G k (Prod.fst p0, Prod.fst p0.2, Prod.snd p0.2) p1 p2) fun z1 => Option.bind (Z4z k z1 (ByteArray.mk #[]) (↑(List.length z1) : Int) (0 : Int)) fun z3 => some (z3, true)
noncomputable def Z38 : FnDef := .of ZiQ Z5D (ByteArray × Bool) (fun k x => Zaf k x.1 x.2.1 x.2.2.1) Zhd Zho Znp
noncomputable def Zac : Code := Tryz.f13.body.getD .skip
noncomputable def Z4c : Ctx (Tup Z5D × OutD) := { T := T, G := [(46, Z1Y.E), (47, ZM.E), (18, Z2T.E)], mvs := [], no := 0, n := 38, res := resOf T ZiQ Z5D Tryz.f13.results.toList, loops := [(0, Z42.E)], regs := [], conds := [], cuts := [] }
theorem Zix (k : Nat) : EnvOK Tryz.prog k Z4c.G := (EnvOK.cons (Z9i k) (EnvOK.cons (Z4u k) (EnvOK.cons (Zkm k) (EnvOK.nil mixed))))
noncomputable def Z86 : Code := (findLoop 0 Zac).getD .skip
theorem Zpw (k : Nat) (x : Zb9.D) : Z42.lp (k + 1) x = loopK Z4c Z42 0 Z86 k x := by kernel_rfl
theorem ZpF (k : Nat) : LOK Tryz.prog Z4c k Z86 := LOK.by [] (by kernel_rfl) AllOK.nil
theorem Zpd (x : Zb9.D) : Z42.lp 0 x = none := by kernel_rfl
theorem Zoi (k : Nat) : EOK Tryz.prog Z4c k Z42.E (.block 0 (.loop Z86)) := Zr T_ok Zix Zpd Zpw ZpF k
theorem Zuf (k : Nat) (x : Tup Z38.ps) : Z38.f (k + 1) x = fnK Z38 Z4c Zac k x := by kernel_rfl
theorem Zv3 (x : Tup Z38.ps) : Z38.f 0 x = none := by kernel_rfl
theorem Zvq (k : Nat) : LOK Tryz.prog Z4c k Zac := LOK.by [(Z42.E, .block 0 (.loop Z86))] (by kernel_rfl) (AllOK.cons (Zoi k) AllOK.nil)
theorem ZuB (k : Nat) : SoundAt Tryz.prog k 13 Z38.E := @Zk Tryz.prog Z38 Z4c 13 Tryz.f13 Zac (by kernel_rfl) (by kernel_rfl) (by kernel_rfl) Tryz.func13 (by kernel_rfl) (by kernel_rfl) (by kernel_rfl) T_ok Zix Zvq Zv3 Zuf k
noncomputable def Z5E : List PK := [PK.mk Ty.str false none false none, PK.mk Ty.bool false none false none]
noncomputable def ZiD : List PK := [PK.mk (Ty.pair (Ty.int .i64) (Ty.pair (Ty.int .i64) (Ty.slice (122 : Nat) (Ty.pair (Ty.int .i64) (Ty.int .i64))))) true none false none, PK.mk (Ty.slice (3 : Nat) (Ty.int .i64)) false none false none, PK.mk (Ty.slice (67 : Nat) (Ty.pair (Ty.int .i64) (Ty.pair (Ty.int .i64) (Ty.int .i64)))) false none false none]
noncomputable def ZhL (r : ByteArray × Bool) : Tup Z5E × OutD := ((r.1, r.2, ()), none)
noncomputable def Zhm : Tup Z5E × OutD → Option (ByteArray × Bool)
 | (a, none) => some (a.1, a.2.1)
 | _ => none
theorem Zo1 : ∀ b r, Zhm b = some r → ZhL r = b := by
 rintro ⟨a, o⟩ r h
 cases o with
 | none => injection h with h; subst h; rfl
 | some _ => cases h
noncomputable def Z4C : Nat → List (Int × Int × Int) → ByteArray → Int → Int → Option ByteArray
 | 0, _, _, _, _ => none
 | k + 1, o1, v8, v20, v21 =>
  if decide (v21 < v20) = true then if (0 : Int) ≤ v21 then if v21 < (↑(List.length o1) : Int) then Option.bind (Ze9 k (Prod.fst (List.getD o1 (Int.toNat v21) ((0 : Int), (0 : Int), (0 : Int))), Prod.fst (Prod.snd (List.getD o1 (Int.toNat v21) ((0 : Int), (0 : Int), (0 : Int)))), Prod.snd (Prod.snd (List.getD o1 (Int.toNat v21) ((0 : Int), (0 : Int), (0 : Int)))))) fun z2 => if ByteArray.size z2 + ByteArray.size (ByteArray.mk #[(10 : UInt8)]) ≤ (9223372036854775807 : Nat) then if ByteArray.size v8 + ByteArray.size (z2 ++ ByteArray.mk #[(10 : UInt8)]) ≤ (9223372036854775807 : Nat) then Z4C k o1 (v8 ++ (z2 ++ ByteArray.mk #[(10 : UInt8)])) v20 (wrap64 (v21 + (1 : Int))) else none else none else none else none else some v8
noncomputable def Zbh : Spec := Spec.mk [OSh.ro, OSh.row true (42 : Nat) (Ty.pair (Ty.int .i64) (Ty.pair (Ty.int .i64) (Ty.int .i64)))] [((8 : Nat), TSh.at Sh.str), ((19 : Nat), TSh.at (Sh.sl (1 : Nat))), ((20 : Nat), TSh.at (Sh.int .i64)), ((21 : Nat), TSh.at (Sh.int .i64))]
noncomputable def Zpl : Spec := Spec.mk [OSh.ro] [((8 : Nat), TSh.at Sh.str)]
noncomputable def Z41 : LoopDef (Tup Z5E × OutD) := .plain Zbh Zpl (ByteArray) (fun k x => Z4C k x.1.2.1 x.2.1 x.2.2.2.1 x.2.2.2.2.1) (fun z => (((), ()), (z, ()))) (fun y => (y.2.1)) (fun _ => rfl)
noncomputable def Zaa : Nat → Int × Int × List (Int × Int) → List Int → List (Int × Int × Int) → Option (ByteArray × Bool)
 | 0, _, _, _ => none
 | k + 1, p0, p1, p2 =>
  Option.bind (Z4J k (Prod.fst p0, Prod.fst p0.2, Prod.snd p0.2) p1 p2) fun z0 => if (!z0) = true then some (ByteArray.mk #[], false) else Option.bind (Z4n k (Prod.fst p0, Prod.fst p0.2, Prod.snd p0.2) p1 p2) fun z1 => Option.bind (Z4C k z1 (ByteArray.mk #[]) (↑(List.length z1) : Int) (0 : Int)) fun z3 => some (z3, true)
noncomputable def Z3c : FnDef := .of ZiD Z5E (ByteArray × Bool) (fun k x => Zaa k x.1 x.2.1 x.2.2.1) ZhL Zhm Zo1
noncomputable def Zah : Code := Tryz.f14.body.getD .skip
noncomputable def Z4a : Ctx (Tup Z5E × OutD) := { T := T, G := [(49, Z20.E), (50, Z1C.E), (55, Z5R.E)], mvs := [], no := 0, n := 32, res := resOf T ZiD Z5E Tryz.f14.results.toList, loops := [(0, Z41.E)], regs := [], conds := [], cuts := [] }
theorem Ziv (k : Nat) : EnvOK Tryz.prog k Z4a.G := (EnvOK.cons (Z9g k) (EnvOK.cons (Z9t k) (EnvOK.cons (ZBg k) (EnvOK.nil mixed))))
noncomputable def Z7Z : Code := (findLoop 0 Zah).getD .skip
theorem Zpe (k : Nat) (x : Zbh.D) : Z41.lp (k + 1) x = loopK Z4a Z41 0 Z7Z k x := by kernel_rfl
theorem ZpN (k : Nat) : LOK Tryz.prog Z4a k Z7Z := LOK.by [] (by kernel_rfl) AllOK.nil
theorem Zp0 (x : Zbh.D) : Z41.lp 0 x = none := by kernel_rfl
theorem Znz (k : Nat) : EOK Tryz.prog Z4a k Z41.E (.block 0 (.loop Z7Z)) := Zr T_ok Ziv Zp0 Zpe ZpN k
theorem Zus (k : Nat) (x : Tup Z3c.ps) : Z3c.f (k + 1) x = fnK Z3c Z4a Zah k x := by kernel_rfl
theorem Zv0 (x : Tup Z3c.ps) : Z3c.f 0 x = none := by kernel_rfl
theorem Zvd (k : Nat) : LOK Tryz.prog Z4a k Zah := LOK.by [(Z41.E, .block 0 (.loop Z7Z))] (by kernel_rfl) (AllOK.cons (Znz k) AllOK.nil)
theorem ZuM (k : Nat) : SoundAt Tryz.prog k 14 Z3c.E := @Zk Tryz.prog Z3c Z4a 14 Tryz.f14 Zah (by kernel_rfl) (by kernel_rfl) (by kernel_rfl) Tryz.func14 (by kernel_rfl) (by kernel_rfl) (by kernel_rfl) T_ok Ziv Zvd Zv0 Zus k
noncomputable def Z64 : List PK := [PK.mk (Ty.slice (42 : Nat) (Ty.pair (Ty.int .i64) (Ty.pair (Ty.int .i64) (Ty.int .i64)))) false none false none, PK.mk Ty.bool false none false none]
noncomputable def Zg6 : List PK := [PK.mk (Ty.pair (Ty.int .i64) (Ty.pair (Ty.int .i64) (Ty.slice (122 : Nat) (Ty.pair (Ty.int .i64) (Ty.int .i64))))) true none false none, PK.mk (Ty.slice (3 : Nat) (Ty.int .i64)) false none false none, PK.mk (Ty.slice (67 : Nat) (Ty.pair (Ty.int .i64) (Ty.pair (Ty.int .i64) (Ty.int .i64)))) false none false none]
noncomputable def Zg0 (r : List (Int × Int × Int) × Bool) : Tup Z64 × OutD := ((r.1, r.2, ()), none)
noncomputable def ZfB : Tup Z64 × OutD → Option (List (Int × Int × Int) × Bool)
 | (a, none) => some (a.1, a.2.1)
 | _ => none
theorem ZkY : ∀ b r, ZfB b = some r → Zg0 r = b := by
 rintro ⟨a, o⟩ r h
 cases o with
 | none => injection h with h; subst h; rfl
 | some _ => cases h
noncomputable def Z8Y : Nat → Int × Int × List (Int × Int) → List Int → List (Int × Int × Int) → Option (List (Int × Int × Int) × Bool)
 | 0, _, _, _ => none
 | k + 1, p0, p1, p2 =>
  Option.bind (Z4K k (Prod.fst p0, Prod.fst p0.2, Prod.snd p0.2) p1 p2) fun z0 => if (!z0) = true then some ([], false) else Option.bind (Z1G k (Prod.fst p0, Prod.fst p0.2, Prod.snd p0.2) p1 p2) fun z1 => some (z1, true)
noncomputable def Z2j : FnDef := .of Zg6 Z64 (List (Int × Int × Int) × Bool) (fun k x => Z8Y k x.1 x.2.1 x.2.2.1) Zg0 ZfB ZkY
noncomputable def Zc7 : Code := Tryz.f16.body.getD .skip
noncomputable def Z8P : Ctx (Tup Z64 × OutD) := { T := T, G := [(46, Z1Y.E), (47, ZM.E)], mvs := [], no := 0, n := 17, res := resOf T Zg6 Z64 Tryz.f16.results.toList, loops := [], regs := [], conds := [], cuts := [] }
theorem Zse (k : Nat) : EnvOK Tryz.prog k Z8P.G := (EnvOK.cons (Z9i k) (EnvOK.cons (Z4u k) (EnvOK.nil mixed)))
theorem ZrI (k : Nat) (x : Tup Z2j.ps) : Z2j.f (k + 1) x = fnK Z2j Z8P Zc7 k x := by kernel_rfl
theorem ZrO (x : Tup Z2j.ps) : Z2j.f 0 x = none := by kernel_rfl
theorem ZrF (k : Nat) : LOK Tryz.prog Z8P k Zc7 := LOK.by [] (by kernel_rfl) AllOK.nil
theorem Zrx (k : Nat) : SoundAt Tryz.prog k 16 Z2j.E := @Zk Tryz.prog Z2j Z8P 16 Tryz.f16 Zc7 (by kernel_rfl) (by kernel_rfl) (by kernel_rfl) Tryz.func16 (by kernel_rfl) (by kernel_rfl) (by kernel_rfl) T_ok Zse ZrF ZrO ZrI k
noncomputable def Z6c : List PK := [PK.mk (Ty.slice (42 : Nat) (Ty.pair (Ty.int .i64) (Ty.pair (Ty.int .i64) (Ty.int .i64)))) false none false none, PK.mk Ty.bool false none false none]
noncomputable def Zgw : List PK := [PK.mk (Ty.pair (Ty.int .i64) (Ty.pair (Ty.int .i64) (Ty.slice (122 : Nat) (Ty.pair (Ty.int .i64) (Ty.int .i64))))) true none false none, PK.mk (Ty.slice (3 : Nat) (Ty.int .i64)) false none false none, PK.mk (Ty.slice (67 : Nat) (Ty.pair (Ty.int .i64) (Ty.pair (Ty.int .i64) (Ty.int .i64)))) false none false none]
noncomputable def ZfP (r : List (Int × Int × Int) × Bool) : Tup Z6c × OutD := ((r.1, r.2, ()), none)
noncomputable def ZfC : Tup Z6c × OutD → Option (List (Int × Int × Int) × Bool)
 | (a, none) => some (a.1, a.2.1)
 | _ => none
theorem Zlb : ∀ b r, ZfC b = some r → ZfP r = b := by
 rintro ⟨a, o⟩ r h
 cases o with
 | none => injection h with h; subst h; rfl
 | some _ => cases h
noncomputable def Z92 : Nat → Int × Int × List (Int × Int) → List Int → List (Int × Int × Int) → Option (List (Int × Int × Int) × Bool)
 | 0, _, _, _ => none
 | k + 1, p0, p1, p2 =>
  Option.bind (Z4J k (Prod.fst p0, Prod.fst p0.2, Prod.snd p0.2) p1 p2) fun z0 => if (!z0) = true then some ([], false) else Option.bind (Z4n k (Prod.fst p0, Prod.fst p0.2, Prod.snd p0.2) p1 p2) fun z1 => some (z1, true)
noncomputable def Z2g : FnDef := .of Zgw Z6c (List (Int × Int × Int) × Bool) (fun k x => Z92 k x.1 x.2.1 x.2.2.1) ZfP ZfC Zlb
noncomputable def Zc3 : Code := Tryz.f17.body.getD .skip
noncomputable def Z8S : Ctx (Tup Z6c × OutD) := { T := T, G := [(49, Z20.E), (50, Z1C.E)], mvs := [], no := 0, n := 17, res := resOf T Zgw Z6c Tryz.f17.results.toList, loops := [], regs := [], conds := [], cuts := [] }
theorem Zs2 (k : Nat) : EnvOK Tryz.prog k Z8S.G := (EnvOK.cons (Z9g k) (EnvOK.cons (Z9t k) (EnvOK.nil mixed)))
theorem Zrm (k : Nat) (x : Tup Z2g.ps) : Z2g.f (k + 1) x = fnK Z2g Z8S Zc3 k x := by kernel_rfl
theorem Zs4 (x : Tup Z2g.ps) : Z2g.f 0 x = none := by kernel_rfl
theorem Zr0 (k : Nat) : LOK Tryz.prog Z8S k Zc3 := LOK.by [] (by kernel_rfl) AllOK.nil
theorem Zrh (k : Nat) : SoundAt Tryz.prog k 17 Z2g.E := @Zk Tryz.prog Z2g Z8S 17 Tryz.f17 Zc3 (by kernel_rfl) (by kernel_rfl) (by kernel_rfl) Tryz.func17 (by kernel_rfl) (by kernel_rfl) (by kernel_rfl) T_ok Zs2 Zr0 Zs4 Zrm k
noncomputable def Z67 : List PK := [PK.mk (Ty.int .i64) false none false none, PK.mk Ty.bool false none false none]
noncomputable def Zgb : List PK := [PK.mk (Ty.pair (Ty.int .i64) (Ty.pair (Ty.int .i64) (Ty.slice (122 : Nat) (Ty.pair (Ty.int .i64) (Ty.int .i64))))) true none false none, PK.mk (Ty.slice (3 : Nat) (Ty.int .i64)) false none false none, PK.mk (Ty.slice (67 : Nat) (Ty.pair (Ty.int .i64) (Ty.pair (Ty.int .i64) (Ty.int .i64)))) false none false none, PK.mk (Ty.int .i64) false none false none]
noncomputable def Zfi (r : Int × Bool) : Tup Z67 × OutD := ((r.1, r.2, ()), none)
noncomputable def ZfN : Tup Z67 × OutD → Option (Int × Bool)
 | (a, none) => some (a.1, a.2.1)
 | _ => none
theorem ZkU : ∀ b r, ZfN b = some r → Zfi r = b := by
 rintro ⟨a, o⟩ r h
 cases o with
 | none => injection h with h; subst h; rfl
 | some _ => cases h
noncomputable def Z6a : Nat → Int × Int × List (Int × Int) → List Int → List (Int × Int × Int) → Int → Option (Int × Bool)
 | 0, _, _, _, _ => none
 | k + 1, p0, p1, p2, p3 =>
  Option.bind (Z4K k (Prod.fst p0, Prod.fst p0.2, Prod.snd p0.2) p1 p2) fun z0 => if (!z0) = true then some ((0 : Int), false) else if decide (p3 < (0 : Int)) = true then some ((0 : Int), false) else if decide (p3 ≥ Prod.fst p0.2) = true then some ((0 : Int), false) else Option.bind (Z1G k (Prod.fst p0, Prod.fst p0.2, Prod.snd p0.2) p1 p2) fun z1 => if decide ((↑(List.length z1) : Int) = (0 : Int)) = true then some ((0 : Int), false) else Option.bind (Z61 k (Prod.fst p0, Prod.fst p0.2, Prod.snd p0.2) z1 p1 p3) fun z2 => some (z2, true)
noncomputable def Z2d : FnDef := .of Zgb Z67 (Int × Bool) (fun k x => Z6a k x.1 x.2.1 x.2.2.1 x.2.2.2.1) Zfi ZfN ZkU
noncomputable def Zc0 : Code := Tryz.f21.body.getD .skip
noncomputable def Z8R : Ctx (Tup Z67 × OutD) := { T := T, G := [(46, Z1Y.E), (47, ZM.E), (48, Z1I.E)], mvs := [], no := 0, n := 38, res := resOf T Zgb Z67 Tryz.f21.results.toList, loops := [], regs := [], conds := [], cuts := [] }
theorem Zre (k : Nat) : EnvOK Tryz.prog k Z8R.G := (EnvOK.cons (Z9i k) (EnvOK.cons (Z4u k) (EnvOK.cons (Zgv k) (EnvOK.nil mixed))))
theorem Zrj (k : Nat) (x : Tup Z2d.ps) : Z2d.f (k + 1) x = fnK Z2d Z8R Zc0 k x := by kernel_rfl
theorem ZrG (x : Tup Z2d.ps) : Z2d.f 0 x = none := by kernel_rfl
theorem ZrE (k : Nat) : LOK Tryz.prog Z8R k Zc0 := LOK.by [] (by kernel_rfl) AllOK.nil
theorem ZrC (k : Nat) : SoundAt Tryz.prog k 21 Z2d.E := @Zk Tryz.prog Z2d Z8R 21 Tryz.f21 Zc0 (by kernel_rfl) (by kernel_rfl) (by kernel_rfl) Tryz.func21 (by kernel_rfl) (by kernel_rfl) (by kernel_rfl) T_ok Zre ZrE ZrG Zrj k
noncomputable def Z66 : List PK := [PK.mk (Ty.int .i64) false none false none, PK.mk Ty.bool false none false none]
noncomputable def Zg3 : List PK := [PK.mk (Ty.pair (Ty.int .i64) (Ty.pair (Ty.int .i64) (Ty.slice (122 : Nat) (Ty.pair (Ty.int .i64) (Ty.int .i64))))) true none false none, PK.mk (Ty.slice (3 : Nat) (Ty.int .i64)) false none false none, PK.mk (Ty.slice (67 : Nat) (Ty.pair (Ty.int .i64) (Ty.pair (Ty.int .i64) (Ty.int .i64)))) false none false none, PK.mk (Ty.int .i64) false none false none]
noncomputable def Zfg (r : Int × Bool) : Tup Z66 × OutD := ((r.1, r.2, ()), none)
noncomputable def Zfn : Tup Z66 × OutD → Option (Int × Bool)
 | (a, none) => some (a.1, a.2.1)
 | _ => none
theorem Zlc : ∀ b r, Zfn b = some r → Zfg r = b := by
 rintro ⟨a, o⟩ r h
 cases o with
 | none => injection h with h; subst h; rfl
 | some _ => cases h
noncomputable def Z8Z : Nat → Int × Int × List (Int × Int) → List Int → List (Int × Int × Int) → Int → Option (Int × Bool)
 | 0, _, _, _, _ => none
 | k + 1, p0, p1, p2, p3 =>
  Option.bind (Z4J k (Prod.fst p0, Prod.fst p0.2, Prod.snd p0.2) p1 p2) fun z0 => if (!z0) = true then some ((0 : Int), false) else Option.bind (Z2L k p3 (0 : Int) (wrap64 (Prod.fst p0.2 - (1 : Int)))) fun z1 => if (!z1) = true then some ((0 : Int), false) else Option.bind (Z4n k (Prod.fst p0, Prod.fst p0.2, Prod.snd p0.2) p1 p2) fun z2 => if decide ((↑(List.length z2) : Int) = (0 : Int)) = true then some ((0 : Int), false) else Option.bind (Z9y k (Prod.fst p0, Prod.fst p0.2, Prod.snd p0.2) z2 p1 p3) fun z3 => some (z3, true)
noncomputable def Z2c : FnDef := .of Zg3 Z66 (Int × Bool) (fun k x => Z8Z k x.1 x.2.1 x.2.2.1 x.2.2.2.1) Zfg Zfn Zlc
noncomputable def ZbW : Code := Tryz.f23.body.getD .skip
noncomputable def Z8W : Ctx (Tup Z66 × OutD) := { T := T, G := [(49, Z20.E), (59, Z2K.E), (50, Z1C.E), (51, Z3r.E)], mvs := [], no := 0, n := 36, res := resOf T Zg3 Z66 Tryz.f23.results.toList, loops := [], regs := [], conds := [], cuts := [] }
theorem Zs6 (k : Nat) : EnvOK Tryz.prog k Z8W.G := (EnvOK.cons (Z9g k) (EnvOK.cons (Za5 k) (EnvOK.cons (Z9t k) (EnvOK.cons (ZlP k) (EnvOK.nil mixed)))))
theorem Zsa (k : Nat) (x : Tup Z2c.ps) : Z2c.f (k + 1) x = fnK Z2c Z8W ZbW k x := by kernel_rfl
theorem Zs7 (x : Tup Z2c.ps) : Z2c.f 0 x = none := by kernel_rfl
theorem Zs8 (k : Nat) : LOK Tryz.prog Z8W k ZbW := LOK.by [] (by kernel_rfl) AllOK.nil
theorem ZrP (k : Nat) : SoundAt Tryz.prog k 23 Z2c.E := @Zk Tryz.prog Z2c Z8W 23 Tryz.f23 ZbW (by kernel_rfl) (by kernel_rfl) (by kernel_rfl) Tryz.func23 (by kernel_rfl) (by kernel_rfl) (by kernel_rfl) T_ok Zs6 Zs8 Zs7 Zsa k
noncomputable def Z5F : List PK := [PK.mk (Ty.slice (3 : Nat) (Ty.int .i64)) false none false none]
noncomputable def Zif : List PK := [PK.mk (Ty.pair (Ty.int .i64) (Ty.pair (Ty.int .i64) (Ty.slice (122 : Nat) (Ty.pair (Ty.int .i64) (Ty.int .i64))))) true none false none, PK.mk (Ty.slice (3 : Nat) (Ty.int .i64)) false none false none, PK.mk (Ty.slice (67 : Nat) (Ty.pair (Ty.int .i64) (Ty.pair (Ty.int .i64) (Ty.int .i64)))) false none false none]
noncomputable def ZhG (r : List Int) : Tup Z5F × OutD := ((r, ()), none)
noncomputable def ZhI : Tup Z5F × OutD → Option (List Int)
 | (a, none) => some (a.1)
 | _ => none
theorem Znt : ∀ b r, ZhI b = some r → ZhG r = b := by
 rintro ⟨a, o⟩ r h
 cases o with
 | none => injection h with h; subst h; rfl
 | some _ => cases h
noncomputable def Z4B : Nat → Int → Int → List (Int × Int) → List Int → List (Int × Int × Int) → Int → Int → Option (List Int)
 | 0, _, _, _, _, _, _, _ => none
 | k + 1, b1_0, b1_1, b1_2, o2, o3, v14, v15 =>
  if decide (v15 < v14) = true then if (0 : Int) ≤ v15 then if v15 < (↑(List.length o3) : Int) then Option.bind (ZfU k o2 (wrap64 (wrap64 (Prod.fst (Prod.snd (List.getD o3 (Int.toNat v15) ((0 : Int), (0 : Int), (0 : Int)))) * b1_1) + Prod.snd (Prod.snd (List.getD o3 (Int.toNat v15) ((0 : Int), (0 : Int), (0 : Int))))))) fun z1 => Z4B k b1_0 b1_1 b1_2 z1 o3 v14 (wrap64 (v15 + (1 : Int))) else none else none else some o2
noncomputable def Zbn : Spec := Spec.mk [OSh.ro, OSh.box (26 : Nat) [Sh.int .i64, Sh.int .i64, Sh.snap (0 : Nat) (Ty.pair (Ty.int .i64) (Ty.int .i64))], OSh.row true (3 : Nat) (Ty.int .i64), OSh.row true (42 : Nat) (Ty.pair (Ty.int .i64) (Ty.pair (Ty.int .i64) (Ty.int .i64)))] [((3 : Nat), TSh.at (Sh.ptr (1 : Nat) (0 : Nat))), ((7 : Nat), TSh.at (Sh.sl (2 : Nat))), ((13 : Nat), TSh.at (Sh.sl (3 : Nat))), ((14 : Nat), TSh.at (Sh.int .i64)), ((15 : Nat), TSh.at (Sh.int .i64))]
noncomputable def ZpW : Spec := Spec.mk [OSh.ro, OSh.row true (3 : Nat) (Ty.int .i64)] [((7 : Nat), TSh.at (Sh.sl (1 : Nat)))]
noncomputable def Z40 : LoopDef (Tup Z5F × OutD) := .plain Zbn ZpW (List Int) (fun k x => Z4B k x.1.2.1.1 x.1.2.1.2.1 x.1.2.1.2.2.1 x.1.2.2.1 x.1.2.2.2.1 x.2.2.2.2.1 x.2.2.2.2.2.1) (fun z => (((), z, ()), ((), ()))) (fun y => (y.1.2.1)) (fun _ => rfl)
noncomputable def Z7L : Nat → Int × Int × List (Int × Int) → List Int → List (Int × Int × Int) → Option (List Int)
 | 0, _, _, _ => none
 | k + 1, p0, p1, p2 =>
  Option.bind (Z4n k (Prod.fst p0, Prod.fst p0.2, Prod.snd p0.2) p1 p2) fun z0 => Option.bind (Z4B k p0.1 p0.2.1 p0.2.2 [] z0 (↑(List.length z0) : Int) (0 : Int)) fun z2 => some z2
noncomputable def Z2t : FnDef := .of Zif Z5F (List Int) (fun k x => Z7L k x.1 x.2.1 x.2.2.1) ZhG ZhI Znt
noncomputable def Zag : Code := Tryz.f53.body.getD .skip
noncomputable def Z46 : Ctx (Tup Z5F × OutD) := { T := T, G := [(50, Z1C.E), (93, Z6Q.E)], mvs := [], no := 0, n := 31, res := resOf T Zif Z5F Tryz.f53.results.toList, loops := [(0, Z40.E)], regs := [], conds := [], cuts := [] }
theorem Zip (k : Nat) : EnvOK Tryz.prog k Z46.G := (EnvOK.cons (Z9t k) (EnvOK.cons (ZEL k) (EnvOK.nil mixed)))
noncomputable def Z7W : Code := (findLoop 0 Zag).getD .skip
theorem Zq5 (k : Nat) (x : Zbn.D) : Z40.lp (k + 1) x = loopK Z46 Z40 0 Z7W k x := by kernel_rfl
theorem ZpB (k : Nat) : LOK Tryz.prog Z46 k Z7W := LOK.by [] (by kernel_rfl) AllOK.nil
theorem Zpo (x : Zbn.D) : Z40.lp 0 x = none := by kernel_rfl
theorem ZnC (k : Nat) : EOK Tryz.prog Z46 k Z40.E (.block 0 (.loop Z7W)) := Zr T_ok Zip Zpo Zq5 ZpB k
theorem ZuW (k : Nat) (x : Tup Z2t.ps) : Z2t.f (k + 1) x = fnK Z2t Z46 Zag k x := by kernel_rfl
theorem Zvi (x : Tup Z2t.ps) : Z2t.f 0 x = none := by kernel_rfl
theorem Zvt (k : Nat) : LOK Tryz.prog Z46 k Zag := LOK.by [(Z40.E, .block 0 (.loop Z7W))] (by kernel_rfl) (AllOK.cons (ZnC k) AllOK.nil)
theorem ZiR (k : Nat) : SoundAt Tryz.prog k 53 Z2t.E := @Zk Tryz.prog Z2t Z46 53 Tryz.f53 Zag (by kernel_rfl) (by kernel_rfl) (by kernel_rfl) Tryz.func53 (by kernel_rfl) (by kernel_rfl) (by kernel_rfl) T_ok Zip Zvt Zvi ZuW k
noncomputable def ZW : List PK := [PK.mk (Ty.pair (Ty.int .i64) (Ty.pair (Ty.int .i64) (Ty.slice (122 : Nat) (Ty.pair (Ty.int .i64) (Ty.int .i64))))) true none false none, PK.mk (Ty.slice (3 : Nat) (Ty.int .i64)) false none false none, PK.mk (Ty.slice (67 : Nat) (Ty.pair (Ty.int .i64) (Ty.pair (Ty.int .i64) (Ty.int .i64)))) false none false none]
noncomputable def Zgl : List PK := [PK.mk (Ty.pair (Ty.slice (5 : Nat) (Ty.int .u8)) (Ty.pair (Ty.int .i64) (Ty.int .u64))) false none false (some (82 : Nat))]
noncomputable def Z5f (r : (Int × Int × List (Int × Int)) × List Int × List (Int × Int × Int) × Int × Int) : Tup ZW × OutD := ((r.1, r.2.1, r.2.2.1, ()), some ⟨Ty.pair (Ty.slice (5 : Nat) (Ty.int .u8)) (Ty.pair (Ty.int .i64) (Ty.int .u64)), [([], r.2.2.2)]⟩)
noncomputable def Z3U : Tup ZW × OutD → Option ((Int × Int × List (Int × Int)) × List Int × List (Int × Int × Int) × Int × Int)
 | (a, some ⟨u, ys⟩) => if h : u = Ty.pair (Ty.slice (5 : Nat) (Ty.int .u8)) (Ty.pair (Ty.int .i64) (Ty.int .u64)) then (match castU h ys with
  | [([], y)] => some (a.1, a.2.1, a.2.2.1, y)
  | _ => none) else none
 | _ => none
theorem Z5W : ∀ b r, Z3U b = some r → Z5f r = b := by
 rintro ⟨a, o⟩ r h
 cases o with
 | none => cases h
 | some s =>
  obtain ⟨u, ys⟩ := s
  simp only [Z3U] at h
  split at h
  ·rename_i hu
   subst hu
   match ys, h with
   | [], h => cases (show (none : Option _) = some r from h)
   | [([], y)], h => injection (show some _ = some r from h) with h; subst h; rfl
   | [(_ :: _, y)], h => cases (show (none : Option _) = some r from h)
   | (h1, _) :: _ :: _, h => cases h1 <;> cases (show (none : Option _) = some r from h)
  ·cases h
noncomputable def Z99 : Nat → Int → Int → List Int → Int → Int → List (Int × Int) → Int → Int → List (Int × Int) → Int → Bool → Option (Int × Int × List Int × Int × Int × List (Int × Int) × Int × Int × List (Int × Int)) := fun k b1_1 b1_2 o2 b3_0 b3_1 o4 b5_0 b5_1 o6 v24 v25 =>
    if v25 = true then Option.bind (ZU k (o2, b1_1, b1_2)) fun z4 => some (Prod.fst z4.2, Prod.snd z4.2, o2, b3_0, b3_1, o4, Prod.fst z4.1, Prod.fst z4.1.2, Prod.snd z4.1.2) else if decide (v24 = (1 : Int)) = true then Option.bind (Z8 k (o2, b1_1, b1_2) (2 : Int)) fun z5 => Option.bind (Z24 k (o2, Prod.fst z5.2, Prod.snd z5.2) (wrap64 ((4 : Int) + Prod.fst z5)) (6 : Int)) fun z6 => some (Prod.fst z6.2, Prod.snd z6.2, o2, b3_0, b3_1, o4, Prod.fst z6.1, Prod.fst z6.1.2, Prod.snd z6.1.2) else some (b1_1, b1_2, o2, b3_0, b3_1, o4, b5_0, b5_1, o6)
noncomputable def ZkN : Spec := Spec.mk [OSh.ro, OSh.box (82 : Nat) [Sh.sl (2 : Nat), Sh.int .i64, Sh.int .u64], OSh.fx (Ty.int .u8), OSh.box (26 : Nat) [Sh.int .i64, Sh.int .i64, Sh.sl (4 : Nat)], OSh.row true (122 : Nat) (Ty.pair (Ty.int .i64) (Ty.int .i64)), OSh.box (26 : Nat) [Sh.int .i64, Sh.int .i64, Sh.sl (6 : Nat)], OSh.row true (122 : Nat) (Ty.pair (Ty.int .i64) (Ty.int .i64))] [((0 : Nat), TSh.at (Sh.ptr (1 : Nat) (0 : Nat))), ((2 : Nat), TSh.at (Sh.ptr (3 : Nat) (0 : Nat))), ((5 : Nat), TSh.at (Sh.ptr (5 : Nat) (0 : Nat))), ((24 : Nat), TSh.at (Sh.int .i64)), ((25 : Nat), TSh.at Sh.bool)]
noncomputable def ZkM : Spec := Spec.mk [OSh.ro, OSh.box (82 : Nat) [Sh.sl (2 : Nat), Sh.int .i64, Sh.int .u64], OSh.fx (Ty.int .u8), OSh.box (26 : Nat) [Sh.int .i64, Sh.int .i64, Sh.sl (4 : Nat)], OSh.row true (122 : Nat) (Ty.pair (Ty.int .i64) (Ty.int .i64)), OSh.box (26 : Nat) [Sh.int .i64, Sh.int .i64, Sh.sl (6 : Nat)], OSh.row true (122 : Nat) (Ty.pair (Ty.int .i64) (Ty.int .i64))] [((0 : Nat), TSh.at (Sh.ptr (1 : Nat) (0 : Nat))), ((2 : Nat), TSh.at (Sh.ptr (3 : Nat) (0 : Nat))), ((5 : Nat), TSh.at (Sh.ptr (5 : Nat) (0 : Nat)))]
noncomputable def ZF : LoopDef (Tup ZW × OutD) := .plain ZkN ZkM (Int × Int × List Int × Int × Int × List (Int × Int) × Int × Int × List (Int × Int)) (fun k x => Z99 k x.1.2.1.2.1 x.1.2.1.2.2.1 x.1.2.2.1 x.1.2.2.2.1.1 x.1.2.2.2.1.2.1 x.1.2.2.2.2.1 x.1.2.2.2.2.2.1.1 x.1.2.2.2.2.2.1.2.1 x.1.2.2.2.2.2.2.1 x.2.2.2.2.1 x.2.2.2.2.2.1) (fun z => (((), ((), z.1, z.2.1, ()), z.2.2.1, (z.2.2.2.1, z.2.2.2.2.1, (), ()), z.2.2.2.2.2.1, (z.2.2.2.2.2.2.1, z.2.2.2.2.2.2.2.1, (), ()), z.2.2.2.2.2.2.2.2, ()), ((), (), (), ()))) (fun y => (y.1.2.1.2.1, y.1.2.1.2.2.1, y.1.2.2.1, y.1.2.2.2.1.1, y.1.2.2.2.1.2.1, y.1.2.2.2.2.1, y.1.2.2.2.2.2.1.1, y.1.2.2.2.2.2.1.2.1, y.1.2.2.2.2.2.2.1)) (fun _ => rfl)
noncomputable def Z97 : Nat → Int → Int → List Int → Int → Int → List (Int × Int) → Int → Int → List (Int × Int) → List Int → Int → Bool → Option (Int × Int × List Int × Int × Int × List (Int × Int) × Int × Int × List (Int × Int) × List Int × Int) := fun k b1_1 b1_2 o2 b3_0 b3_1 o4 b5_0 b5_1 o6 o7 v7 v44 =>
    if v44 = true then Option.bind (Z8 k (o2, b1_1, b1_2) (2 : Int)) fun z11 => some (Prod.fst z11.2, Prod.snd z11.2, o2, b3_0, b3_1, o4, b5_0, b5_1, o6, o7, wrap64 ((20 : Int) + Prod.fst z11)) else some (b1_1, b1_2, o2, b3_0, b3_1, o4, b5_0, b5_1, o6, o7, v7)
noncomputable def Zks : Spec := Spec.mk [OSh.ro, OSh.box (82 : Nat) [Sh.sl (2 : Nat), Sh.int .i64, Sh.int .u64], OSh.fx (Ty.int .u8), OSh.box (26 : Nat) [Sh.int .i64, Sh.int .i64, Sh.sl (4 : Nat)], OSh.row true (122 : Nat) (Ty.pair (Ty.int .i64) (Ty.int .i64)), OSh.box (26 : Nat) [Sh.int .i64, Sh.int .i64, Sh.sl (6 : Nat)], OSh.row true (122 : Nat) (Ty.pair (Ty.int .i64) (Ty.int .i64)), OSh.row true (3 : Nat) (Ty.int .i64)] [((0 : Nat), TSh.at (Sh.ptr (1 : Nat) (0 : Nat))), ((2 : Nat), TSh.at (Sh.ptr (3 : Nat) (0 : Nat))), ((5 : Nat), TSh.at (Sh.ptr (5 : Nat) (0 : Nat))), ((6 : Nat), TSh.at (Sh.sl (7 : Nat))), ((7 : Nat), TSh.at (Sh.int .i64)), ((44 : Nat), TSh.at Sh.bool)]
noncomputable def ZjR : Spec := Spec.mk [OSh.ro, OSh.box (82 : Nat) [Sh.sl (2 : Nat), Sh.int .i64, Sh.int .u64], OSh.fx (Ty.int .u8), OSh.box (26 : Nat) [Sh.int .i64, Sh.int .i64, Sh.sl (4 : Nat)], OSh.row true (122 : Nat) (Ty.pair (Ty.int .i64) (Ty.int .i64)), OSh.box (26 : Nat) [Sh.int .i64, Sh.int .i64, Sh.sl (6 : Nat)], OSh.row true (122 : Nat) (Ty.pair (Ty.int .i64) (Ty.int .i64)), OSh.row true (3 : Nat) (Ty.int .i64)] [((0 : Nat), TSh.at (Sh.ptr (1 : Nat) (0 : Nat))), ((2 : Nat), TSh.at (Sh.ptr (3 : Nat) (0 : Nat))), ((5 : Nat), TSh.at (Sh.ptr (5 : Nat) (0 : Nat))), ((6 : Nat), TSh.at (Sh.sl (7 : Nat))), ((7 : Nat), TSh.at (Sh.int .i64))]
noncomputable def ZE : LoopDef (Tup ZW × OutD) := .plain Zks ZjR (Int × Int × List Int × Int × Int × List (Int × Int) × Int × Int × List (Int × Int) × List Int × Int) (fun k x => Z97 k x.1.2.1.2.1 x.1.2.1.2.2.1 x.1.2.2.1 x.1.2.2.2.1.1 x.1.2.2.2.1.2.1 x.1.2.2.2.2.1 x.1.2.2.2.2.2.1.1 x.1.2.2.2.2.2.1.2.1 x.1.2.2.2.2.2.2.1 x.1.2.2.2.2.2.2.2.1 x.2.2.2.2.2.1 x.2.2.2.2.2.2.1) (fun z => (((), ((), z.1, z.2.1, ()), z.2.2.1, (z.2.2.2.1, z.2.2.2.2.1, (), ()), z.2.2.2.2.2.1, (z.2.2.2.2.2.2.1, z.2.2.2.2.2.2.2.1, (), ()), z.2.2.2.2.2.2.2.2.1, z.2.2.2.2.2.2.2.2.2.1, ()), ((), (), (), (), z.2.2.2.2.2.2.2.2.2.2, ()))) (fun y => (y.1.2.1.2.1, y.1.2.1.2.2.1, y.1.2.2.1, y.1.2.2.2.1.1, y.1.2.2.2.1.2.1, y.1.2.2.2.2.1, y.1.2.2.2.2.2.1.1, y.1.2.2.2.2.2.1.2.1, y.1.2.2.2.2.2.2.1, y.1.2.2.2.2.2.2.2.1, y.2.2.2.2.2.1)) (fun _ => rfl)
noncomputable def Z3w : Nat → Int → Int → List Int → Int → Int → List (Int × Int) → Int → Int → List (Int × Int) → List Int → Int → Option (Int × Int × List Int × Int × Int × List (Int × Int) × Int × Int × List (Int × Int) × List Int)
 | 0, _, _, _, _, _, _, _, _, _, _, _ => none
 | k + 1, b1_1, b1_2, o2, b3_0, b3_1, o4, b5_0, b5_1, o6, o7, v7 =>
  if decide ((↑(List.length o7) : Int) < v7) = true then Option.bind (Z8 k (o2, b1_1, b1_2) b5_1) fun z13 => if List.length o7 + List.length [Prod.fst z13] ≤ (140737488355328 / 8 : Nat) then Z3w k z13.2.1 z13.2.2 o2 b3_0 b3_1 o4 b5_0 b5_1 o6 (o7 ++ [Prod.fst z13]) v7 else none else some (b1_1, b1_2, o2, b3_0, b3_1, o4, b5_0, b5_1, o6, o7)
noncomputable def Z9Z : Spec := Spec.mk [OSh.ro, OSh.box (82 : Nat) [Sh.sl (2 : Nat), Sh.int .i64, Sh.int .u64], OSh.fx (Ty.int .u8), OSh.box (26 : Nat) [Sh.int .i64, Sh.int .i64, Sh.sl (4 : Nat)], OSh.row true (122 : Nat) (Ty.pair (Ty.int .i64) (Ty.int .i64)), OSh.box (26 : Nat) [Sh.int .i64, Sh.int .i64, Sh.sl (6 : Nat)], OSh.row true (122 : Nat) (Ty.pair (Ty.int .i64) (Ty.int .i64)), OSh.row true (3 : Nat) (Ty.int .i64)] [((0 : Nat), TSh.at (Sh.ptr (1 : Nat) (0 : Nat))), ((2 : Nat), TSh.at (Sh.ptr (3 : Nat) (0 : Nat))), ((5 : Nat), TSh.at (Sh.ptr (5 : Nat) (0 : Nat))), ((6 : Nat), TSh.at (Sh.sl (7 : Nat))), ((7 : Nat), TSh.at (Sh.int .i64))]
noncomputable def Zmm : Spec := Spec.mk [OSh.ro, OSh.box (82 : Nat) [Sh.sl (2 : Nat), Sh.int .i64, Sh.int .u64], OSh.fx (Ty.int .u8), OSh.box (26 : Nat) [Sh.int .i64, Sh.int .i64, Sh.sl (4 : Nat)], OSh.row true (122 : Nat) (Ty.pair (Ty.int .i64) (Ty.int .i64)), OSh.box (26 : Nat) [Sh.int .i64, Sh.int .i64, Sh.sl (6 : Nat)], OSh.row true (122 : Nat) (Ty.pair (Ty.int .i64) (Ty.int .i64)), OSh.row true (3 : Nat) (Ty.int .i64)] [((0 : Nat), TSh.at (Sh.ptr (1 : Nat) (0 : Nat))), ((2 : Nat), TSh.at (Sh.ptr (3 : Nat) (0 : Nat))), ((5 : Nat), TSh.at (Sh.ptr (5 : Nat) (0 : Nat))), ((6 : Nat), TSh.at (Sh.sl (7 : Nat)))]
noncomputable def Z35 : LoopDef (Tup ZW × OutD) := .plain Z9Z Zmm (Int × Int × List Int × Int × Int × List (Int × Int) × Int × Int × List (Int × Int) × List Int) (fun k x => Z3w k x.1.2.1.2.1 x.1.2.1.2.2.1 x.1.2.2.1 x.1.2.2.2.1.1 x.1.2.2.2.1.2.1 x.1.2.2.2.2.1 x.1.2.2.2.2.2.1.1 x.1.2.2.2.2.2.1.2.1 x.1.2.2.2.2.2.2.1 x.1.2.2.2.2.2.2.2.1 x.2.2.2.2.2.1) (fun z => (((), ((), z.1, z.2.1, ()), z.2.2.1, (z.2.2.2.1, z.2.2.2.2.1, (), ()), z.2.2.2.2.2.1, (z.2.2.2.2.2.2.1, z.2.2.2.2.2.2.2.1, (), ()), z.2.2.2.2.2.2.2.2.1, z.2.2.2.2.2.2.2.2.2, ()), ((), (), (), (), ()))) (fun y => (y.1.2.1.2.1, y.1.2.1.2.2.1, y.1.2.2.1, y.1.2.2.2.1.1, y.1.2.2.2.1.2.1, y.1.2.2.2.2.1, y.1.2.2.2.2.2.1.1, y.1.2.2.2.2.2.1.2.1, y.1.2.2.2.2.2.2.1, y.1.2.2.2.2.2.2.2.1)) (fun _ => rfl)
noncomputable def ZJ : Nat → Int → Int → List Int → Int → Int → List (Int × Int) → Int → Int → List (Int × Int) → List Int → List (Int × Int × Int) → Option ((Int × Int × List (Int × Int)) × List Int × List (Int × Int × Int) × Int × Int) := fun k b1_1 b1_2 o2 b3_0 b3_1 o4 b5_0 b5_1 o6 o7 o8 =>
    some ((b5_0, b5_1, o6), o7, o8, b1_1, b1_2)
noncomputable def Zko : Spec := Spec.mk [OSh.ro, OSh.box (82 : Nat) [Sh.sl (2 : Nat), Sh.int .i64, Sh.int .u64], OSh.fx (Ty.int .u8), OSh.box (26 : Nat) [Sh.int .i64, Sh.int .i64, Sh.sl (4 : Nat)], OSh.row true (122 : Nat) (Ty.pair (Ty.int .i64) (Ty.int .i64)), OSh.box (26 : Nat) [Sh.int .i64, Sh.int .i64, Sh.sl (6 : Nat)], OSh.row true (122 : Nat) (Ty.pair (Ty.int .i64) (Ty.int .i64)), OSh.row true (3 : Nat) (Ty.int .i64), OSh.row true (67 : Nat) (Ty.pair (Ty.int .i64) (Ty.pair (Ty.int .i64) (Ty.int .i64)))] [((2 : Nat), TSh.at (Sh.ptr (3 : Nat) (0 : Nat))), ((5 : Nat), TSh.at (Sh.ptr (5 : Nat) (0 : Nat))), ((6 : Nat), TSh.at (Sh.sl (7 : Nat))), ((12 : Nat), TSh.at (Sh.sl (8 : Nat)))]
noncomputable def Z10 : LoopDef (Tup ZW × OutD) := .ends Zko ((Int × Int × List (Int × Int)) × List Int × List (Int × Int × Int) × Int × Int) (fun k x => ZJ k x.1.2.1.2.1 x.1.2.1.2.2.1 x.1.2.2.1 x.1.2.2.2.1.1 x.1.2.2.2.1.2.1 x.1.2.2.2.2.1 x.1.2.2.2.2.2.1.1 x.1.2.2.2.2.2.1.2.1 x.1.2.2.2.2.2.2.1 x.1.2.2.2.2.2.2.2.1 x.1.2.2.2.2.2.2.2.2.1) Z5f Z3U Z5W
noncomputable def Z1V : Nat → Int → Int → List Int → Int → Int → List (Int × Int) → Int → Int → List (Int × Int) → List Int → List (Int × Int × Int) → Option ((Int × Int × List (Int × Int)) × List Int × List (Int × Int × Int) × Int × Int) := fun k b1_1 b1_2 o2 b3_0 b3_1 o4 b5_0 b5_1 o6 o7 o8 =>
    if decide ((↑(List.length o8) : Int) > (0 : Int)) = true then Option.bind (Z8 k (o2, b1_1, b1_2) (↑(List.length o8) : Int)) fun z18 => if (0 : Int) ≤ Prod.fst z18 then if Prod.fst z18 < (↑(List.length o8) : Int) then Option.bind (Z8 k (o2, Prod.fst z18.2, Prod.snd z18.2) (30 : Int)) fun z19 => if decide (Prod.fst z19 = (0 : Int)) = true then Option.bind (ZG k (o2, Prod.fst z19.2, Prod.snd z19.2) [(0 : Int), (1 : Int), (3 : Int), (4 : Int)]) fun z20 => Option.bind (ZJ k z20.2.1 z20.2.2 o2 b3_0 b3_1 o4 b5_0 b5_1 o6 o7 (List.set o8 (Int.toNat z18.1) (Prod.fst z20, Prod.snd (List.getD o8 (Int.toNat z18.1) ((0 : Int), (0 : Int), (0 : Int)))))) fun z21 => some z21 else if decide (Prod.fst z19 = (1 : Int)) = true then Option.bind (ZG k (o2, Prod.fst z19.2, Prod.snd z19.2) [(-1 : Int), (0 : Int), b5_0, wrap64 (b5_0 + (1 : Int))]) fun z22 => Option.bind (ZJ k z22.2.1 z22.2.2 o2 b3_0 b3_1 o4 b5_0 b5_1 o6 o7 (List.set o8 (Int.toNat z18.1) (Prod.fst (List.getD o8 (Int.toNat z18.1) ((0 : Int), (0 : Int), (0 : Int))), Prod.fst z22, Prod.snd (Prod.snd (List.getD o8 (Int.toNat z18.1) ((0 : Int), (0 : Int), (0 : Int))))))) fun z23 => some z23 else if decide (Prod.fst z19 = (2 : Int)) = true then Option.bind (ZG k (o2, Prod.fst z19.2, Prod.snd z19.2) [(-2 : Int), (-1 : Int), b5_1, wrap64 (b5_1 + (1 : Int))]) fun z24 => Option.bind (ZJ k z24.2.1 z24.2.2 o2 b3_0 b3_1 o4 b5_0 b5_1 o6 o7 (List.set o8 (Int.toNat z18.1) (Prod.fst (List.getD o8 (Int.toNat z18.1) ((0 : Int), (0 : Int), (0 : Int))), Prod.fst (Prod.snd (List.getD o8 (Int.toNat z18.1) ((0 : Int), (0 : Int), (0 : Int)))), Prod.fst z24))) fun z25 => some z25 else if decide (Prod.fst z19 = (3 : Int)) = true then if (1 : Int) ≤ (↑(List.length o8) : Int) then if (↑(List.length o8) : Int) ≤ (↑(List.length o8) : Int) then Option.bind (ZJ k z19.2.1 z19.2.2 o2 b3_0 b3_1 o4 b5_0 b5_1 o6 o7 (List.drop (Int.toNat (1 : Int)) o8)) fun z26 => some z26 else none else none else if decide (Prod.fst z19 = (4 : Int)) = true then Option.bind (ZG k (o2, Prod.fst z19.2, Prod.snd z19.2) [(-1 : Int), b5_1]) fun z27 => if (0 : Int) < (↑(List.length o7) : Int) then Option.bind (ZJ k z27.2.1 z27.2.2 o2 b3_0 b3_1 o4 b5_0 b5_1 o6 (List.set o7 (Int.toNat (0 : Int)) z27.1) o8) fun z28 => some z28 else none else Option.bind (ZJ k z19.2.1 z19.2.2 o2 b3_0 b3_1 o4 b5_0 b5_1 o6 o7 o8) fun z29 => some z29 else none else none else Option.bind (ZJ k b1_1 b1_2 o2 b3_0 b3_1 o4 b5_0 b5_1 o6 o7 o8) fun z30 => some z30
noncomputable def ZjX : Spec := Spec.mk [OSh.ro, OSh.box (82 : Nat) [Sh.sl (2 : Nat), Sh.int .i64, Sh.int .u64], OSh.fx (Ty.int .u8), OSh.box (26 : Nat) [Sh.int .i64, Sh.int .i64, Sh.sl (4 : Nat)], OSh.row true (122 : Nat) (Ty.pair (Ty.int .i64) (Ty.int .i64)), OSh.box (26 : Nat) [Sh.int .i64, Sh.int .i64, Sh.sl (6 : Nat)], OSh.row true (122 : Nat) (Ty.pair (Ty.int .i64) (Ty.int .i64)), OSh.row true (3 : Nat) (Ty.int .i64), OSh.row true (67 : Nat) (Ty.pair (Ty.int .i64) (Ty.pair (Ty.int .i64) (Ty.int .i64)))] [((0 : Nat), TSh.at (Sh.ptr (1 : Nat) (0 : Nat))), ((2 : Nat), TSh.at (Sh.ptr (3 : Nat) (0 : Nat))), ((5 : Nat), TSh.at (Sh.ptr (5 : Nat) (0 : Nat))), ((6 : Nat), TSh.at (Sh.sl (7 : Nat))), ((12 : Nat), TSh.at (Sh.sl (8 : Nat)))]
noncomputable def ZZ : LoopDef (Tup ZW × OutD) := .ends ZjX ((Int × Int × List (Int × Int)) × List Int × List (Int × Int × Int) × Int × Int) (fun k x => Z1V k x.1.2.1.2.1 x.1.2.1.2.2.1 x.1.2.2.1 x.1.2.2.2.1.1 x.1.2.2.2.1.2.1 x.1.2.2.2.2.1 x.1.2.2.2.2.2.1.1 x.1.2.2.2.2.2.1.2.1 x.1.2.2.2.2.2.2.1 x.1.2.2.2.2.2.2.2.1 x.1.2.2.2.2.2.2.2.2.1) Z5f Z3U Z5W
noncomputable def Z98 : Nat → Int → Int → List Int → Int → Int → List (Int × Int) → Int → Int → List (Int × Int) → List Int → List (Int × Int × Int) → Option (Int × Int × List Int × Int × Int × List (Int × Int) × Int × Int × List (Int × Int) × List Int × Int × Int × Int × Int × Int × Int) := fun k b1_1 b1_2 o2 b3_0 b3_1 o4 b5_0 b5_1 o6 o7 o8 =>
    Option.bind (Z8 k (o2, b1_1, b1_2) (↑(List.length o8) : Int)) fun z32 => if (0 : Int) ≤ Prod.fst z32 then if Prod.fst z32 < (↑(List.length o8) : Int) then Option.bind (Z8 k (o2, Prod.fst z32.2, Prod.snd z32.2) (↑(List.length o8) : Int)) fun z33 => if (0 : Int) ≤ Prod.fst z33 then if Prod.fst z33 < (↑(List.length o8) : Int) then some (Prod.fst z33.2, Prod.snd z33.2, o2, b3_0, b3_1, o4, b5_0, b5_1, o6, o7, Prod.fst (List.getD o8 (Int.toNat z32.1) ((0 : Int), (0 : Int), (0 : Int))), Prod.fst (Prod.snd (List.getD o8 (Int.toNat z32.1) ((0 : Int), (0 : Int), (0 : Int)))), Prod.snd (Prod.snd (List.getD o8 (Int.toNat z32.1) ((0 : Int), (0 : Int), (0 : Int)))), Prod.fst (List.getD o8 (Int.toNat z33.1) ((0 : Int), (0 : Int), (0 : Int))), Prod.fst (Prod.snd (List.getD o8 (Int.toNat z33.1) ((0 : Int), (0 : Int), (0 : Int)))), Prod.snd (Prod.snd (List.getD o8 (Int.toNat z33.1) ((0 : Int), (0 : Int), (0 : Int))))) else none else none else none else none
noncomputable def ZcM : Spec := Spec.mk [OSh.ro, OSh.box (82 : Nat) [Sh.sl (2 : Nat), Sh.int .i64, Sh.int .u64], OSh.fx (Ty.int .u8), OSh.box (26 : Nat) [Sh.int .i64, Sh.int .i64, Sh.sl (4 : Nat)], OSh.row true (122 : Nat) (Ty.pair (Ty.int .i64) (Ty.int .i64)), OSh.box (26 : Nat) [Sh.int .i64, Sh.int .i64, Sh.sl (6 : Nat)], OSh.row true (122 : Nat) (Ty.pair (Ty.int .i64) (Ty.int .i64)), OSh.row true (3 : Nat) (Ty.int .i64), OSh.row true (42 : Nat) (Ty.pair (Ty.int .i64) (Ty.pair (Ty.int .i64) (Ty.int .i64)))] [((0 : Nat), TSh.at (Sh.ptr (1 : Nat) (0 : Nat))), ((2 : Nat), TSh.at (Sh.ptr (3 : Nat) (0 : Nat))), ((5 : Nat), TSh.at (Sh.ptr (5 : Nat) (0 : Nat))), ((6 : Nat), TSh.at (Sh.sl (7 : Nat))), ((8 : Nat), TSh.at (Sh.sl (8 : Nat)))]
noncomputable def Zkq : Spec := Spec.mk [OSh.ro, OSh.box (82 : Nat) [Sh.sl (2 : Nat), Sh.int .i64, Sh.int .u64], OSh.fx (Ty.int .u8), OSh.box (26 : Nat) [Sh.int .i64, Sh.int .i64, Sh.sl (4 : Nat)], OSh.row true (122 : Nat) (Ty.pair (Ty.int .i64) (Ty.int .i64)), OSh.box (26 : Nat) [Sh.int .i64, Sh.int .i64, Sh.sl (6 : Nat)], OSh.row true (122 : Nat) (Ty.pair (Ty.int .i64) (Ty.int .i64)), OSh.row true (3 : Nat) (Ty.int .i64), OSh.box (42 : Nat) [Sh.int .i64, Sh.int .i64, Sh.int .i64], OSh.box (42 : Nat) [Sh.int .i64, Sh.int .i64, Sh.int .i64]] [((0 : Nat), TSh.at (Sh.ptr (1 : Nat) (0 : Nat))), ((2 : Nat), TSh.at (Sh.ptr (3 : Nat) (0 : Nat))), ((5 : Nat), TSh.at (Sh.ptr (5 : Nat) (0 : Nat))), ((6 : Nat), TSh.at (Sh.sl (7 : Nat))), ((10 : Nat), TSh.at (Sh.ptr (8 : Nat) (0 : Nat))), ((11 : Nat), TSh.at (Sh.ptr (9 : Nat) (0 : Nat)))]
noncomputable def Z9 : LoopDef (Tup ZW × OutD) := .plain ZcM Zkq (Int × Int × List Int × Int × Int × List (Int × Int) × Int × Int × List (Int × Int) × List Int × Int × Int × Int × Int × Int × Int) (fun k x => Z98 k x.1.2.1.2.1 x.1.2.1.2.2.1 x.1.2.2.1 x.1.2.2.2.1.1 x.1.2.2.2.1.2.1 x.1.2.2.2.2.1 x.1.2.2.2.2.2.1.1 x.1.2.2.2.2.2.1.2.1 x.1.2.2.2.2.2.2.1 x.1.2.2.2.2.2.2.2.1 x.1.2.2.2.2.2.2.2.2.1) (fun z => (((), ((), z.1, z.2.1, ()), z.2.2.1, (z.2.2.2.1, z.2.2.2.2.1, (), ()), z.2.2.2.2.2.1, (z.2.2.2.2.2.2.1, z.2.2.2.2.2.2.2.1, (), ()), z.2.2.2.2.2.2.2.2.1, z.2.2.2.2.2.2.2.2.2.1, (z.2.2.2.2.2.2.2.2.2.2.1, z.2.2.2.2.2.2.2.2.2.2.2.1, z.2.2.2.2.2.2.2.2.2.2.2.2.1, ()), (z.2.2.2.2.2.2.2.2.2.2.2.2.2.1, z.2.2.2.2.2.2.2.2.2.2.2.2.2.2.1, z.2.2.2.2.2.2.2.2.2.2.2.2.2.2.2, ()), ()), ((), (), (), (), (), (), ()))) (fun y => (y.1.2.1.2.1, y.1.2.1.2.2.1, y.1.2.2.1, y.1.2.2.2.1.1, y.1.2.2.2.1.2.1, y.1.2.2.2.2.1, y.1.2.2.2.2.2.1.1, y.1.2.2.2.2.2.1.2.1, y.1.2.2.2.2.2.2.1, y.1.2.2.2.2.2.2.2.1, y.1.2.2.2.2.2.2.2.2.1.1, y.1.2.2.2.2.2.2.2.2.1.2.1, y.1.2.2.2.2.2.2.2.2.1.2.2.1, y.1.2.2.2.2.2.2.2.2.2.1.1, y.1.2.2.2.2.2.2.2.2.2.1.2.1, y.1.2.2.2.2.2.2.2.2.2.1.2.2.1)) (fun _ => rfl)
noncomputable def Z9a : Nat → Int → Int → List Int → Int → Int → List (Int × Int) → Int → Int → List (Int × Int) → List Int → Option ((Int × Int × List (Int × Int)) × List Int × List (Int × Int × Int) × Int × Int) := fun k b1_1 b1_2 o2 b3_0 b3_1 o4 b5_0 b5_1 o6 o7 =>
    Option.bind (Z7I k (b5_0, b5_1, o6)) fun z15 => Option.bind (Z8 k (o2, b1_1, b1_2) (4 : Int)) fun z16 => if decide (Prod.fst z16 = (0 : Int)) = true then Option.bind (Z2z k (b5_0, b5_1, o6) [] o7) fun z17 => Option.bind (Z1V k z16.2.1 z16.2.2 o2 b3_0 b3_1 o4 b5_0 b5_1 o6 o7 z17.1) fun z31 => some z31 else if decide (Prod.fst z16 = (1 : Int)) = true then Option.bind (Z98 k z16.2.1 z16.2.2 o2 b3_0 b3_1 o4 b5_0 b5_1 o6 o7 z15) fun z94 => Option.bind (Ze0 k (Prod.fst z94.2.2.2.2.2.2, Prod.fst z94.2.2.2.2.2.2.2, Prod.fst z94.2.2.2.2.2.2.2.2) [(Prod.fst z94.2.2.2.2.2.2.2.2.2.2, Prod.fst z94.2.2.2.2.2.2.2.2.2.2.2, Prod.fst z94.2.2.2.2.2.2.2.2.2.2.2.2), (Prod.fst z94.2.2.2.2.2.2.2.2.2.2.2.2.2, Prod.fst z94.2.2.2.2.2.2.2.2.2.2.2.2.2.2, Prod.snd z94.2.2.2.2.2.2.2.2.2.2.2.2.2.2)]) fun z95 => if (!z95) = true then Option.bind (Z2z k (Prod.fst z94.2.2.2.2.2.2, Prod.fst z94.2.2.2.2.2.2.2, Prod.fst z94.2.2.2.2.2.2.2.2) [(Prod.fst z94.2.2.2.2.2.2.2.2.2.2, Prod.fst z94.2.2.2.2.2.2.2.2.2.2.2, Prod.fst z94.2.2.2.2.2.2.2.2.2.2.2.2)] z94.2.2.2.2.2.2.2.2.2.1) fun z96 => Option.bind (Z1V k z94.1 z94.2.1 z94.2.2.1 z94.2.2.2.1 z94.2.2.2.2.1 z94.2.2.2.2.2.1 z94.2.2.2.2.2.2.1 z94.2.2.2.2.2.2.2.1 z94.2.2.2.2.2.2.2.2.1 z94.2.2.2.2.2.2.2.2.2.1 z96.1) fun z97 => some z97 else Option.bind (Z2z k (Prod.fst z94.2.2.2.2.2.2, Prod.fst z94.2.2.2.2.2.2.2, Prod.fst z94.2.2.2.2.2.2.2.2) [(Prod.fst z94.2.2.2.2.2.2.2.2.2.2, Prod.fst z94.2.2.2.2.2.2.2.2.2.2.2, Prod.fst z94.2.2.2.2.2.2.2.2.2.2.2.2), (Prod.fst z94.2.2.2.2.2.2.2.2.2.2.2.2.2, Prod.fst z94.2.2.2.2.2.2.2.2.2.2.2.2.2.2, Prod.snd z94.2.2.2.2.2.2.2.2.2.2.2.2.2.2)] z94.2.2.2.2.2.2.2.2.2.1) fun z98 => Option.bind (Z1V k z94.1 z94.2.1 z94.2.2.1 z94.2.2.2.1 z94.2.2.2.2.1 z94.2.2.2.2.2.1 z94.2.2.2.2.2.2.1 z94.2.2.2.2.2.2.2.1 z94.2.2.2.2.2.2.2.2.1 z94.2.2.2.2.2.2.2.2.2.1 z98.1) fun z99 => some z99 else Option.bind (Z8 k (o2, Prod.fst z16.2, Prod.snd z16.2) (↑(List.length z15) : Int)) fun z100 => if (0 : Int) ≤ Prod.fst z100 then if Prod.fst z100 < (↑(List.length z15) : Int) then Option.bind (Z2z k (b5_0, b5_1, o6) [(Prod.fst (List.getD z15 (Int.toNat z100.1) ((0 : Int), (0 : Int), (0 : Int))), Prod.fst (Prod.snd (List.getD z15 (Int.toNat z100.1) ((0 : Int), (0 : Int), (0 : Int)))), Prod.snd (Prod.snd (List.getD z15 (Int.toNat z100.1) ((0 : Int), (0 : Int), (0 : Int)))))] o7) fun z101 => Option.bind (Z1V k z100.2.1 z100.2.2 o2 b3_0 b3_1 o4 b5_0 b5_1 o6 o7 z101.1) fun z102 => some z102 else none else none
noncomputable def ZkF : Spec := Spec.mk [OSh.ro, OSh.box (82 : Nat) [Sh.sl (2 : Nat), Sh.int .i64, Sh.int .u64], OSh.fx (Ty.int .u8), OSh.box (26 : Nat) [Sh.int .i64, Sh.int .i64, Sh.sl (4 : Nat)], OSh.row true (122 : Nat) (Ty.pair (Ty.int .i64) (Ty.int .i64)), OSh.box (26 : Nat) [Sh.int .i64, Sh.int .i64, Sh.sl (6 : Nat)], OSh.row true (122 : Nat) (Ty.pair (Ty.int .i64) (Ty.int .i64)), OSh.row true (3 : Nat) (Ty.int .i64)] [((0 : Nat), TSh.at (Sh.ptr (1 : Nat) (0 : Nat))), ((2 : Nat), TSh.at (Sh.ptr (3 : Nat) (0 : Nat))), ((5 : Nat), TSh.at (Sh.ptr (5 : Nat) (0 : Nat))), ((6 : Nat), TSh.at (Sh.sl (7 : Nat)))]
noncomputable def ZY : LoopDef (Tup ZW × OutD) := .ends ZkF ((Int × Int × List (Int × Int)) × List Int × List (Int × Int × Int) × Int × Int) (fun k x => Z9a k x.1.2.1.2.1 x.1.2.1.2.2.1 x.1.2.2.1 x.1.2.2.2.1.1 x.1.2.2.2.1.2.1 x.1.2.2.2.2.1 x.1.2.2.2.2.2.1.1 x.1.2.2.2.2.2.1.2.1 x.1.2.2.2.2.2.2.1 x.1.2.2.2.2.2.2.2.1) Z5f Z3U Z5W
noncomputable def Z69 : Nat → List Int × Int × Int → Option ((Int × Int × List (Int × Int)) × List Int × List (Int × Int × Int) × Int × Int)
 | 0, _ => none
 | k + 1, p0 =>
  Option.bind (Z8 k (Prod.fst p0, Prod.fst p0.2, Prod.snd p0.2) (4 : Int)) fun z0 => Option.bind (Z8 k (Prod.fst p0, Prod.fst z0.2, Prod.snd z0.2) (4 : Int)) fun z1 => Option.bind (Z24 k (Prod.fst p0, Prod.fst z1.2, Prod.snd z1.2) (wrap64 ((1 : Int) + Prod.fst z0)) (wrap64 ((1 : Int) + Prod.fst z1))) fun z2 => Option.bind (Z8 k (Prod.fst p0, Prod.fst z2.2, Prod.snd z2.2) (20 : Int)) fun z3 => Option.bind (Z99 k z3.2.1 z3.2.2 p0.1 (0 : Int) (0 : Int) [] z2.1.1 z2.1.2.1 z2.1.2.2 z3.1 (decide (Prod.fst z3 = (0 : Int)))) fun z7 => Option.bind (ZbD k (Prod.fst z7.2.2.2.2.2.2, Prod.fst z7.2.2.2.2.2.2.2, Prod.snd z7.2.2.2.2.2.2.2)) fun z8 => if (!z8) = true then some ((Prod.fst z7.2.2.2.2.2.2, Prod.fst z7.2.2.2.2.2.2.2, Prod.snd z7.2.2.2.2.2.2.2), [], [], Prod.fst z7, Prod.fst z7.2) else Option.bind (Z8 k (Prod.fst z7.2.2, Prod.fst z7, Prod.fst z7.2) (6 : Int)) fun z9 => Option.bind (Z1F k (Prod.fst z7.2.2, Prod.fst z9.2, Prod.snd z9.2) (20 : Int)) fun z10 => Option.bind (Z97 k z10.2.1 z10.2.2 z7.2.2.1 z7.2.2.2.1 z7.2.2.2.2.1 z7.2.2.2.2.2.1 z7.2.2.2.2.2.2.1 z7.2.2.2.2.2.2.2.1 z7.2.2.2.2.2.2.2.2 [] (wrap64 ((1 : Int) + Prod.fst z9)) z10.1) fun z12 => Option.bind (Z3w k z12.1 z12.2.1 z12.2.2.1 z12.2.2.2.1 z12.2.2.2.2.1 z12.2.2.2.2.2.1 z12.2.2.2.2.2.2.1 z12.2.2.2.2.2.2.2.1 z12.2.2.2.2.2.2.2.2.1 z12.2.2.2.2.2.2.2.2.2.1 z12.2.2.2.2.2.2.2.2.2.2) fun z14 => Option.bind (Z9a k z14.1 z14.2.1 z14.2.2.1 z14.2.2.2.1 z14.2.2.2.2.1 z14.2.2.2.2.2.1 z14.2.2.2.2.2.2.1 z14.2.2.2.2.2.2.2.1 z14.2.2.2.2.2.2.2.2.1 z14.2.2.2.2.2.2.2.2.2) fun z103 => some z103
noncomputable def Z1J : FnDef := .of Zgl ZW ((Int × Int × List (Int × Int)) × List Int × List (Int × Int × Int) × Int × Int) (fun k x => Z69 k x.1) Z5f Z3U Z5W
noncomputable def ZV : Code := Tryz.f57.body.getD .skip
noncomputable def Z0 : Ctx (Tup ZW × OutD) := { T := T, G := [(73, ZD.E), (95, Z1w.E), (96, Z1N.E), (84, Z4L.E), (97, Z28.E), (67, Z2o.E), (70, Z5O.E), (86, Z4D.E), (72, Z14.E)], mvs := [153], no := 2, n := 166, res := resOf T Zgl ZW Tryz.f57.results.toList, loops := [(1, Z35.E)], regs := [(22, Z9.E)], conds := [(25, ZF.E), (44, ZE.E)], cuts := [(40, Z10.E), (27, ZZ.E), (15, ZY.E)] }
theorem Z2h (k : Nat) : EnvOK Tryz.prog k Z0.G := (EnvOK.cons (Z2s k) (EnvOK.cons (ZfA k) (EnvOK.cons (Zo3 k) (EnvOK.cons (ZqI k) (EnvOK.cons (Zes k) (EnvOK.cons (Zik k) (EnvOK.cons (ZAQ k) (EnvOK.cons (Zkd k) (EnvOK.cons (Z70 k) (EnvOK.nil mixed))))))))))
noncomputable def Zc : Array Oper := (findReg 22 ZV).getD #[]
noncomputable abbrev Z1o : Type := Int × Int × List Int × Int × Int × List (Int × Int) × Int × Int × List (Int × Int) × List Int × Int × Int × Int × Int × Int × Int
section
variable (k : Nat) (b1_1 : Int) (b1_2 : Int) (o2 : List Int) (b3_0 : Int) (b3_1 : Int) (o4 : List (Int × Int)) (b5_0 : Int) (b5_1 : Int) (o6 : List (Int × Int)) (o7 : List Int) (o8 : List (Int × Int × Int))
noncomputable def Z1B : List TV := [P0 1, U0, P0 3, U0, U0, P0 5, L0 7, U0, L0 8, U0, U0, U0, U0, U0, U0, U0, U0, U0, U0, U0, U0, U0, U0, U0, U0, U0, U0, U0, U0, U0, U0, U0, U0, U0, U0, U0, U0, U0, U0, U0, U0, U0, U0, U0, U0, U0, U0, U0, U0, U0, U0, U0, U0, U0, U0, U0, U0, U0, U0, U0, U0, U0, U0, U0, U0, U0, U0, U0, U0, U0, U0, U0, U0, U0, U0, L0 8, P0 1, L0 8, TV.sv (SV.at (J0 (↑(List.length o8) : Int))), U0, U0, U0, L0 8, P0 1, L0 8, U0, U0, U0, U0, U0, U0, U0, U0, U0, U0, U0, U0, U0, U0, U0, U0, U0, U0, U0, U0, U0, U0, U0, U0, U0, U0, U0, U0, U0, U0, U0, U0, U0, U0, U0, U0, U0, U0, U0, U0, U0, U0, U0, U0, U0, U0, U0, U0, U0, U0, U0, U0, U0, U0, U0, U0, U0, U0, U0, U0, U0, U0, U0, U0, U0, U0, U0, U0, U0, U0, U0, U0, U0, U0, U0, U0, U0, U0, U0, U0, U0]
noncomputable def Z16 : Ob := Ob.fx (Ty.int .u8) o2
noncomputable def Z17 : Ob := Ob.box 26 [J0 b3_0, J0 b3_1, At.sl 4]
noncomputable def Z1b : Ob := Ob.row true 122 T2 o4
noncomputable def Z1a : Ob := Ob.box 26 [J0 b5_0, J0 b5_1, At.sl 6]
noncomputable def Z13 : Ob := Ob.row true 122 T2 o6
noncomputable def Z15 : Ob := Ob.row true 3 T1 o7
noncomputable def Z18 : Ob := Ob.row true 42 T3 o8
noncomputable def Z19 : Ob := Ob.box 42 [J0 (0 : Int), J0 (0 : Int), J0 (0 : Int)]
noncomputable def ZeI : Ob := Ob.box 82 [At.sl 2, J0 b1_1, At.int IntKind.u64 b1_2]
noncomputable def Z2W : TV := TV.sv (SV.at (J0 (↑(List.length o8) : Int)))
noncomputable def Zz (f0 : Int × Int × Int) (f1 : Int × Int × Int) : Option Z1o := some (Prod.fst f0.2, Prod.snd f0.2, o2, b3_0, b3_1, o4, b5_0, b5_1, o6, o7, Prod.fst (List.getD o8 (Int.toNat f1.1) ((0 : Int), (0 : Int), (0 : Int))), Prod.fst (Prod.snd (List.getD o8 (Int.toNat f1.1) ((0 : Int), (0 : Int), (0 : Int)))), Prod.snd (Prod.snd (List.getD o8 (Int.toNat f1.1) ((0 : Int), (0 : Int), (0 : Int)))), Prod.fst (List.getD o8 (Int.toNat f0.1) ((0 : Int), (0 : Int), (0 : Int))), Prod.fst (Prod.snd (List.getD o8 (Int.toNat f0.1) ((0 : Int), (0 : Int), (0 : Int)))), Prod.snd (Prod.snd (List.getD o8 (Int.toNat f0.1) ((0 : Int), (0 : Int), (0 : Int)))))
noncomputable def Zv (f0 : Int × Int × Int) : Option Z1o := Option.bind (Z8 k (o2, Prod.fst f0.2, Prod.snd f0.2) (↑(List.length o8) : Int)) fun y0 => if (0 : Int) ≤ Prod.fst y0 then if Prod.fst y0 < (↑(List.length o8) : Int) then some (Prod.fst y0.2, Prod.snd y0.2, o2, b3_0, b3_1, o4, b5_0, b5_1, o6, o7, Prod.fst (List.getD o8 (Int.toNat f0.1) ((0 : Int), (0 : Int), (0 : Int))), Prod.fst (Prod.snd (List.getD o8 (Int.toNat f0.1) ((0 : Int), (0 : Int), (0 : Int)))), Prod.snd (Prod.snd (List.getD o8 (Int.toNat f0.1) ((0 : Int), (0 : Int), (0 : Int)))), Prod.fst (List.getD o8 (Int.toNat y0.1) ((0 : Int), (0 : Int), (0 : Int))), Prod.fst (Prod.snd (List.getD o8 (Int.toNat y0.1) ((0 : Int), (0 : Int), (0 : Int)))), Prod.snd (Prod.snd (List.getD o8 (Int.toNat y0.1) ((0 : Int), (0 : Int), (0 : Int))))) else none else none
noncomputable def ZI : Option Z1o := Option.bind (Z8 k (o2, b1_1, b1_2) (↑(List.length o8) : Int)) fun y0 => if (0 : Int) ≤ Prod.fst y0 then if Prod.fst y0 < (↑(List.length o8) : Int) then Option.bind (Z8 k (o2, Prod.fst y0.2, Prod.snd y0.2) (↑(List.length o8) : Int)) fun y1 => if (0 : Int) ≤ Prod.fst y1 then if Prod.fst y1 < (↑(List.length o8) : Int) then some (Prod.fst y1.2, Prod.snd y1.2, o2, b3_0, b3_1, o4, b5_0, b5_1, o6, o7, Prod.fst (List.getD o8 (Int.toNat y0.1) ((0 : Int), (0 : Int), (0 : Int))), Prod.fst (Prod.snd (List.getD o8 (Int.toNat y0.1) ((0 : Int), (0 : Int), (0 : Int)))), Prod.snd (Prod.snd (List.getD o8 (Int.toNat y0.1) ((0 : Int), (0 : Int), (0 : Int)))), Prod.fst (List.getD o8 (Int.toNat y1.1) ((0 : Int), (0 : Int), (0 : Int))), Prod.fst (Prod.snd (List.getD o8 (Int.toNat y1.1) ((0 : Int), (0 : Int), (0 : Int)))), Prod.snd (Prod.snd (List.getD o8 (Int.toNat y1.1) ((0 : Int), (0 : Int), (0 : Int))))) else none else none else none else none
noncomputable def ZCp (z34 : Int × Int × Int) (z35 : Int × Int × Int) : Option (List Z1o) := execT Z0.G (stepOp Z0.T Z0.G Z0.mvs k) Zc 4 #[true, true, true, true, true, true, true, true, true, true, true, true, true, true, false, false, false, false] ⟨sets (Z1B o8) [(79, TV.sv (SV.at (J0 z34.1))), (80, TV.sv (SV.at (At.ep 8 T3 z34.1 0))), (81, TV.sv (SV.agg [J0 (Prod.fst (List.getD o8 (Int.toNat z34.1) ((0 : Int), (0 : Int), (0 : Int)))), J0 (Prod.fst (Prod.snd (List.getD o8 (Int.toNat z34.1) ((0 : Int), (0 : Int), (0 : Int))))), J0 (Prod.snd (Prod.snd (List.getD o8 (Int.toNat z34.1) ((0 : Int), (0 : Int), (0 : Int)))))])), (85, Z2W o8), (86, TV.sv (SV.at (J0 z35.1))), (87, TV.sv (SV.at (At.ep 8 T3 z35.1 0))), (88, TV.sv (SV.agg [J0 (Prod.fst (List.getD o8 (Int.toNat z35.1) ((0 : Int), (0 : Int), (0 : Int)))), J0 (Prod.fst (Prod.snd (List.getD o8 (Int.toNat z35.1) ((0 : Int), (0 : Int), (0 : Int))))), J0 (Prod.snd (Prod.snd (List.getD o8 (Int.toNat z35.1) ((0 : Int), (0 : Int), (0 : Int)))))]))], [Ob.ro, Ob.box 82 [At.sl 2, J0 z35.2.1, At.int IntKind.u64 z35.2.2], Z16 o2, Z17 b3_0 b3_1, Z1b o4, Z1a b5_0 b5_1, Z13 o6, Z15 o7, Z18 o8]⟩ (outK Z0 Z9)
theorem ZNa (z34 : Int × Int × Int) (z35 : Int × Int × Int) : ZCp k o2 b3_0 b3_1 o4 b5_0 b5_1 o6 o7 o8 z34 z35 = joinL (some [(Prod.fst z35.2, Prod.snd z35.2, o2, b3_0, b3_1, o4, b5_0, b5_1, o6, o7, Prod.fst (List.getD o8 (Int.toNat z34.1) ((0 : Int), (0 : Int), (0 : Int))), Prod.fst (Prod.snd (List.getD o8 (Int.toNat z34.1) ((0 : Int), (0 : Int), (0 : Int)))), Prod.snd (Prod.snd (List.getD o8 (Int.toNat z34.1) ((0 : Int), (0 : Int), (0 : Int)))), Prod.fst (List.getD o8 (Int.toNat z35.1) ((0 : Int), (0 : Int), (0 : Int))), Prod.fst (Prod.snd (List.getD o8 (Int.toNat z35.1) ((0 : Int), (0 : Int), (0 : Int)))), Prod.snd (Prod.snd (List.getD o8 (Int.toNat z35.1) ((0 : Int), (0 : Int), (0 : Int)))))]) (some [(Prod.fst z35.2, Prod.snd z35.2, o2, b3_0, b3_1, o4, b5_0, b5_1, o6, o7, Prod.fst (List.getD o8 (Int.toNat z34.1) ((0 : Int), (0 : Int), (0 : Int))), Prod.fst (Prod.snd (List.getD o8 (Int.toNat z34.1) ((0 : Int), (0 : Int), (0 : Int)))), Prod.snd (Prod.snd (List.getD o8 (Int.toNat z34.1) ((0 : Int), (0 : Int), (0 : Int)))), Prod.fst (List.getD o8 (Int.toNat z35.1) ((0 : Int), (0 : Int), (0 : Int))), Prod.fst (Prod.snd (List.getD o8 (Int.toNat z35.1) ((0 : Int), (0 : Int), (0 : Int)))), Prod.snd (Prod.snd (List.getD o8 (Int.toNat z35.1) ((0 : Int), (0 : Int), (0 : Int)))))]) := by kernel_rfl
theorem ZHy (z34 : Int × Int × Int) (z35 : Int × Int × Int) : ZCp k o2 b3_0 b3_1 o4 b5_0 b5_1 o6 o7 o8 z34 z35 = repl 2 (Zz o2 b3_0 b3_1 o4 b5_0 b5_1 o6 o7 o8 z35 z34) := by
 rw [ZNa]
 simp only [Zz, Zv, ZI, Z5, Z6, Z2, Z3, Z4, Z1, if_true]
noncomputable def ZlB (z34 : Int × Int × Int) (z35 : Int × Int × Int) : Option (List Z1o) := execT Z0.G (stepOp Z0.T Z0.G Z0.mvs k) Zc 3 #[true, true, true, true, true, true, true, true, true, true, true, true, true, false, true, true, false, false] ⟨sets (Z1B o8) [(10, P0 9), (11, P0 10), (79, TV.sv (SV.at (J0 z34.1))), (80, TV.sv (SV.at (At.ep 8 T3 z34.1 0))), (81, TV.sv (SV.agg [J0 (Prod.fst (List.getD o8 (Int.toNat z34.1) ((0 : Int), (0 : Int), (0 : Int)))), J0 (Prod.fst (Prod.snd (List.getD o8 (Int.toNat z34.1) ((0 : Int), (0 : Int), (0 : Int))))), J0 (Prod.snd (Prod.snd (List.getD o8 (Int.toNat z34.1) ((0 : Int), (0 : Int), (0 : Int)))))])), (85, Z2W o8), (86, TV.sv (SV.at (J0 z35.1))), (87, TV.sv (SV.at (At.ep 8 T3 z35.1 0)))], [Ob.ro, Ob.box 82 [At.sl 2, J0 z35.2.1, At.int IntKind.u64 z35.2.2], Z16 o2, Z17 b3_0 b3_1, Z1b o4, Z1a b5_0 b5_1, Z13 o6, Z15 o7, Z18 o8, Z19, Z19]⟩ (outK Z0 Z9)
theorem ZMm (z34 : Int × Int × Int) (z35 : Int × Int × Int) : ZlB k o2 b3_0 b3_1 o4 b5_0 b5_1 o6 o7 o8 z34 z35 = joinL (some [(Prod.fst z35.2, Prod.snd z35.2, o2, b3_0, b3_1, o4, b5_0, b5_1, o6, o7, Prod.fst (List.getD o8 (Int.toNat z34.1) ((0 : Int), (0 : Int), (0 : Int))), Prod.fst (Prod.snd (List.getD o8 (Int.toNat z34.1) ((0 : Int), (0 : Int), (0 : Int)))), Prod.snd (Prod.snd (List.getD o8 (Int.toNat z34.1) ((0 : Int), (0 : Int), (0 : Int)))), Prod.fst (List.getD o8 (Int.toNat z35.1) ((0 : Int), (0 : Int), (0 : Int))), Prod.fst (Prod.snd (List.getD o8 (Int.toNat z35.1) ((0 : Int), (0 : Int), (0 : Int)))), Prod.snd (Prod.snd (List.getD o8 (Int.toNat z35.1) ((0 : Int), (0 : Int), (0 : Int)))))]) (some [(Prod.fst z35.2, Prod.snd z35.2, o2, b3_0, b3_1, o4, b5_0, b5_1, o6, o7, Prod.fst (List.getD o8 (Int.toNat z34.1) ((0 : Int), (0 : Int), (0 : Int))), Prod.fst (Prod.snd (List.getD o8 (Int.toNat z34.1) ((0 : Int), (0 : Int), (0 : Int)))), Prod.snd (Prod.snd (List.getD o8 (Int.toNat z34.1) ((0 : Int), (0 : Int), (0 : Int)))), Prod.fst (List.getD o8 (Int.toNat z35.1) ((0 : Int), (0 : Int), (0 : Int))), Prod.fst (Prod.snd (List.getD o8 (Int.toNat z35.1) ((0 : Int), (0 : Int), (0 : Int)))), Prod.snd (Prod.snd (List.getD o8 (Int.toNat z35.1) ((0 : Int), (0 : Int), (0 : Int)))))]) := by kernel_rfl
theorem Znr (z34 : Int × Int × Int) (z35 : Int × Int × Int) : ZlB k o2 b3_0 b3_1 o4 b5_0 b5_1 o6 o7 o8 z34 z35 = repl 2 (Zz o2 b3_0 b3_1 o4 b5_0 b5_1 o6 o7 o8 z35 z34) := by
 rw [ZMm]
 simp only [Zz, Zv, ZI, Z5, Z6, Z2, Z3, Z4, Z1, if_true]
noncomputable def Zza (z34 : Int × Int × Int) (z35 : Int × Int × Int) : Option (List Z1o) := execT Z0.G (stepOp Z0.T Z0.G Z0.mvs k) Zc 4 #[true, true, true, true, true, true, true, true, true, true, true, true, true, false, true, false, false, false] ⟨sets (Z1B o8) [(10, P0 9), (79, TV.sv (SV.at (J0 z34.1))), (80, TV.sv (SV.at (At.ep 8 T3 z34.1 0))), (81, TV.sv (SV.agg [J0 (Prod.fst (List.getD o8 (Int.toNat z34.1) ((0 : Int), (0 : Int), (0 : Int)))), J0 (Prod.fst (Prod.snd (List.getD o8 (Int.toNat z34.1) ((0 : Int), (0 : Int), (0 : Int))))), J0 (Prod.snd (Prod.snd (List.getD o8 (Int.toNat z34.1) ((0 : Int), (0 : Int), (0 : Int)))))])), (85, Z2W o8), (86, TV.sv (SV.at (J0 z35.1))), (87, TV.sv (SV.at (At.ep 8 T3 z35.1 0)))], [Ob.ro, Ob.box 82 [At.sl 2, J0 z35.2.1, At.int IntKind.u64 z35.2.2], Z16 o2, Z17 b3_0 b3_1, Z1b o4, Z1a b5_0 b5_1, Z13 o6, Z15 o7, Z18 o8, Z19]⟩ (outK Z0 Z9)
theorem ZMv (z34 : Int × Int × Int) (z35 : Int × Int × Int) : Zza k o2 b3_0 b3_1 o4 b5_0 b5_1 o6 o7 o8 z34 z35 = joinL (some [(Prod.fst z35.2, Prod.snd z35.2, o2, b3_0, b3_1, o4, b5_0, b5_1, o6, o7, Prod.fst (List.getD o8 (Int.toNat z34.1) ((0 : Int), (0 : Int), (0 : Int))), Prod.fst (Prod.snd (List.getD o8 (Int.toNat z34.1) ((0 : Int), (0 : Int), (0 : Int)))), Prod.snd (Prod.snd (List.getD o8 (Int.toNat z34.1) ((0 : Int), (0 : Int), (0 : Int)))), Prod.fst (List.getD o8 (Int.toNat z35.1) ((0 : Int), (0 : Int), (0 : Int))), Prod.fst (Prod.snd (List.getD o8 (Int.toNat z35.1) ((0 : Int), (0 : Int), (0 : Int)))), Prod.snd (Prod.snd (List.getD o8 (Int.toNat z35.1) ((0 : Int), (0 : Int), (0 : Int)))))]) (ZlB k o2 b3_0 b3_1 o4 b5_0 b5_1 o6 o7 o8 z34 z35) := by kernel_rfl
theorem ZCw (z34 : Int × Int × Int) (z35 : Int × Int × Int) : Zza k o2 b3_0 b3_1 o4 b5_0 b5_1 o6 o7 o8 z34 z35 = repl 3 (Zz o2 b3_0 b3_1 o4 b5_0 b5_1 o6 o7 o8 z35 z34) := by
 rw [ZMv]
 simp only [Znr, Zz, Zv, ZI, Z5, Z6, Z2, Z3, Z4, Z1, if_true]
noncomputable def ZlE (z34 : Int × Int × Int) (z35 : Int × Int × Int) : Option (List Z1o) := execT Z0.G (stepOp Z0.T Z0.G Z0.mvs k) Zc 3 #[true, true, true, true, true, true, true, true, true, true, true, true, true, false, true, true, false, false] ⟨sets (Z1B o8) [(10, P0 10), (11, P0 9), (79, TV.sv (SV.at (J0 z34.1))), (80, TV.sv (SV.at (At.ep 8 T3 z34.1 0))), (81, TV.sv (SV.agg [J0 (Prod.fst (List.getD o8 (Int.toNat z34.1) ((0 : Int), (0 : Int), (0 : Int)))), J0 (Prod.fst (Prod.snd (List.getD o8 (Int.toNat z34.1) ((0 : Int), (0 : Int), (0 : Int))))), J0 (Prod.snd (Prod.snd (List.getD o8 (Int.toNat z34.1) ((0 : Int), (0 : Int), (0 : Int)))))])), (85, Z2W o8), (86, TV.sv (SV.at (J0 z35.1))), (87, TV.sv (SV.at (At.ep 8 T3 z35.1 0)))], [Ob.ro, Ob.box 82 [At.sl 2, J0 z35.2.1, At.int IntKind.u64 z35.2.2], Z16 o2, Z17 b3_0 b3_1, Z1b o4, Z1a b5_0 b5_1, Z13 o6, Z15 o7, Z18 o8, Z19, Z19]⟩ (outK Z0 Z9)
theorem ZMc (z34 : Int × Int × Int) (z35 : Int × Int × Int) : ZlE k o2 b3_0 b3_1 o4 b5_0 b5_1 o6 o7 o8 z34 z35 = joinL (some [(Prod.fst z35.2, Prod.snd z35.2, o2, b3_0, b3_1, o4, b5_0, b5_1, o6, o7, Prod.fst (List.getD o8 (Int.toNat z34.1) ((0 : Int), (0 : Int), (0 : Int))), Prod.fst (Prod.snd (List.getD o8 (Int.toNat z34.1) ((0 : Int), (0 : Int), (0 : Int)))), Prod.snd (Prod.snd (List.getD o8 (Int.toNat z34.1) ((0 : Int), (0 : Int), (0 : Int)))), Prod.fst (List.getD o8 (Int.toNat z35.1) ((0 : Int), (0 : Int), (0 : Int))), Prod.fst (Prod.snd (List.getD o8 (Int.toNat z35.1) ((0 : Int), (0 : Int), (0 : Int)))), Prod.snd (Prod.snd (List.getD o8 (Int.toNat z35.1) ((0 : Int), (0 : Int), (0 : Int)))))]) (some [(Prod.fst z35.2, Prod.snd z35.2, o2, b3_0, b3_1, o4, b5_0, b5_1, o6, o7, Prod.fst (List.getD o8 (Int.toNat z34.1) ((0 : Int), (0 : Int), (0 : Int))), Prod.fst (Prod.snd (List.getD o8 (Int.toNat z34.1) ((0 : Int), (0 : Int), (0 : Int)))), Prod.snd (Prod.snd (List.getD o8 (Int.toNat z34.1) ((0 : Int), (0 : Int), (0 : Int)))), Prod.fst (List.getD o8 (Int.toNat z35.1) ((0 : Int), (0 : Int), (0 : Int))), Prod.fst (Prod.snd (List.getD o8 (Int.toNat z35.1) ((0 : Int), (0 : Int), (0 : Int)))), Prod.snd (Prod.snd (List.getD o8 (Int.toNat z35.1) ((0 : Int), (0 : Int), (0 : Int)))))]) := by kernel_rfl
theorem ZnH (z34 : Int × Int × Int) (z35 : Int × Int × Int) : ZlE k o2 b3_0 b3_1 o4 b5_0 b5_1 o6 o7 o8 z34 z35 = repl 2 (Zz o2 b3_0 b3_1 o4 b5_0 b5_1 o6 o7 o8 z35 z34) := by
 rw [ZMc]
 simp only [Zz, Zv, ZI, Z5, Z6, Z2, Z3, Z4, Z1, if_true]
noncomputable def ZyT (z34 : Int × Int × Int) (z35 : Int × Int × Int) : Option (List Z1o) := execT Z0.G (stepOp Z0.T Z0.G Z0.mvs k) Zc 4 #[true, true, true, true, true, true, true, true, true, true, true, true, true, false, false, true, false, false] ⟨sets (Z1B o8) [(11, P0 9), (79, TV.sv (SV.at (J0 z34.1))), (80, TV.sv (SV.at (At.ep 8 T3 z34.1 0))), (81, TV.sv (SV.agg [J0 (Prod.fst (List.getD o8 (Int.toNat z34.1) ((0 : Int), (0 : Int), (0 : Int)))), J0 (Prod.fst (Prod.snd (List.getD o8 (Int.toNat z34.1) ((0 : Int), (0 : Int), (0 : Int))))), J0 (Prod.snd (Prod.snd (List.getD o8 (Int.toNat z34.1) ((0 : Int), (0 : Int), (0 : Int)))))])), (85, Z2W o8), (86, TV.sv (SV.at (J0 z35.1))), (87, TV.sv (SV.at (At.ep 8 T3 z35.1 0)))], [Ob.ro, Ob.box 82 [At.sl 2, J0 z35.2.1, At.int IntKind.u64 z35.2.2], Z16 o2, Z17 b3_0 b3_1, Z1b o4, Z1a b5_0 b5_1, Z13 o6, Z15 o7, Z18 o8, Z19]⟩ (outK Z0 Z9)
theorem ZNe (z34 : Int × Int × Int) (z35 : Int × Int × Int) : ZyT k o2 b3_0 b3_1 o4 b5_0 b5_1 o6 o7 o8 z34 z35 = joinL (some [(Prod.fst z35.2, Prod.snd z35.2, o2, b3_0, b3_1, o4, b5_0, b5_1, o6, o7, Prod.fst (List.getD o8 (Int.toNat z34.1) ((0 : Int), (0 : Int), (0 : Int))), Prod.fst (Prod.snd (List.getD o8 (Int.toNat z34.1) ((0 : Int), (0 : Int), (0 : Int)))), Prod.snd (Prod.snd (List.getD o8 (Int.toNat z34.1) ((0 : Int), (0 : Int), (0 : Int)))), Prod.fst (List.getD o8 (Int.toNat z35.1) ((0 : Int), (0 : Int), (0 : Int))), Prod.fst (Prod.snd (List.getD o8 (Int.toNat z35.1) ((0 : Int), (0 : Int), (0 : Int)))), Prod.snd (Prod.snd (List.getD o8 (Int.toNat z35.1) ((0 : Int), (0 : Int), (0 : Int)))))]) (ZlE k o2 b3_0 b3_1 o4 b5_0 b5_1 o6 o7 o8 z34 z35) := by kernel_rfl
theorem ZCM (z34 : Int × Int × Int) (z35 : Int × Int × Int) : ZyT k o2 b3_0 b3_1 o4 b5_0 b5_1 o6 o7 o8 z34 z35 = repl 3 (Zz o2 b3_0 b3_1 o4 b5_0 b5_1 o6 o7 o8 z35 z34) := by
 rw [ZNe]
 simp only [ZnH, Zz, Zv, ZI, Z5, Z6, Z2, Z3, Z4, Z1, if_true]
noncomputable def ZCj (z34 : Int × Int × Int) (z35 : Int × Int × Int) : Option (List Z1o) := execT Z0.G (stepOp Z0.T Z0.G Z0.mvs k) Zc 5 #[true, true, true, true, true, true, true, true, true, true, true, true, true, false, false, false, false, false] ⟨sets (Z1B o8) [(79, TV.sv (SV.at (J0 z34.1))), (80, TV.sv (SV.at (At.ep 8 T3 z34.1 0))), (81, TV.sv (SV.agg [J0 (Prod.fst (List.getD o8 (Int.toNat z34.1) ((0 : Int), (0 : Int), (0 : Int)))), J0 (Prod.fst (Prod.snd (List.getD o8 (Int.toNat z34.1) ((0 : Int), (0 : Int), (0 : Int))))), J0 (Prod.snd (Prod.snd (List.getD o8 (Int.toNat z34.1) ((0 : Int), (0 : Int), (0 : Int)))))])), (85, Z2W o8), (86, TV.sv (SV.at (J0 z35.1))), (87, TV.sv (SV.at (At.ep 8 T3 z35.1 0)))], [Ob.ro, Ob.box 82 [At.sl 2, J0 z35.2.1, At.int IntKind.u64 z35.2.2], Z16 o2, Z17 b3_0 b3_1, Z1b o4, Z1a b5_0 b5_1, Z13 o6, Z15 o7, Z18 o8]⟩ (outK Z0 Z9)
theorem ZNf (z34 : Int × Int × Int) (z35 : Int × Int × Int) : ZCj k o2 b3_0 b3_1 o4 b5_0 b5_1 o6 o7 o8 z34 z35 = joinL (ZCp k o2 b3_0 b3_1 o4 b5_0 b5_1 o6 o7 o8 z34 z35) (joinL (Zza k o2 b3_0 b3_1 o4 b5_0 b5_1 o6 o7 o8 z34 z35) (ZyT k o2 b3_0 b3_1 o4 b5_0 b5_1 o6 o7 o8 z34 z35)) := by kernel_rfl
theorem ZHZ (z34 : Int × Int × Int) (z35 : Int × Int × Int) : ZCj k o2 b3_0 b3_1 o4 b5_0 b5_1 o6 o7 o8 z34 z35 = repl 8 (Zz o2 b3_0 b3_1 o4 b5_0 b5_1 o6 o7 o8 z35 z34) := by
 rw [ZNf]
 simp only [ZHy, ZCw, ZCM, Zz, Zv, ZI, Z5, Z6, Z2, Z3, Z4, Z1, if_true]
noncomputable def Zzo (z34 : Int × Int × Int) : Option (List Z1o) := execT Z0.G (stepOp Z0.T Z0.G Z0.mvs k) Zc 6 #[true, true, true, true, true, true, true, true, true, true, true, false, false, false, true, false, false, false] ⟨sets (Z1B o8) [(10, P0 9), (79, TV.sv (SV.at (J0 z34.1))), (80, TV.sv (SV.at (At.ep 8 T3 z34.1 0))), (81, TV.sv (SV.agg [J0 (Prod.fst (List.getD o8 (Int.toNat z34.1) ((0 : Int), (0 : Int), (0 : Int)))), J0 (Prod.fst (Prod.snd (List.getD o8 (Int.toNat z34.1) ((0 : Int), (0 : Int), (0 : Int))))), J0 (Prod.snd (Prod.snd (List.getD o8 (Int.toNat z34.1) ((0 : Int), (0 : Int), (0 : Int)))))])), (85, Z2W o8)], [Ob.ro, Ob.box 82 [At.sl 2, J0 z34.2.1, At.int IntKind.u64 z34.2.2], Z16 o2, Z17 b3_0 b3_1, Z1b o4, Z1a b5_0 b5_1, Z13 o6, Z15 o7, Z18 o8, Z19]⟩ (outK Z0 Z9)
theorem ZNP (z34 : Int × Int × Int) : Zzo k o2 b3_0 b3_1 o4 b5_0 b5_1 o6 o7 o8 z34 = joinL (Option.bind (Z8 k (o2, Prod.fst z34.2, Prod.snd z34.2) (↑(List.length o8) : Int)) fun z36 => if (0 : Int) ≤ Prod.fst z36 then if Prod.fst z36 < (↑(List.length o8) : Int) then Zza k o2 b3_0 b3_1 o4 b5_0 b5_1 o6 o7 o8 z34 z36 else none else none) (Option.bind (Z8 k (o2, Prod.fst z34.2, Prod.snd z34.2) (↑(List.length o8) : Int)) fun z37 => if (0 : Int) ≤ Prod.fst z37 then if Prod.fst z37 < (↑(List.length o8) : Int) then ZlB k o2 b3_0 b3_1 o4 b5_0 b5_1 o6 o7 o8 z34 z37 else none else none) := by kernel_rfl
theorem ZDl (z34 : Int × Int × Int) : Zzo k o2 b3_0 b3_1 o4 b5_0 b5_1 o6 o7 o8 z34 = repl 5 (Zv k o2 b3_0 b3_1 o4 b5_0 b5_1 o6 o7 o8 z34) := by
 rw [ZNP]
 simp only [ZCw, Znr, Zz, Zv, ZI, Z5, Z6, Z2, Z3, Z4, Z1, if_true]
noncomputable def Zz3 (z34 : Int × Int × Int) : Option (List Z1o) := execT Z0.G (stepOp Z0.T Z0.G Z0.mvs k) Zc 6 #[true, true, true, true, true, true, true, true, true, true, true, false, false, false, false, true, false, false] ⟨sets (Z1B o8) [(11, P0 9), (79, TV.sv (SV.at (J0 z34.1))), (80, TV.sv (SV.at (At.ep 8 T3 z34.1 0))), (81, TV.sv (SV.agg [J0 (Prod.fst (List.getD o8 (Int.toNat z34.1) ((0 : Int), (0 : Int), (0 : Int)))), J0 (Prod.fst (Prod.snd (List.getD o8 (Int.toNat z34.1) ((0 : Int), (0 : Int), (0 : Int))))), J0 (Prod.snd (Prod.snd (List.getD o8 (Int.toNat z34.1) ((0 : Int), (0 : Int), (0 : Int)))))])), (85, Z2W o8)], [Ob.ro, Ob.box 82 [At.sl 2, J0 z34.2.1, At.int IntKind.u64 z34.2.2], Z16 o2, Z17 b3_0 b3_1, Z1b o4, Z1a b5_0 b5_1, Z13 o6, Z15 o7, Z18 o8, Z19]⟩ (outK Z0 Z9)
theorem ZNn (z34 : Int × Int × Int) : Zz3 k o2 b3_0 b3_1 o4 b5_0 b5_1 o6 o7 o8 z34 = joinL (Option.bind (Z8 k (o2, Prod.fst z34.2, Prod.snd z34.2) (↑(List.length o8) : Int)) fun z39 => if (0 : Int) ≤ Prod.fst z39 then if Prod.fst z39 < (↑(List.length o8) : Int) then ZyT k o2 b3_0 b3_1 o4 b5_0 b5_1 o6 o7 o8 z34 z39 else none else none) (Option.bind (Z8 k (o2, Prod.fst z34.2, Prod.snd z34.2) (↑(List.length o8) : Int)) fun z40 => if (0 : Int) ≤ Prod.fst z40 then if Prod.fst z40 < (↑(List.length o8) : Int) then ZlE k o2 b3_0 b3_1 o4 b5_0 b5_1 o6 o7 o8 z34 z40 else none else none) := by kernel_rfl
theorem ZDu (z34 : Int × Int × Int) : Zz3 k o2 b3_0 b3_1 o4 b5_0 b5_1 o6 o7 o8 z34 = repl 5 (Zv k o2 b3_0 b3_1 o4 b5_0 b5_1 o6 o7 o8 z34) := by
 rw [ZNn]
 simp only [ZCM, ZnH, Zz, Zv, ZI, Z5, Z6, Z2, Z3, Z4, Z1, if_true]
noncomputable def ZCk (z34 : Int × Int × Int) : Option (List Z1o) := execT Z0.G (stepOp Z0.T Z0.G Z0.mvs k) Zc 7 #[true, true, true, true, true, true, true, true, true, true, true, false, false, false, false, false, false, false] ⟨sets (Z1B o8) [(79, TV.sv (SV.at (J0 z34.1))), (80, TV.sv (SV.at (At.ep 8 T3 z34.1 0))), (81, TV.sv (SV.agg [J0 (Prod.fst (List.getD o8 (Int.toNat z34.1) ((0 : Int), (0 : Int), (0 : Int)))), J0 (Prod.fst (Prod.snd (List.getD o8 (Int.toNat z34.1) ((0 : Int), (0 : Int), (0 : Int))))), J0 (Prod.snd (Prod.snd (List.getD o8 (Int.toNat z34.1) ((0 : Int), (0 : Int), (0 : Int)))))])), (85, Z2W o8)], [Ob.ro, Ob.box 82 [At.sl 2, J0 z34.2.1, At.int IntKind.u64 z34.2.2], Z16 o2, Z17 b3_0 b3_1, Z1b o4, Z1a b5_0 b5_1, Z13 o6, Z15 o7, Z18 o8]⟩ (outK Z0 Z9)
theorem ZM2 (z34 : Int × Int × Int) : ZCk k o2 b3_0 b3_1 o4 b5_0 b5_1 o6 o7 o8 z34 = joinL (Option.bind (Z8 k (o2, Prod.fst z34.2, Prod.snd z34.2) (↑(List.length o8) : Int)) fun z35 => if (0 : Int) ≤ Prod.fst z35 then if Prod.fst z35 < (↑(List.length o8) : Int) then ZCj k o2 b3_0 b3_1 o4 b5_0 b5_1 o6 o7 o8 z34 z35 else none else none) (joinL (Zzo k o2 b3_0 b3_1 o4 b5_0 b5_1 o6 o7 o8 z34) (Zz3 k o2 b3_0 b3_1 o4 b5_0 b5_1 o6 o7 o8 z34)) := by kernel_rfl
theorem ZHG (z34 : Int × Int × Int) : ZCk k o2 b3_0 b3_1 o4 b5_0 b5_1 o6 o7 o8 z34 = repl 18 (Zv k o2 b3_0 b3_1 o4 b5_0 b5_1 o6 o7 o8 z34) := by
 rw [ZM2]
 simp only [ZHZ, ZDl, ZDu, Zz, Zv, ZI, Z5, Z6, Z2, Z3, Z4, Z1, if_true]
noncomputable def ZC9 (z34 : Int × Int × Int) : Option (List Z1o) := execT Z0.G (stepOp Z0.T Z0.G Z0.mvs k) Zc 7 #[true, true, true, true, true, true, true, true, true, true, false, false, false, false, true, false, false, false] ⟨sets (Z1B o8) [(10, P0 9), (79, TV.sv (SV.at (J0 z34.1))), (80, TV.sv (SV.at (At.ep 8 T3 z34.1 0))), (81, TV.sv (SV.agg [J0 (Prod.fst (List.getD o8 (Int.toNat z34.1) ((0 : Int), (0 : Int), (0 : Int)))), J0 (Prod.fst (Prod.snd (List.getD o8 (Int.toNat z34.1) ((0 : Int), (0 : Int), (0 : Int))))), J0 (Prod.snd (Prod.snd (List.getD o8 (Int.toNat z34.1) ((0 : Int), (0 : Int), (0 : Int)))))]))], [Ob.ro, Ob.box 82 [At.sl 2, J0 z34.2.1, At.int IntKind.u64 z34.2.2], Z16 o2, Z17 b3_0 b3_1, Z1b o4, Z1a b5_0 b5_1, Z13 o6, Z15 o7, Z18 o8, Z19]⟩ (outK Z0 Z9)
theorem ZN4 (z34 : Int × Int × Int) : ZC9 k o2 b3_0 b3_1 o4 b5_0 b5_1 o6 o7 o8 z34 = joinL (Zzo k o2 b3_0 b3_1 o4 b5_0 b5_1 o6 o7 o8 z34) (Option.bind (Z8 k (o2, Prod.fst z34.2, Prod.snd z34.2) (↑(List.length o8) : Int)) fun z43 => if (0 : Int) ≤ Prod.fst z43 then if Prod.fst z43 < (↑(List.length o8) : Int) then ZlB k o2 b3_0 b3_1 o4 b5_0 b5_1 o6 o7 o8 z34 z43 else none else none) := by kernel_rfl
theorem ZIa (z34 : Int × Int × Int) : ZC9 k o2 b3_0 b3_1 o4 b5_0 b5_1 o6 o7 o8 z34 = repl 7 (Zv k o2 b3_0 b3_1 o4 b5_0 b5_1 o6 o7 o8 z34) := by
 rw [ZN4]
 simp only [ZDl, Znr, Zz, Zv, ZI, Z5, Z6, Z2, Z3, Z4, Z1, if_true]
noncomputable def ZxI (z34 : Int × Int × Int) : Option (List Z1o) := execT Z0.G (stepOp Z0.T Z0.G Z0.mvs k) Zc 7 #[true, true, true, true, true, true, true, true, true, true, false, false, false, false, false, true, false, false] ⟨sets (Z1B o8) [(11, P0 9), (79, TV.sv (SV.at (J0 z34.1))), (80, TV.sv (SV.at (At.ep 8 T3 z34.1 0))), (81, TV.sv (SV.agg [J0 (Prod.fst (List.getD o8 (Int.toNat z34.1) ((0 : Int), (0 : Int), (0 : Int)))), J0 (Prod.fst (Prod.snd (List.getD o8 (Int.toNat z34.1) ((0 : Int), (0 : Int), (0 : Int))))), J0 (Prod.snd (Prod.snd (List.getD o8 (Int.toNat z34.1) ((0 : Int), (0 : Int), (0 : Int)))))]))], [Ob.ro, Ob.box 82 [At.sl 2, J0 z34.2.1, At.int IntKind.u64 z34.2.2], Z16 o2, Z17 b3_0 b3_1, Z1b o4, Z1a b5_0 b5_1, Z13 o6, Z15 o7, Z18 o8, Z19]⟩ (outK Z0 Z9)
theorem ZL0 (z34 : Int × Int × Int) : ZxI k o2 b3_0 b3_1 o4 b5_0 b5_1 o6 o7 o8 z34 = joinL (Zz3 k o2 b3_0 b3_1 o4 b5_0 b5_1 o6 o7 o8 z34) (Option.bind (Z8 k (o2, Prod.fst z34.2, Prod.snd z34.2) (↑(List.length o8) : Int)) fun z45 => if (0 : Int) ≤ Prod.fst z45 then if Prod.fst z45 < (↑(List.length o8) : Int) then ZlE k o2 b3_0 b3_1 o4 b5_0 b5_1 o6 o7 o8 z34 z45 else none else none) := by kernel_rfl
theorem ZG7 (z34 : Int × Int × Int) : ZxI k o2 b3_0 b3_1 o4 b5_0 b5_1 o6 o7 o8 z34 = repl 7 (Zv k o2 b3_0 b3_1 o4 b5_0 b5_1 o6 o7 o8 z34) := by
 rw [ZL0]
 simp only [ZDu, ZnH, Zz, Zv, ZI, Z5, Z6, Z2, Z3, Z4, Z1, if_true]
noncomputable def ZEs (z34 : Int × Int × Int) : Option (List Z1o) := execT Z0.G (stepOp Z0.T Z0.G Z0.mvs k) Zc 8 #[true, true, true, true, true, true, true, true, true, true, false, false, false, false, false, false, false, false] ⟨sets (Z1B o8) [(79, TV.sv (SV.at (J0 z34.1))), (80, TV.sv (SV.at (At.ep 8 T3 z34.1 0))), (81, TV.sv (SV.agg [J0 (Prod.fst (List.getD o8 (Int.toNat z34.1) ((0 : Int), (0 : Int), (0 : Int)))), J0 (Prod.fst (Prod.snd (List.getD o8 (Int.toNat z34.1) ((0 : Int), (0 : Int), (0 : Int))))), J0 (Prod.snd (Prod.snd (List.getD o8 (Int.toNat z34.1) ((0 : Int), (0 : Int), (0 : Int)))))]))], [Ob.ro, Ob.box 82 [At.sl 2, J0 z34.2.1, At.int IntKind.u64 z34.2.2], Z16 o2, Z17 b3_0 b3_1, Z1b o4, Z1a b5_0 b5_1, Z13 o6, Z15 o7, Z18 o8]⟩ (outK Z0 Z9)
theorem ZJQ (z34 : Int × Int × Int) : ZEs k o2 b3_0 b3_1 o4 b5_0 b5_1 o6 o7 o8 z34 = joinL (ZCk k o2 b3_0 b3_1 o4 b5_0 b5_1 o6 o7 o8 z34) (joinL (ZC9 k o2 b3_0 b3_1 o4 b5_0 b5_1 o6 o7 o8 z34) (ZxI k o2 b3_0 b3_1 o4 b5_0 b5_1 o6 o7 o8 z34)) := by kernel_rfl
theorem ZKW (z34 : Int × Int × Int) : ZEs k o2 b3_0 b3_1 o4 b5_0 b5_1 o6 o7 o8 z34 = repl 32 (Zv k o2 b3_0 b3_1 o4 b5_0 b5_1 o6 o7 o8 z34) := by
 rw [ZJQ]
 simp only [ZHG, ZIa, ZG7, Zz, Zv, ZI, Z5, Z6, Z2, Z3, Z4, Z1, if_true]
noncomputable def ZyI (z34 : Int × Int × Int) (z48 : Int × Int × Int) : Option (List Z1o) := execT Z0.G (stepOp Z0.T Z0.G Z0.mvs k) Zc 4 #[true, true, true, true, true, true, false, true, true, true, true, true, true, true, true, false, false, false] ⟨sets (Z1B o8) [(10, P0 9), (79, TV.sv (SV.at (J0 z34.1))), (80, TV.sv (SV.at (At.ep 8 T3 z34.1 0))), (85, Z2W o8), (86, TV.sv (SV.at (J0 z48.1))), (87, TV.sv (SV.at (At.ep 8 T3 z48.1 0))), (88, TV.sv (SV.agg [J0 (Prod.fst (List.getD o8 (Int.toNat z48.1) ((0 : Int), (0 : Int), (0 : Int)))), J0 (Prod.fst (Prod.snd (List.getD o8 (Int.toNat z48.1) ((0 : Int), (0 : Int), (0 : Int))))), J0 (Prod.snd (Prod.snd (List.getD o8 (Int.toNat z48.1) ((0 : Int), (0 : Int), (0 : Int)))))]))], [Ob.ro, Ob.box 82 [At.sl 2, J0 z48.2.1, At.int IntKind.u64 z48.2.2], Z16 o2, Z17 b3_0 b3_1, Z1b o4, Z1a b5_0 b5_1, Z13 o6, Z15 o7, Z18 o8, Z19]⟩ (outK Z0 Z9)
theorem ZJy (z34 : Int × Int × Int) (z48 : Int × Int × Int) : ZyI k o2 b3_0 b3_1 o4 b5_0 b5_1 o6 o7 o8 z34 z48 = joinL (some [(Prod.fst z48.2, Prod.snd z48.2, o2, b3_0, b3_1, o4, b5_0, b5_1, o6, o7, Prod.fst (List.getD o8 (Int.toNat z34.1) ((0 : Int), (0 : Int), (0 : Int))), Prod.fst (Prod.snd (List.getD o8 (Int.toNat z34.1) ((0 : Int), (0 : Int), (0 : Int)))), Prod.snd (Prod.snd (List.getD o8 (Int.toNat z34.1) ((0 : Int), (0 : Int), (0 : Int)))), Prod.fst (List.getD o8 (Int.toNat z48.1) ((0 : Int), (0 : Int), (0 : Int))), Prod.fst (Prod.snd (List.getD o8 (Int.toNat z48.1) ((0 : Int), (0 : Int), (0 : Int)))), Prod.snd (Prod.snd (List.getD o8 (Int.toNat z48.1) ((0 : Int), (0 : Int), (0 : Int)))))]) (some [(Prod.fst z48.2, Prod.snd z48.2, o2, b3_0, b3_1, o4, b5_0, b5_1, o6, o7, Prod.fst (List.getD o8 (Int.toNat z34.1) ((0 : Int), (0 : Int), (0 : Int))), Prod.fst (Prod.snd (List.getD o8 (Int.toNat z34.1) ((0 : Int), (0 : Int), (0 : Int)))), Prod.snd (Prod.snd (List.getD o8 (Int.toNat z34.1) ((0 : Int), (0 : Int), (0 : Int)))), Prod.fst (List.getD o8 (Int.toNat z48.1) ((0 : Int), (0 : Int), (0 : Int))), Prod.fst (Prod.snd (List.getD o8 (Int.toNat z48.1) ((0 : Int), (0 : Int), (0 : Int)))), Prod.snd (Prod.snd (List.getD o8 (Int.toNat z48.1) ((0 : Int), (0 : Int), (0 : Int)))))]) := by kernel_rfl
theorem ZG8 (z34 : Int × Int × Int) (z48 : Int × Int × Int) : ZyI k o2 b3_0 b3_1 o4 b5_0 b5_1 o6 o7 o8 z34 z48 = repl 2 (Zz o2 b3_0 b3_1 o4 b5_0 b5_1 o6 o7 o8 z48 z34) := by
 rw [ZJy]
 simp only [Zz, Zv, ZI, Z5, Z6, Z2, Z3, Z4, Z1, if_true]
noncomputable def ZxP (z34 : Int × Int × Int) (z48 : Int × Int × Int) : Option (List Z1o) := execT Z0.G (stepOp Z0.T Z0.G Z0.mvs k) Zc 4 #[true, true, true, true, true, true, false, true, true, true, true, true, true, true, false, true, false, false] ⟨sets (Z1B o8) [(11, P0 9), (79, TV.sv (SV.at (J0 z34.1))), (80, TV.sv (SV.at (At.ep 8 T3 z34.1 0))), (85, Z2W o8), (86, TV.sv (SV.at (J0 z48.1))), (87, TV.sv (SV.at (At.ep 8 T3 z48.1 0))), (88, TV.sv (SV.agg [J0 (Prod.fst (List.getD o8 (Int.toNat z48.1) ((0 : Int), (0 : Int), (0 : Int)))), J0 (Prod.fst (Prod.snd (List.getD o8 (Int.toNat z48.1) ((0 : Int), (0 : Int), (0 : Int))))), J0 (Prod.snd (Prod.snd (List.getD o8 (Int.toNat z48.1) ((0 : Int), (0 : Int), (0 : Int)))))]))], [Ob.ro, Ob.box 82 [At.sl 2, J0 z48.2.1, At.int IntKind.u64 z48.2.2], Z16 o2, Z17 b3_0 b3_1, Z1b o4, Z1a b5_0 b5_1, Z13 o6, Z15 o7, Z18 o8, Z19]⟩ (outK Z0 Z9)
theorem ZKU (z34 : Int × Int × Int) (z48 : Int × Int × Int) : ZxP k o2 b3_0 b3_1 o4 b5_0 b5_1 o6 o7 o8 z34 z48 = joinL (some [(Prod.fst z48.2, Prod.snd z48.2, o2, b3_0, b3_1, o4, b5_0, b5_1, o6, o7, Prod.fst (List.getD o8 (Int.toNat z34.1) ((0 : Int), (0 : Int), (0 : Int))), Prod.fst (Prod.snd (List.getD o8 (Int.toNat z34.1) ((0 : Int), (0 : Int), (0 : Int)))), Prod.snd (Prod.snd (List.getD o8 (Int.toNat z34.1) ((0 : Int), (0 : Int), (0 : Int)))), Prod.fst (List.getD o8 (Int.toNat z48.1) ((0 : Int), (0 : Int), (0 : Int))), Prod.fst (Prod.snd (List.getD o8 (Int.toNat z48.1) ((0 : Int), (0 : Int), (0 : Int)))), Prod.snd (Prod.snd (List.getD o8 (Int.toNat z48.1) ((0 : Int), (0 : Int), (0 : Int)))))]) (some [(Prod.fst z48.2, Prod.snd z48.2, o2, b3_0, b3_1, o4, b5_0, b5_1, o6, o7, Prod.fst (List.getD o8 (Int.toNat z34.1) ((0 : Int), (0 : Int), (0 : Int))), Prod.fst (Prod.snd (List.getD o8 (Int.toNat z34.1) ((0 : Int), (0 : Int), (0 : Int)))), Prod.snd (Prod.snd (List.getD o8 (Int.toNat z34.1) ((0 : Int), (0 : Int), (0 : Int)))), Prod.fst (List.getD o8 (Int.toNat z48.1) ((0 : Int), (0 : Int), (0 : Int))), Prod.fst (Prod.snd (List.getD o8 (Int.toNat z48.1) ((0 : Int), (0 : Int), (0 : Int)))), Prod.snd (Prod.snd (List.getD o8 (Int.toNat z48.1) ((0 : Int), (0 : Int), (0 : Int)))))]) := by kernel_rfl
theorem ZFY (z34 : Int × Int × Int) (z48 : Int × Int × Int) : ZxP k o2 b3_0 b3_1 o4 b5_0 b5_1 o6 o7 o8 z34 z48 = repl 2 (Zz o2 b3_0 b3_1 o4 b5_0 b5_1 o6 o7 o8 z48 z34) := by
 rw [ZKU]
 simp only [Zz, Zv, ZI, Z5, Z6, Z2, Z3, Z4, Z1, if_true]
noncomputable def ZDI (z34 : Int × Int × Int) (z48 : Int × Int × Int) : Option (List Z1o) := execT Z0.G (stepOp Z0.T Z0.G Z0.mvs k) Zc 5 #[true, true, true, true, true, true, false, true, true, true, true, true, true, true, false, false, false, false] ⟨sets (Z1B o8) [(79, TV.sv (SV.at (J0 z34.1))), (80, TV.sv (SV.at (At.ep 8 T3 z34.1 0))), (85, Z2W o8), (86, TV.sv (SV.at (J0 z48.1))), (87, TV.sv (SV.at (At.ep 8 T3 z48.1 0))), (88, TV.sv (SV.agg [J0 (Prod.fst (List.getD o8 (Int.toNat z48.1) ((0 : Int), (0 : Int), (0 : Int)))), J0 (Prod.fst (Prod.snd (List.getD o8 (Int.toNat z48.1) ((0 : Int), (0 : Int), (0 : Int))))), J0 (Prod.snd (Prod.snd (List.getD o8 (Int.toNat z48.1) ((0 : Int), (0 : Int), (0 : Int)))))]))], [Ob.ro, Ob.box 82 [At.sl 2, J0 z48.2.1, At.int IntKind.u64 z48.2.2], Z16 o2, Z17 b3_0 b3_1, Z1b o4, Z1a b5_0 b5_1, Z13 o6, Z15 o7, Z18 o8]⟩ (outK Z0 Z9)
theorem ZLa (z34 : Int × Int × Int) (z48 : Int × Int × Int) : ZDI k o2 b3_0 b3_1 o4 b5_0 b5_1 o6 o7 o8 z34 z48 = joinL (ZCp k o2 b3_0 b3_1 o4 b5_0 b5_1 o6 o7 o8 z34 z48) (joinL (ZyI k o2 b3_0 b3_1 o4 b5_0 b5_1 o6 o7 o8 z34 z48) (ZxP k o2 b3_0 b3_1 o4 b5_0 b5_1 o6 o7 o8 z34 z48)) := by kernel_rfl
theorem ZK4 (z34 : Int × Int × Int) (z48 : Int × Int × Int) : ZDI k o2 b3_0 b3_1 o4 b5_0 b5_1 o6 o7 o8 z34 z48 = repl 6 (Zz o2 b3_0 b3_1 o4 b5_0 b5_1 o6 o7 o8 z48 z34) := by
 rw [ZLa]
 simp only [ZHy, ZG8, ZFY, Zz, Zv, ZI, Z5, Z6, Z2, Z3, Z4, Z1, if_true]
noncomputable def Zyp (z34 : Int × Int × Int) (z48 : Int × Int × Int) : Option (List Z1o) := execT Z0.G (stepOp Z0.T Z0.G Z0.mvs k) Zc 4 #[true, true, true, true, true, true, false, true, true, true, true, true, true, false, true, true, false, false] ⟨sets (Z1B o8) [(10, P0 9), (11, P0 10), (79, TV.sv (SV.at (J0 z34.1))), (80, TV.sv (SV.at (At.ep 8 T3 z34.1 0))), (85, Z2W o8), (86, TV.sv (SV.at (J0 z48.1))), (87, TV.sv (SV.at (At.ep 8 T3 z48.1 0)))], [Ob.ro, Ob.box 82 [At.sl 2, J0 z48.2.1, At.int IntKind.u64 z48.2.2], Z16 o2, Z17 b3_0 b3_1, Z1b o4, Z1a b5_0 b5_1, Z13 o6, Z15 o7, Z18 o8, Z19, Z19]⟩ (outK Z0 Z9)
theorem ZKL (z34 : Int × Int × Int) (z48 : Int × Int × Int) : Zyp k o2 b3_0 b3_1 o4 b5_0 b5_1 o6 o7 o8 z34 z48 = joinL (ZlB k o2 b3_0 b3_1 o4 b5_0 b5_1 o6 o7 o8 z34 z48) (some [(Prod.fst z48.2, Prod.snd z48.2, o2, b3_0, b3_1, o4, b5_0, b5_1, o6, o7, Prod.fst (List.getD o8 (Int.toNat z34.1) ((0 : Int), (0 : Int), (0 : Int))), Prod.fst (Prod.snd (List.getD o8 (Int.toNat z34.1) ((0 : Int), (0 : Int), (0 : Int)))), Prod.snd (Prod.snd (List.getD o8 (Int.toNat z34.1) ((0 : Int), (0 : Int), (0 : Int)))), Prod.fst (List.getD o8 (Int.toNat z48.1) ((0 : Int), (0 : Int), (0 : Int))), Prod.fst (Prod.snd (List.getD o8 (Int.toNat z48.1) ((0 : Int), (0 : Int), (0 : Int)))), Prod.snd (Prod.snd (List.getD o8 (Int.toNat z48.1) ((0 : Int), (0 : Int), (0 : Int)))))]) := by kernel_rfl
theorem ZFG (z34 : Int × Int × Int) (z48 : Int × Int × Int) : Zyp k o2 b3_0 b3_1 o4 b5_0 b5_1 o6 o7 o8 z34 z48 = repl 3 (Zz o2 b3_0 b3_1 o4 b5_0 b5_1 o6 o7 o8 z48 z34) := by
 rw [ZKL]
 simp only [Znr, Zz, Zv, ZI, Z5, Z6, Z2, Z3, Z4, Z1, if_true]
noncomputable def Zyr (z34 : Int × Int × Int) (z48 : Int × Int × Int) : Option (List Z1o) := execT Z0.G (stepOp Z0.T Z0.G Z0.mvs k) Zc 5 #[true, true, true, true, true, true, false, true, true, true, true, true, true, false, true, false, false, false] ⟨sets (Z1B o8) [(10, P0 9), (79, TV.sv (SV.at (J0 z34.1))), (80, TV.sv (SV.at (At.ep 8 T3 z34.1 0))), (85, Z2W o8), (86, TV.sv (SV.at (J0 z48.1))), (87, TV.sv (SV.at (At.ep 8 T3 z48.1 0)))], [Ob.ro, Ob.box 82 [At.sl 2, J0 z48.2.1, At.int IntKind.u64 z48.2.2], Z16 o2, Z17 b3_0 b3_1, Z1b o4, Z1a b5_0 b5_1, Z13 o6, Z15 o7, Z18 o8, Z19]⟩ (outK Z0 Z9)
theorem ZLD (z34 : Int × Int × Int) (z48 : Int × Int × Int) : Zyr k o2 b3_0 b3_1 o4 b5_0 b5_1 o6 o7 o8 z34 z48 = joinL (Zza k o2 b3_0 b3_1 o4 b5_0 b5_1 o6 o7 o8 z34 z48) (joinL (ZyI k o2 b3_0 b3_1 o4 b5_0 b5_1 o6 o7 o8 z34 z48) (Zyp k o2 b3_0 b3_1 o4 b5_0 b5_1 o6 o7 o8 z34 z48)) := by kernel_rfl
theorem ZGb (z34 : Int × Int × Int) (z48 : Int × Int × Int) : Zyr k o2 b3_0 b3_1 o4 b5_0 b5_1 o6 o7 o8 z34 z48 = repl 8 (Zz o2 b3_0 b3_1 o4 b5_0 b5_1 o6 o7 o8 z48 z34) := by
 rw [ZLD]
 simp only [ZCw, ZG8, ZFG, Zz, Zv, ZI, Z5, Z6, Z2, Z3, Z4, Z1, if_true]
noncomputable def ZxA (z34 : Int × Int × Int) (z48 : Int × Int × Int) : Option (List Z1o) := execT Z0.G (stepOp Z0.T Z0.G Z0.mvs k) Zc 4 #[true, true, true, true, true, true, false, true, true, true, true, true, true, false, true, true, false, false] ⟨sets (Z1B o8) [(10, P0 10), (11, P0 9), (79, TV.sv (SV.at (J0 z34.1))), (80, TV.sv (SV.at (At.ep 8 T3 z34.1 0))), (85, Z2W o8), (86, TV.sv (SV.at (J0 z48.1))), (87, TV.sv (SV.at (At.ep 8 T3 z48.1 0)))], [Ob.ro, Ob.box 82 [At.sl 2, J0 z48.2.1, At.int IntKind.u64 z48.2.2], Z16 o2, Z17 b3_0 b3_1, Z1b o4, Z1a b5_0 b5_1, Z13 o6, Z15 o7, Z18 o8, Z19, Z19]⟩ (outK Z0 Z9)
theorem ZJc (z34 : Int × Int × Int) (z48 : Int × Int × Int) : ZxA k o2 b3_0 b3_1 o4 b5_0 b5_1 o6 o7 o8 z34 z48 = joinL (ZlE k o2 b3_0 b3_1 o4 b5_0 b5_1 o6 o7 o8 z34 z48) (some [(Prod.fst z48.2, Prod.snd z48.2, o2, b3_0, b3_1, o4, b5_0, b5_1, o6, o7, Prod.fst (List.getD o8 (Int.toNat z34.1) ((0 : Int), (0 : Int), (0 : Int))), Prod.fst (Prod.snd (List.getD o8 (Int.toNat z34.1) ((0 : Int), (0 : Int), (0 : Int)))), Prod.snd (Prod.snd (List.getD o8 (Int.toNat z34.1) ((0 : Int), (0 : Int), (0 : Int)))), Prod.fst (List.getD o8 (Int.toNat z48.1) ((0 : Int), (0 : Int), (0 : Int))), Prod.fst (Prod.snd (List.getD o8 (Int.toNat z48.1) ((0 : Int), (0 : Int), (0 : Int)))), Prod.snd (Prod.snd (List.getD o8 (Int.toNat z48.1) ((0 : Int), (0 : Int), (0 : Int)))))]) := by kernel_rfl
theorem ZFC (z34 : Int × Int × Int) (z48 : Int × Int × Int) : ZxA k o2 b3_0 b3_1 o4 b5_0 b5_1 o6 o7 o8 z34 z48 = repl 3 (Zz o2 b3_0 b3_1 o4 b5_0 b5_1 o6 o7 o8 z48 z34) := by
 rw [ZJc]
 simp only [ZnH, Zz, Zv, ZI, Z5, Z6, Z2, Z3, Z4, Z1, if_true]
noncomputable def Zy5 (z34 : Int × Int × Int) (z48 : Int × Int × Int) : Option (List Z1o) := execT Z0.G (stepOp Z0.T Z0.G Z0.mvs k) Zc 5 #[true, true, true, true, true, true, false, true, true, true, true, true, true, false, false, true, false, false] ⟨sets (Z1B o8) [(11, P0 9), (79, TV.sv (SV.at (J0 z34.1))), (80, TV.sv (SV.at (At.ep 8 T3 z34.1 0))), (85, Z2W o8), (86, TV.sv (SV.at (J0 z48.1))), (87, TV.sv (SV.at (At.ep 8 T3 z48.1 0)))], [Ob.ro, Ob.box 82 [At.sl 2, J0 z48.2.1, At.int IntKind.u64 z48.2.2], Z16 o2, Z17 b3_0 b3_1, Z1b o4, Z1a b5_0 b5_1, Z13 o6, Z15 o7, Z18 o8, Z19]⟩ (outK Z0 Z9)
theorem ZJL (z34 : Int × Int × Int) (z48 : Int × Int × Int) : Zy5 k o2 b3_0 b3_1 o4 b5_0 b5_1 o6 o7 o8 z34 z48 = joinL (ZyT k o2 b3_0 b3_1 o4 b5_0 b5_1 o6 o7 o8 z34 z48) (joinL (ZxP k o2 b3_0 b3_1 o4 b5_0 b5_1 o6 o7 o8 z34 z48) (ZxA k o2 b3_0 b3_1 o4 b5_0 b5_1 o6 o7 o8 z34 z48)) := by kernel_rfl
theorem ZG1 (z34 : Int × Int × Int) (z48 : Int × Int × Int) : Zy5 k o2 b3_0 b3_1 o4 b5_0 b5_1 o6 o7 o8 z34 z48 = repl 8 (Zz o2 b3_0 b3_1 o4 b5_0 b5_1 o6 o7 o8 z48 z34) := by
 rw [ZJL]
 simp only [ZCM, ZFY, ZFC, Zz, Zv, ZI, Z5, Z6, Z2, Z3, Z4, Z1, if_true]
noncomputable def ZDW (z34 : Int × Int × Int) (z48 : Int × Int × Int) : Option (List Z1o) := execT Z0.G (stepOp Z0.T Z0.G Z0.mvs k) Zc 6 #[true, true, true, true, true, true, false, true, true, true, true, true, true, false, false, false, false, false] ⟨sets (Z1B o8) [(79, TV.sv (SV.at (J0 z34.1))), (80, TV.sv (SV.at (At.ep 8 T3 z34.1 0))), (85, Z2W o8), (86, TV.sv (SV.at (J0 z48.1))), (87, TV.sv (SV.at (At.ep 8 T3 z48.1 0)))], [Ob.ro, Ob.box 82 [At.sl 2, J0 z48.2.1, At.int IntKind.u64 z48.2.2], Z16 o2, Z17 b3_0 b3_1, Z1b o4, Z1a b5_0 b5_1, Z13 o6, Z15 o7, Z18 o8]⟩ (outK Z0 Z9)
theorem ZJh (z34 : Int × Int × Int) (z48 : Int × Int × Int) : ZDW k o2 b3_0 b3_1 o4 b5_0 b5_1 o6 o7 o8 z34 z48 = joinL (ZCj k o2 b3_0 b3_1 o4 b5_0 b5_1 o6 o7 o8 z34 z48) (joinL (ZDI k o2 b3_0 b3_1 o4 b5_0 b5_1 o6 o7 o8 z34 z48) (joinL (Zyr k o2 b3_0 b3_1 o4 b5_0 b5_1 o6 o7 o8 z34 z48) (Zy5 k o2 b3_0 b3_1 o4 b5_0 b5_1 o6 o7 o8 z34 z48))) := by kernel_rfl
theorem ZKo (z34 : Int × Int × Int) (z48 : Int × Int × Int) : ZDW k o2 b3_0 b3_1 o4 b5_0 b5_1 o6 o7 o8 z34 z48 = repl 30 (Zz o2 b3_0 b3_1 o4 b5_0 b5_1 o6 o7 o8 z48 z34) := by
 rw [ZJh]
 simp only [ZHZ, ZK4, ZGb, ZG1, Zz, Zv, ZI, Z5, Z6, Z2, Z3, Z4, Z1, if_true]
noncomputable def ZnV (z34 : Int × Int × Int) : Option (List Z1o) := execT Z0.G (stepOp Z0.T Z0.G Z0.mvs k) Zc 6 #[true, true, true, true, true, true, false, true, true, true, true, false, false, false, true, true, false, false] ⟨sets (Z1B o8) [(10, P0 9), (11, P0 10), (79, TV.sv (SV.at (J0 z34.1))), (80, TV.sv (SV.at (At.ep 8 T3 z34.1 0))), (85, Z2W o8)], [Ob.ro, Ob.box 82 [At.sl 2, J0 z34.2.1, At.int IntKind.u64 z34.2.2], Z16 o2, Z17 b3_0 b3_1, Z1b o4, Z1a b5_0 b5_1, Z13 o6, Z15 o7, Z18 o8, Z19, Z19]⟩ (outK Z0 Z9)
theorem ZJd (z34 : Int × Int × Int) : ZnV k o2 b3_0 b3_1 o4 b5_0 b5_1 o6 o7 o8 z34 = joinL (Option.bind (Z8 k (o2, Prod.fst z34.2, Prod.snd z34.2) (↑(List.length o8) : Int)) fun z50 => if (0 : Int) ≤ Prod.fst z50 then if Prod.fst z50 < (↑(List.length o8) : Int) then ZlB k o2 b3_0 b3_1 o4 b5_0 b5_1 o6 o7 o8 z34 z50 else none else none) (Option.bind (Z8 k (o2, Prod.fst z34.2, Prod.snd z34.2) (↑(List.length o8) : Int)) fun z51 => if (0 : Int) ≤ Prod.fst z51 then if Prod.fst z51 < (↑(List.length o8) : Int) then Zyp k o2 b3_0 b3_1 o4 b5_0 b5_1 o6 o7 o8 z34 z51 else none else none) := by kernel_rfl
theorem Zu9 (z34 : Int × Int × Int) : ZnV k o2 b3_0 b3_1 o4 b5_0 b5_1 o6 o7 o8 z34 = repl 5 (Zv k o2 b3_0 b3_1 o4 b5_0 b5_1 o6 o7 o8 z34) := by
 rw [ZJd]
 simp only [Znr, ZFG, Zz, Zv, ZI, Z5, Z6, Z2, Z3, Z4, Z1, if_true]
noncomputable def ZtR (z34 : Int × Int × Int) : Option (List Z1o) := execT Z0.G (stepOp Z0.T Z0.G Z0.mvs k) Zc 7 #[true, true, true, true, true, true, false, true, true, true, true, false, false, false, true, false, false, false] ⟨sets (Z1B o8) [(10, P0 9), (79, TV.sv (SV.at (J0 z34.1))), (80, TV.sv (SV.at (At.ep 8 T3 z34.1 0))), (85, Z2W o8)], [Ob.ro, Ob.box 82 [At.sl 2, J0 z34.2.1, At.int IntKind.u64 z34.2.2], Z16 o2, Z17 b3_0 b3_1, Z1b o4, Z1a b5_0 b5_1, Z13 o6, Z15 o7, Z18 o8, Z19]⟩ (outK Z0 Z9)
theorem ZLf (z34 : Int × Int × Int) : ZtR k o2 b3_0 b3_1 o4 b5_0 b5_1 o6 o7 o8 z34 = joinL (Zzo k o2 b3_0 b3_1 o4 b5_0 b5_1 o6 o7 o8 z34) (joinL (Option.bind (Z8 k (o2, Prod.fst z34.2, Prod.snd z34.2) (↑(List.length o8) : Int)) fun z49 => if (0 : Int) ≤ Prod.fst z49 then if Prod.fst z49 < (↑(List.length o8) : Int) then Zyr k o2 b3_0 b3_1 o4 b5_0 b5_1 o6 o7 o8 z34 z49 else none else none) (ZnV k o2 b3_0 b3_1 o4 b5_0 b5_1 o6 o7 o8 z34)) := by kernel_rfl
theorem ZA3 (z34 : Int × Int × Int) : ZtR k o2 b3_0 b3_1 o4 b5_0 b5_1 o6 o7 o8 z34 = repl 18 (Zv k o2 b3_0 b3_1 o4 b5_0 b5_1 o6 o7 o8 z34) := by
 rw [ZLf]
 simp only [ZDl, ZGb, Zu9, Zz, Zv, ZI, Z5, Z6, Z2, Z3, Z4, Z1, if_true]
noncomputable def ZnS (z34 : Int × Int × Int) : Option (List Z1o) := execT Z0.G (stepOp Z0.T Z0.G Z0.mvs k) Zc 6 #[true, true, true, true, true, true, false, true, true, true, true, false, false, false, true, true, false, false] ⟨sets (Z1B o8) [(10, P0 10), (11, P0 9), (79, TV.sv (SV.at (J0 z34.1))), (80, TV.sv (SV.at (At.ep 8 T3 z34.1 0))), (85, Z2W o8)], [Ob.ro, Ob.box 82 [At.sl 2, J0 z34.2.1, At.int IntKind.u64 z34.2.2], Z16 o2, Z17 b3_0 b3_1, Z1b o4, Z1a b5_0 b5_1, Z13 o6, Z15 o7, Z18 o8, Z19, Z19]⟩ (outK Z0 Z9)
theorem ZJl (z34 : Int × Int × Int) : ZnS k o2 b3_0 b3_1 o4 b5_0 b5_1 o6 o7 o8 z34 = joinL (Option.bind (Z8 k (o2, Prod.fst z34.2, Prod.snd z34.2) (↑(List.length o8) : Int)) fun z55 => if (0 : Int) ≤ Prod.fst z55 then if Prod.fst z55 < (↑(List.length o8) : Int) then ZlE k o2 b3_0 b3_1 o4 b5_0 b5_1 o6 o7 o8 z34 z55 else none else none) (Option.bind (Z8 k (o2, Prod.fst z34.2, Prod.snd z34.2) (↑(List.length o8) : Int)) fun z56 => if (0 : Int) ≤ Prod.fst z56 then if Prod.fst z56 < (↑(List.length o8) : Int) then ZxA k o2 b3_0 b3_1 o4 b5_0 b5_1 o6 o7 o8 z34 z56 else none else none) := by kernel_rfl
theorem Zu6 (z34 : Int × Int × Int) : ZnS k o2 b3_0 b3_1 o4 b5_0 b5_1 o6 o7 o8 z34 = repl 5 (Zv k o2 b3_0 b3_1 o4 b5_0 b5_1 o6 o7 o8 z34) := by
 rw [ZJl]
 simp only [ZnH, ZFC, Zz, Zv, ZI, Z5, Z6, Z2, Z3, Z4, Z1, if_true]
noncomputable def ZsI (z34 : Int × Int × Int) : Option (List Z1o) := execT Z0.G (stepOp Z0.T Z0.G Z0.mvs k) Zc 7 #[true, true, true, true, true, true, false, true, true, true, true, false, false, false, false, true, false, false] ⟨sets (Z1B o8) [(11, P0 9), (79, TV.sv (SV.at (J0 z34.1))), (80, TV.sv (SV.at (At.ep 8 T3 z34.1 0))), (85, Z2W o8)], [Ob.ro, Ob.box 82 [At.sl 2, J0 z34.2.1, At.int IntKind.u64 z34.2.2], Z16 o2, Z17 b3_0 b3_1, Z1b o4, Z1a b5_0 b5_1, Z13 o6, Z15 o7, Z18 o8, Z19]⟩ (outK Z0 Z9)
theorem ZLc (z34 : Int × Int × Int) : ZsI k o2 b3_0 b3_1 o4 b5_0 b5_1 o6 o7 o8 z34 = joinL (Zz3 k o2 b3_0 b3_1 o4 b5_0 b5_1 o6 o7 o8 z34) (joinL (Option.bind (Z8 k (o2, Prod.fst z34.2, Prod.snd z34.2) (↑(List.length o8) : Int)) fun z54 => if (0 : Int) ≤ Prod.fst z54 then if Prod.fst z54 < (↑(List.length o8) : Int) then Zy5 k o2 b3_0 b3_1 o4 b5_0 b5_1 o6 o7 o8 z34 z54 else none else none) (ZnS k o2 b3_0 b3_1 o4 b5_0 b5_1 o6 o7 o8 z34)) := by kernel_rfl
theorem ZzV (z34 : Int × Int × Int) : ZsI k o2 b3_0 b3_1 o4 b5_0 b5_1 o6 o7 o8 z34 = repl 18 (Zv k o2 b3_0 b3_1 o4 b5_0 b5_1 o6 o7 o8 z34) := by
 rw [ZLc]
 simp only [ZDu, ZG1, Zu6, Zz, Zv, ZI, Z5, Z6, Z2, Z3, Z4, Z1, if_true]
noncomputable def ZxE (z34 : Int × Int × Int) : Option (List Z1o) := execT Z0.G (stepOp Z0.T Z0.G Z0.mvs k) Zc 8 #[true, true, true, true, true, true, false, true, true, true, true, false, false, false, false, false, false, false] ⟨sets (Z1B o8) [(79, TV.sv (SV.at (J0 z34.1))), (80, TV.sv (SV.at (At.ep 8 T3 z34.1 0))), (85, Z2W o8)], [Ob.ro, Ob.box 82 [At.sl 2, J0 z34.2.1, At.int IntKind.u64 z34.2.2], Z16 o2, Z17 b3_0 b3_1, Z1b o4, Z1a b5_0 b5_1, Z13 o6, Z15 o7, Z18 o8]⟩ (outK Z0 Z9)
theorem ZLr (z34 : Int × Int × Int) : ZxE k o2 b3_0 b3_1 o4 b5_0 b5_1 o6 o7 o8 z34 = joinL (ZCk k o2 b3_0 b3_1 o4 b5_0 b5_1 o6 o7 o8 z34) (joinL (Option.bind (Z8 k (o2, Prod.fst z34.2, Prod.snd z34.2) (↑(List.length o8) : Int)) fun z48 => if (0 : Int) ≤ Prod.fst z48 then if Prod.fst z48 < (↑(List.length o8) : Int) then ZDW k o2 b3_0 b3_1 o4 b5_0 b5_1 o6 o7 o8 z34 z48 else none else none) (joinL (ZtR k o2 b3_0 b3_1 o4 b5_0 b5_1 o6 o7 o8 z34) (ZsI k o2 b3_0 b3_1 o4 b5_0 b5_1 o6 o7 o8 z34))) := by kernel_rfl
theorem ZFD (z34 : Int × Int × Int) : ZxE k o2 b3_0 b3_1 o4 b5_0 b5_1 o6 o7 o8 z34 = repl 84 (Zv k o2 b3_0 b3_1 o4 b5_0 b5_1 o6 o7 o8 z34) := by
 rw [ZLr]
 simp only [ZHG, ZKo, ZA3, ZzV, Zz, Zv, ZI, Z5, Z6, Z2, Z3, Z4, Z1, if_true]
noncomputable def Zy8 (z34 : Int × Int × Int) : Option (List Z1o) := execT Z0.G (stepOp Z0.T Z0.G Z0.mvs k) Zc 7 #[true, true, true, true, true, true, false, true, true, true, false, false, false, false, true, true, false, false] ⟨sets (Z1B o8) [(10, P0 9), (11, P0 10), (79, TV.sv (SV.at (J0 z34.1))), (80, TV.sv (SV.at (At.ep 8 T3 z34.1 0)))], [Ob.ro, Ob.box 82 [At.sl 2, J0 z34.2.1, At.int IntKind.u64 z34.2.2], Z16 o2, Z17 b3_0 b3_1, Z1b o4, Z1a b5_0 b5_1, Z13 o6, Z15 o7, Z18 o8, Z19, Z19]⟩ (outK Z0 Z9)
theorem ZLh (z34 : Int × Int × Int) : Zy8 k o2 b3_0 b3_1 o4 b5_0 b5_1 o6 o7 o8 z34 = joinL (Option.bind (Z8 k (o2, Prod.fst z34.2, Prod.snd z34.2) (↑(List.length o8) : Int)) fun z60 => if (0 : Int) ≤ Prod.fst z60 then if Prod.fst z60 < (↑(List.length o8) : Int) then ZlB k o2 b3_0 b3_1 o4 b5_0 b5_1 o6 o7 o8 z34 z60 else none else none) (ZnV k o2 b3_0 b3_1 o4 b5_0 b5_1 o6 o7 o8 z34) := by kernel_rfl
theorem ZFM (z34 : Int × Int × Int) : Zy8 k o2 b3_0 b3_1 o4 b5_0 b5_1 o6 o7 o8 z34 = repl 7 (Zv k o2 b3_0 b3_1 o4 b5_0 b5_1 o6 o7 o8 z34) := by
 rw [ZLh]
 simp only [Znr, Zu9, Zz, Zv, ZI, Z5, Z6, Z2, Z3, Z4, Z1, if_true]
noncomputable def Zze (z34 : Int × Int × Int) : Option (List Z1o) := execT Z0.G (stepOp Z0.T Z0.G Z0.mvs k) Zc 8 #[true, true, true, true, true, true, false, true, true, true, false, false, false, false, true, false, false, false] ⟨sets (Z1B o8) [(10, P0 9), (79, TV.sv (SV.at (J0 z34.1))), (80, TV.sv (SV.at (At.ep 8 T3 z34.1 0)))], [Ob.ro, Ob.box 82 [At.sl 2, J0 z34.2.1, At.int IntKind.u64 z34.2.2], Z16 o2, Z17 b3_0 b3_1, Z1b o4, Z1a b5_0 b5_1, Z13 o6, Z15 o7, Z18 o8, Z19]⟩ (outK Z0 Z9)
theorem ZL4 (z34 : Int × Int × Int) : Zze k o2 b3_0 b3_1 o4 b5_0 b5_1 o6 o7 o8 z34 = joinL (ZC9 k o2 b3_0 b3_1 o4 b5_0 b5_1 o6 o7 o8 z34) (joinL (ZtR k o2 b3_0 b3_1 o4 b5_0 b5_1 o6 o7 o8 z34) (Zy8 k o2 b3_0 b3_1 o4 b5_0 b5_1 o6 o7 o8 z34)) := by kernel_rfl
theorem ZFS (z34 : Int × Int × Int) : Zze k o2 b3_0 b3_1 o4 b5_0 b5_1 o6 o7 o8 z34 = repl 32 (Zv k o2 b3_0 b3_1 o4 b5_0 b5_1 o6 o7 o8 z34) := by
 rw [ZL4]
 simp only [ZIa, ZA3, ZFM, Zz, Zv, ZI, Z5, Z6, Z2, Z3, Z4, Z1, if_true]
noncomputable def Zyh (z34 : Int × Int × Int) : Option (List Z1o) := execT Z0.G (stepOp Z0.T Z0.G Z0.mvs k) Zc 7 #[true, true, true, true, true, true, false, true, true, true, false, false, false, false, true, true, false, false] ⟨sets (Z1B o8) [(10, P0 10), (11, P0 9), (79, TV.sv (SV.at (J0 z34.1))), (80, TV.sv (SV.at (At.ep 8 T3 z34.1 0)))], [Ob.ro, Ob.box 82 [At.sl 2, J0 z34.2.1, At.int IntKind.u64 z34.2.2], Z16 o2, Z17 b3_0 b3_1, Z1b o4, Z1a b5_0 b5_1, Z13 o6, Z15 o7, Z18 o8, Z19, Z19]⟩ (outK Z0 Z9)
theorem ZKq (z34 : Int × Int × Int) : Zyh k o2 b3_0 b3_1 o4 b5_0 b5_1 o6 o7 o8 z34 = joinL (Option.bind (Z8 k (o2, Prod.fst z34.2, Prod.snd z34.2) (↑(List.length o8) : Int)) fun z63 => if (0 : Int) ≤ Prod.fst z63 then if Prod.fst z63 < (↑(List.length o8) : Int) then ZlE k o2 b3_0 b3_1 o4 b5_0 b5_1 o6 o7 o8 z34 z63 else none else none) (ZnS k o2 b3_0 b3_1 o4 b5_0 b5_1 o6 o7 o8 z34) := by kernel_rfl
theorem ZFK (z34 : Int × Int × Int) : Zyh k o2 b3_0 b3_1 o4 b5_0 b5_1 o6 o7 o8 z34 = repl 7 (Zv k o2 b3_0 b3_1 o4 b5_0 b5_1 o6 o7 o8 z34) := by
 rw [ZKq]
 simp only [ZnH, Zu6, Zz, Zv, ZI, Z5, Z6, Z2, Z3, Z4, Z1, if_true]
noncomputable def Zz5 (z34 : Int × Int × Int) : Option (List Z1o) := execT Z0.G (stepOp Z0.T Z0.G Z0.mvs k) Zc 8 #[true, true, true, true, true, true, false, true, true, true, false, false, false, false, false, true, false, false] ⟨sets (Z1B o8) [(11, P0 9), (79, TV.sv (SV.at (J0 z34.1))), (80, TV.sv (SV.at (At.ep 8 T3 z34.1 0)))], [Ob.ro, Ob.box 82 [At.sl 2, J0 z34.2.1, At.int IntKind.u64 z34.2.2], Z16 o2, Z17 b3_0 b3_1, Z1b o4, Z1a b5_0 b5_1, Z13 o6, Z15 o7, Z18 o8, Z19]⟩ (outK Z0 Z9)
theorem ZL9 (z34 : Int × Int × Int) : Zz5 k o2 b3_0 b3_1 o4 b5_0 b5_1 o6 o7 o8 z34 = joinL (ZxI k o2 b3_0 b3_1 o4 b5_0 b5_1 o6 o7 o8 z34) (joinL (ZsI k o2 b3_0 b3_1 o4 b5_0 b5_1 o6 o7 o8 z34) (Zyh k o2 b3_0 b3_1 o4 b5_0 b5_1 o6 o7 o8 z34)) := by kernel_rfl
theorem ZG0 (z34 : Int × Int × Int) : Zz5 k o2 b3_0 b3_1 o4 b5_0 b5_1 o6 o7 o8 z34 = repl 32 (Zv k o2 b3_0 b3_1 o4 b5_0 b5_1 o6 o7 o8 z34) := by
 rw [ZL9]
 simp only [ZG7, ZzV, ZFK, Zz, Zv, ZI, Z5, Z6, Z2, Z3, Z4, Z1, if_true]
noncomputable def ZDw (z34 : Int × Int × Int) : Option (List Z1o) := execT Z0.G (stepOp Z0.T Z0.G Z0.mvs k) Zc 9 #[true, true, true, true, true, true, false, true, true, true, false, false, false, false, false, false, false, false] ⟨sets (Z1B o8) [(79, TV.sv (SV.at (J0 z34.1))), (80, TV.sv (SV.at (At.ep 8 T3 z34.1 0)))], [Ob.ro, Ob.box 82 [At.sl 2, J0 z34.2.1, At.int IntKind.u64 z34.2.2], Z16 o2, Z17 b3_0 b3_1, Z1b o4, Z1a b5_0 b5_1, Z13 o6, Z15 o7, Z18 o8]⟩ (outK Z0 Z9)
theorem ZL8 (z34 : Int × Int × Int) : ZDw k o2 b3_0 b3_1 o4 b5_0 b5_1 o6 o7 o8 z34 = joinL (ZEs k o2 b3_0 b3_1 o4 b5_0 b5_1 o6 o7 o8 z34) (joinL (ZxE k o2 b3_0 b3_1 o4 b5_0 b5_1 o6 o7 o8 z34) (joinL (Zze k o2 b3_0 b3_1 o4 b5_0 b5_1 o6 o7 o8 z34) (Zz5 k o2 b3_0 b3_1 o4 b5_0 b5_1 o6 o7 o8 z34))) := by kernel_rfl
theorem ZLB (z34 : Int × Int × Int) : ZDw k o2 b3_0 b3_1 o4 b5_0 b5_1 o6 o7 o8 z34 = repl 180 (Zv k o2 b3_0 b3_1 o4 b5_0 b5_1 o6 o7 o8 z34) := by
 rw [ZL8]
 simp only [ZKW, ZFD, ZFS, ZG0, Zz, Zv, ZI, Z5, Z6, Z2, Z3, Z4, Z1, if_true]
noncomputable def Zxu : Option (List Z1o) := execT Z0.G (stepOp Z0.T Z0.G Z0.mvs k) Zc 9 #[true, true, true, true, false, false, false, true, true, true, true, false, false, false, true, false, false, false] ⟨sets (Z1B o8) [(10, P0 9), (85, Z2W o8)], [Ob.ro, ZeI b1_1 b1_2, Z16 o2, Z17 b3_0 b3_1, Z1b o4, Z1a b5_0 b5_1, Z13 o6, Z15 o7, Z18 o8, Z19]⟩ (outK Z0 Z9)
theorem ZKz : Zxu k b1_1 b1_2 o2 b3_0 b3_1 o4 b5_0 b5_1 o6 o7 o8 = joinL (Option.bind (Z8 k (o2, b1_1, b1_2) (↑(List.length o8) : Int)) fun z68 => if (0 : Int) ≤ Prod.fst z68 then if Prod.fst z68 < (↑(List.length o8) : Int) then ZtR k o2 b3_0 b3_1 o4 b5_0 b5_1 o6 o7 o8 z68 else none else none) (Option.bind (Z8 k (o2, b1_1, b1_2) (↑(List.length o8) : Int)) fun z69 => if (0 : Int) ≤ Prod.fst z69 then if Prod.fst z69 < (↑(List.length o8) : Int) then ZnV k o2 b3_0 b3_1 o4 b5_0 b5_1 o6 o7 o8 z69 else none else none) := by kernel_rfl
theorem ZGa : Zxu k b1_1 b1_2 o2 b3_0 b3_1 o4 b5_0 b5_1 o6 o7 o8 = repl 23 (ZI k b1_1 b1_2 o2 b3_0 b3_1 o4 b5_0 b5_1 o6 o7 o8) := by
 rw [ZKz]
 simp only [ZA3, Zu9, Zz, Zv, ZI, Z5, Z6, Z2, Z3, Z4, Z1, if_true]
noncomputable def Zy6 : Option (List Z1o) := execT Z0.G (stepOp Z0.T Z0.G Z0.mvs k) Zc 9 #[true, true, true, true, false, false, false, true, true, true, true, false, false, false, false, true, false, false] ⟨sets (Z1B o8) [(11, P0 9), (85, Z2W o8)], [Ob.ro, ZeI b1_1 b1_2, Z16 o2, Z17 b3_0 b3_1, Z1b o4, Z1a b5_0 b5_1, Z13 o6, Z15 o7, Z18 o8, Z19]⟩ (outK Z0 Z9)
theorem ZJo : Zy6 k b1_1 b1_2 o2 b3_0 b3_1 o4 b5_0 b5_1 o6 o7 o8 = joinL (Option.bind (Z8 k (o2, b1_1, b1_2) (↑(List.length o8) : Int)) fun z72 => if (0 : Int) ≤ Prod.fst z72 then if Prod.fst z72 < (↑(List.length o8) : Int) then ZsI k o2 b3_0 b3_1 o4 b5_0 b5_1 o6 o7 o8 z72 else none else none) (Option.bind (Z8 k (o2, b1_1, b1_2) (↑(List.length o8) : Int)) fun z73 => if (0 : Int) ≤ Prod.fst z73 then if Prod.fst z73 < (↑(List.length o8) : Int) then ZnS k o2 b3_0 b3_1 o4 b5_0 b5_1 o6 o7 o8 z73 else none else none) := by kernel_rfl
theorem ZG2 : Zy6 k b1_1 b1_2 o2 b3_0 b3_1 o4 b5_0 b5_1 o6 o7 o8 = repl 23 (ZI k b1_1 b1_2 o2 b3_0 b3_1 o4 b5_0 b5_1 o6 o7 o8) := by
 rw [ZJo]
 simp only [ZzV, Zu6, Zz, Zv, ZI, Z5, Z6, Z2, Z3, Z4, Z1, if_true]
noncomputable def ZDa : Option (List Z1o) := execT Z0.G (stepOp Z0.T Z0.G Z0.mvs k) Zc 10 #[true, true, true, true, false, false, false, true, true, true, true, false, false, false, false, false, false, false] ⟨sets (Z1B o8) [(85, Z2W o8)], [Ob.ro, ZeI b1_1 b1_2, Z16 o2, Z17 b3_0 b3_1, Z1b o4, Z1a b5_0 b5_1, Z13 o6, Z15 o7, Z18 o8]⟩ (outK Z0 Z9)
theorem ZJn : ZDa k b1_1 b1_2 o2 b3_0 b3_1 o4 b5_0 b5_1 o6 o7 o8 = joinL (Option.bind (Z8 k (o2, b1_1, b1_2) (↑(List.length o8) : Int)) fun z67 => if (0 : Int) ≤ Prod.fst z67 then if Prod.fst z67 < (↑(List.length o8) : Int) then ZxE k o2 b3_0 b3_1 o4 b5_0 b5_1 o6 o7 o8 z67 else none else none) (joinL (Zxu k b1_1 b1_2 o2 b3_0 b3_1 o4 b5_0 b5_1 o6 o7 o8) (Zy6 k b1_1 b1_2 o2 b3_0 b3_1 o4 b5_0 b5_1 o6 o7 o8)) := by kernel_rfl
theorem ZKe : ZDa k b1_1 b1_2 o2 b3_0 b3_1 o4 b5_0 b5_1 o6 o7 o8 = repl 130 (ZI k b1_1 b1_2 o2 b3_0 b3_1 o4 b5_0 b5_1 o6 o7 o8) := by
 rw [ZJn]
 simp only [ZFD, ZGa, ZG2, Zz, Zv, ZI, Z5, Z6, Z2, Z3, Z4, Z1, if_true]
noncomputable def ZE3 : Option (List Z1o) := execT Z0.G (stepOp Z0.T Z0.G Z0.mvs k) Zc 9 #[true, true, true, true, false, false, false, true, true, true, false, false, false, false, true, true, false, false] ⟨sets (Z1B o8) [(10, P0 9), (11, P0 10)], [Ob.ro, ZeI b1_1 b1_2, Z16 o2, Z17 b3_0 b3_1, Z1b o4, Z1a b5_0 b5_1, Z13 o6, Z15 o7, Z18 o8, Z19, Z19]⟩ (outK Z0 Z9)
theorem ZK2 : ZE3 k b1_1 b1_2 o2 b3_0 b3_1 o4 b5_0 b5_1 o6 o7 o8 = joinL (Option.bind (Z8 k (o2, b1_1, b1_2) (↑(List.length o8) : Int)) fun z79 => if (0 : Int) ≤ Prod.fst z79 then if Prod.fst z79 < (↑(List.length o8) : Int) then Zy8 k o2 b3_0 b3_1 o4 b5_0 b5_1 o6 o7 o8 z79 else none else none) (Option.bind (Z8 k (o2, b1_1, b1_2) (↑(List.length o8) : Int)) fun z80 => if (0 : Int) ≤ Prod.fst z80 then if Prod.fst z80 < (↑(List.length o8) : Int) then ZnV k o2 b3_0 b3_1 o4 b5_0 b5_1 o6 o7 o8 z80 else none else none) := by kernel_rfl
theorem ZJV : ZE3 k b1_1 b1_2 o2 b3_0 b3_1 o4 b5_0 b5_1 o6 o7 o8 = repl 12 (ZI k b1_1 b1_2 o2 b3_0 b3_1 o4 b5_0 b5_1 o6 o7 o8) := by
 rw [ZK2]
 simp only [ZFM, Zu9, Zz, Zv, ZI, Z5, Z6, Z2, Z3, Z4, Z1, if_true]
noncomputable def ZEt : Option (List Z1o) := execT Z0.G (stepOp Z0.T Z0.G Z0.mvs k) Zc 10 #[true, true, true, true, false, false, false, true, true, true, false, false, false, false, true, false, false, false] ⟨sets (Z1B o8) [(10, P0 9)], [Ob.ro, ZeI b1_1 b1_2, Z16 o2, Z17 b3_0 b3_1, Z1b o4, Z1a b5_0 b5_1, Z13 o6, Z15 o7, Z18 o8, Z19]⟩ (outK Z0 Z9)
theorem ZKX : ZEt k b1_1 b1_2 o2 b3_0 b3_1 o4 b5_0 b5_1 o6 o7 o8 = joinL (Option.bind (Z8 k (o2, b1_1, b1_2) (↑(List.length o8) : Int)) fun z78 => if (0 : Int) ≤ Prod.fst z78 then if Prod.fst z78 < (↑(List.length o8) : Int) then Zze k o2 b3_0 b3_1 o4 b5_0 b5_1 o6 o7 o8 z78 else none else none) (joinL (Zxu k b1_1 b1_2 o2 b3_0 b3_1 o4 b5_0 b5_1 o6 o7 o8) (ZE3 k b1_1 b1_2 o2 b3_0 b3_1 o4 b5_0 b5_1 o6 o7 o8)) := by kernel_rfl
theorem ZKs : ZEt k b1_1 b1_2 o2 b3_0 b3_1 o4 b5_0 b5_1 o6 o7 o8 = repl 67 (ZI k b1_1 b1_2 o2 b3_0 b3_1 o4 b5_0 b5_1 o6 o7 o8) := by
 rw [ZKX]
 simp only [ZFS, ZGa, ZJV, Zz, Zv, ZI, Z5, Z6, Z2, Z3, Z4, Z1, if_true]
noncomputable def ZES : Option (List Z1o) := execT Z0.G (stepOp Z0.T Z0.G Z0.mvs k) Zc 9 #[true, true, true, true, false, false, false, true, true, true, false, false, false, false, true, true, false, false] ⟨sets (Z1B o8) [(10, P0 10), (11, P0 9)], [Ob.ro, ZeI b1_1 b1_2, Z16 o2, Z17 b3_0 b3_1, Z1b o4, Z1a b5_0 b5_1, Z13 o6, Z15 o7, Z18 o8, Z19, Z19]⟩ (outK Z0 Z9)
theorem ZK1 : ZES k b1_1 b1_2 o2 b3_0 b3_1 o4 b5_0 b5_1 o6 o7 o8 = joinL (Option.bind (Z8 k (o2, b1_1, b1_2) (↑(List.length o8) : Int)) fun z86 => if (0 : Int) ≤ Prod.fst z86 then if Prod.fst z86 < (↑(List.length o8) : Int) then Zyh k o2 b3_0 b3_1 o4 b5_0 b5_1 o6 o7 o8 z86 else none else none) (Option.bind (Z8 k (o2, b1_1, b1_2) (↑(List.length o8) : Int)) fun z87 => if (0 : Int) ≤ Prod.fst z87 then if Prod.fst z87 < (↑(List.length o8) : Int) then ZnS k o2 b3_0 b3_1 o4 b5_0 b5_1 o6 o7 o8 z87 else none else none) := by kernel_rfl
theorem ZJx : ZES k b1_1 b1_2 o2 b3_0 b3_1 o4 b5_0 b5_1 o6 o7 o8 = repl 12 (ZI k b1_1 b1_2 o2 b3_0 b3_1 o4 b5_0 b5_1 o6 o7 o8) := by
 rw [ZK1]
 simp only [ZFK, Zu6, Zz, Zv, ZI, Z5, Z6, Z2, Z3, Z4, Z1, if_true]
noncomputable def ZEf : Option (List Z1o) := execT Z0.G (stepOp Z0.T Z0.G Z0.mvs k) Zc 10 #[true, true, true, true, false, false, false, true, true, true, false, false, false, false, false, true, false, false] ⟨sets (Z1B o8) [(11, P0 9)], [Ob.ro, ZeI b1_1 b1_2, Z16 o2, Z17 b3_0 b3_1, Z1b o4, Z1a b5_0 b5_1, Z13 o6, Z15 o7, Z18 o8, Z19]⟩ (outK Z0 Z9)
theorem ZKj : ZEf k b1_1 b1_2 o2 b3_0 b3_1 o4 b5_0 b5_1 o6 o7 o8 = joinL (Option.bind (Z8 k (o2, b1_1, b1_2) (↑(List.length o8) : Int)) fun z85 => if (0 : Int) ≤ Prod.fst z85 then if Prod.fst z85 < (↑(List.length o8) : Int) then Zz5 k o2 b3_0 b3_1 o4 b5_0 b5_1 o6 o7 o8 z85 else none else none) (joinL (Zy6 k b1_1 b1_2 o2 b3_0 b3_1 o4 b5_0 b5_1 o6 o7 o8) (ZES k b1_1 b1_2 o2 b3_0 b3_1 o4 b5_0 b5_1 o6 o7 o8)) := by kernel_rfl
theorem ZJa : ZEf k b1_1 b1_2 o2 b3_0 b3_1 o4 b5_0 b5_1 o6 o7 o8 = repl 67 (ZI k b1_1 b1_2 o2 b3_0 b3_1 o4 b5_0 b5_1 o6 o7 o8) := by
 rw [ZKj]
 simp only [ZG0, ZG2, ZJx, Zz, Zv, ZI, Z5, Z6, Z2, Z3, Z4, Z1, if_true]
noncomputable def ZDn : Option (List Z1o) := execT Z0.G (stepOp Z0.T Z0.G Z0.mvs k) Zc 11 #[true, true, true, true, false, false, false, true, true, true, false, false, false, false, false, false, false, false] ⟨sets (Z1B o8) [], [Ob.ro, ZeI b1_1 b1_2, Z16 o2, Z17 b3_0 b3_1, Z1b o4, Z1a b5_0 b5_1, Z13 o6, Z15 o7, Z18 o8]⟩ (outK Z0 Z9)
theorem ZLm : ZDn k b1_1 b1_2 o2 b3_0 b3_1 o4 b5_0 b5_1 o6 o7 o8 = joinL (Option.bind (Z8 k (o2, b1_1, b1_2) (↑(List.length o8) : Int)) fun z34 => if (0 : Int) ≤ Prod.fst z34 then if Prod.fst z34 < (↑(List.length o8) : Int) then ZDw k o2 b3_0 b3_1 o4 b5_0 b5_1 o6 o7 o8 z34 else none else none) (joinL (ZDa k b1_1 b1_2 o2 b3_0 b3_1 o4 b5_0 b5_1 o6 o7 o8) (joinL (ZEt k b1_1 b1_2 o2 b3_0 b3_1 o4 b5_0 b5_1 o6 o7 o8) (ZEf k b1_1 b1_2 o2 b3_0 b3_1 o4 b5_0 b5_1 o6 o7 o8))) := by kernel_rfl
theorem ZKn : ZDn k b1_1 b1_2 o2 b3_0 b3_1 o4 b5_0 b5_1 o6 o7 o8 = repl 444 (ZI k b1_1 b1_2 o2 b3_0 b3_1 o4 b5_0 b5_1 o6 o7 o8) := by
 rw [ZLm]
 simp only [ZLB, ZKe, ZKs, ZJa, Zz, Zv, ZI, Z5, Z6, Z2, Z3, Z4, Z1, if_true]
end
theorem ZjA (k : Nat) (x : ZcM.D) : execD Z0.T Z0.G Z0.mvs k Zc (Z9.inp.st Z0.n x) (outK Z0 Z9) = ZDn k x.1.2.1.2.1 x.1.2.1.2.2.1 x.1.2.2.1 x.1.2.2.2.1.1 x.1.2.2.2.1.2.1 x.1.2.2.2.2.1 x.1.2.2.2.2.2.1.1 x.1.2.2.2.2.2.1.2.1 x.1.2.2.2.2.2.2.1 x.1.2.2.2.2.2.2.2.1 x.1.2.2.2.2.2.2.2.2.1 := by kernel_rfl
theorem Zj6 (k : Nat) : EOK Tryz.prog Z0 k Z9.E (.region 22 Zc true) := ZcX (D := Z9) (m := 444) T_ok (Z2h k) (fun x => (ZjA k x).trans (ZKn k x.1.2.1.2.1 x.1.2.1.2.2.1 x.1.2.2.1 x.1.2.2.2.1.1 x.1.2.2.2.1.2.1 x.1.2.2.2.2.1 x.1.2.2.2.2.2.1.1 x.1.2.2.2.2.2.1.2.1 x.1.2.2.2.2.2.2.1 x.1.2.2.2.2.2.2.2.1 x.1.2.2.2.2.2.2.2.2.1))
noncomputable def Z5w : Code := ((findCond 25 ZV).map (·.1)).getD .skip
noncomputable def Z5y : Code := ((findCond 25 ZV).map (·.2)).getD .skip
theorem Zkn (k : Nat) (i : ZF.inp.D) : ZF.lp k i = branch (ZF.inp.st Z0.n i) (.tmp 25) (fun st => exec Z0 k Z5w st (outK Z0 ZF) (fun _ _ => none) ZF.mkB) (fun st => exec Z0 k Z5y st (outK Z0 ZF) (fun _ _ => none) ZF.mkB) := by kernel_rfl
theorem Zjt (k : Nat) : EOK Tryz.prog Z0 k ZF.E (.cond (.tmp 25) Z5w Z5y) := ZzW (D := ZF) T_ok (Z2h k) (Zkn k) (@LOK.by _ _ _ _ Z5w [] (by kernel_rfl) AllOK.nil) (@LOK.by _ _ _ _ Z5y [] (by kernel_rfl) AllOK.nil)
noncomputable def Z5g : Code := ((findCond 44 ZV).map (·.1)).getD .skip
noncomputable def Z5r : Code := ((findCond 44 ZV).map (·.2)).getD .skip
theorem ZjK (k : Nat) (i : ZE.inp.D) : ZE.lp k i = branch (ZE.inp.st Z0.n i) (.tmp 44) (fun st => exec Z0 k Z5g st (outK Z0 ZE) (fun _ _ => none) ZE.mkB) (fun st => exec Z0 k Z5r st (outK Z0 ZE) (fun _ _ => none) ZE.mkB) := by kernel_rfl
theorem Zj1 (k : Nat) : EOK Tryz.prog Z0 k ZE.E (.cond (.tmp 44) Z5g Z5r) := ZzW (D := ZE) T_ok (Z2h k) (ZjK k) (@LOK.by _ _ _ _ Z5g [] (by kernel_rfl) AllOK.nil) (@LOK.by _ _ _ _ Z5r [] (by kernel_rfl) AllOK.nil)
noncomputable def Z6O : Code := (findLoop 1 ZV).getD .skip
theorem ZmD (k : Nat) (x : Z9Z.D) : Z35.lp (k + 1) x = loopK Z0 Z35 1 Z6O k x := by kernel_rfl
theorem Zmi (k : Nat) : LOK Tryz.prog Z0 k Z6O := LOK.by [] (by kernel_rfl) AllOK.nil
theorem ZmE (x : Z9Z.D) : Z35.lp 0 x = none := by kernel_rfl
theorem ZkW (k : Nat) : EOK Tryz.prog Z0 k Z35.E (.block 1 (.loop Z6O)) := Zr T_ok Z2h ZmE ZmD Zmi k
noncomputable def Z5n : Code := (findCut 40 ZV).getD .skip
theorem ZkC (k : Nat) (i : Z10.inp.D) : Z10.lp k i = exec Z0 k Z5n (Z10.inp.st Z0.n i) (outK Z0 Z10) (fun _ _ => none) Z10.mkB := by kernel_rfl
theorem Zj7 (k : Nat) : EOK Tryz.prog Z0 k Z10.E Z5n := Zfy (D := Z10) T_ok (Z2h k) (ZkC k) (@LOK.by _ _ _ _ Z5n [] (by kernel_rfl) AllOK.nil)
noncomputable def Z5j : Code := (findCut 27 ZV).getD .skip
theorem ZjP (k : Nat) (i : ZZ.inp.D) : ZZ.lp k i = exec Z0 k Z5j (ZZ.inp.st Z0.n i) (outK Z0 ZZ) (fun _ _ => none) ZZ.mkB := by kernel_rfl
theorem ZiX (k : Nat) : EOK Tryz.prog Z0 k ZZ.E Z5j := Zfy (D := ZZ) T_ok (Z2h k) (ZjP k) (@LOK.by _ _ _ _ Z5j [(Z10.E, Z5n)] (by kernel_rfl) (AllOK.cons (Zj7 k) AllOK.nil))
noncomputable def Z5o : Code := (findCut 15 ZV).getD .skip
theorem Zkj (k : Nat) (i : ZY.inp.D) : ZY.lp k i = exec Z0 k Z5o (ZY.inp.st Z0.n i) (outK Z0 ZY) (fun _ _ => none) ZY.mkB := by kernel_rfl
theorem ZiY (k : Nat) : EOK Tryz.prog Z0 k ZY.E Z5o := Zfy (D := ZY) T_ok (Z2h k) (Zkj k) (@LOK.by _ _ _ _ Z5o [(Z9.E, .region 22 Zc true), (ZZ.E, Z5j)] (by kernel_rfl) (AllOK.cons (Zj6 k) (AllOK.cons (ZiX k) AllOK.nil)))
theorem ZrD (k : Nat) (x : Tup Z1J.ps) : Z1J.f (k + 1) x = fnK Z1J Z0 ZV k x := by kernel_rfl
theorem Zro (x : Tup Z1J.ps) : Z1J.f 0 x = none := by kernel_rfl
theorem Zs1 (k : Nat) : LOK Tryz.prog Z0 k ZV := LOK.by [(ZF.E, .cond (.tmp 25) Z5w Z5y), (ZE.E, .cond (.tmp 44) Z5g Z5r), (Z35.E, .block 1 (.loop Z6O)), (ZY.E, Z5o)] (by kernel_rfl) (AllOK.cons (Zjt k) (AllOK.cons (Zj1 k) (AllOK.cons (ZkW k) (AllOK.cons (ZiY k) AllOK.nil))))
theorem Zgu (k : Nat) : SoundAt Tryz.prog k 57 Z1J.E := @Zk Tryz.prog Z1J Z0 57 Tryz.f57 ZV (by kernel_rfl) (by kernel_rfl) (by kernel_rfl) Tryz.func57 (by kernel_rfl) (by kernel_rfl) (by kernel_rfl) T_ok Z2h Zs1 Zro ZrD k
end
end Go.Proofs.YtglkedenkcpcbaaGreatDoor.Vs
