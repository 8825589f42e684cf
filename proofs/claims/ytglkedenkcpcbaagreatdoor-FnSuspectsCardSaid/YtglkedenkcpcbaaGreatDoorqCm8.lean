/- The proof, part 9. -/
import Derived.Test.YtglkedenkcpcbaaGreatDoorqCm7
set_option maxRecDepth 100000
set_option maxHeartbeats 2000000
set_option linter.unusedVariables false
set_option linter.unusedSimpArgs false
namespace Go.Proofs.YtglkedenkcpcbaaGreatDoor.Vs
open Go.RowKit
noncomputable section
noncomputable def Z4s : List PK := [PK.mk (Ty.slice (42 : Nat) (Ty.pair (Ty.int .i64) (Ty.pair (Ty.int .i64) (Ty.int .i64)))) false none false none]
noncomputable def Zgg : List PK := [PK.mk (Ty.pair (Ty.int .i64) (Ty.pair (Ty.int .i64) (Ty.slice (122 : Nat) (Ty.pair (Ty.int .i64) (Ty.int .i64))))) true none false none, PK.mk (Ty.slice (3 : Nat) (Ty.int .i64)) false none false none, PK.mk (Ty.slice (67 : Nat) (Ty.pair (Ty.int .i64) (Ty.pair (Ty.int .i64) (Ty.int .i64)))) false none false none]
noncomputable def ZfX (r : List (Int × Int × Int)) : Tup Z4s × OutD := ((r, ()), none)
noncomputable def ZfL : Tup Z4s × OutD → Option (List (Int × Int × Int))
 | (a, none) => some (a.1)
 | _ => none
theorem ZkX : ∀ b r, ZfL b = some r → ZfX r = b := by
 rintro ⟨a, o⟩ r h
 cases o with
 | none => injection h with h; subst h; rfl
 | some _ => cases h
noncomputable def Z2w : Nat → Int → Int → List (Int × Int) → List (Int × Int × Int) → List (Int × Int × Int) → List Int → List (Int × Int × Int) → Int → Int → Option (List (Int × Int × Int))
 | 0, _, _, _, _, _, _, _, _, _ => none
 | k + 1, b1_0, b1_1, b1_2, o2, o3, v1, v2, v13, v14 =>
  if decide (v14 < v13) = true then if (0 : Int) ≤ v14 then if v14 < (↑(List.length o3) : Int) then Option.bind (Z91 k (b1_0, b1_1, b1_2) [(Prod.fst (List.getD o3 (Int.toNat v14) ((0 : Int), (0 : Int), (0 : Int))), Prod.fst (Prod.snd (List.getD o3 (Int.toNat v14) ((0 : Int), (0 : Int), (0 : Int)))), Prod.snd (Prod.snd (List.getD o3 (Int.toNat v14) ((0 : Int), (0 : Int), (0 : Int)))))] v1 v2) fun z1 => if z1 = true then if List.length o2 + List.length [(Prod.fst (List.getD o3 (Int.toNat v14) ((0 : Int), (0 : Int), (0 : Int))), Prod.fst (Prod.snd (List.getD o3 (Int.toNat v14) ((0 : Int), (0 : Int), (0 : Int)))), Prod.snd (Prod.snd (List.getD o3 (Int.toNat v14) ((0 : Int), (0 : Int), (0 : Int)))))] ≤ (140737488355328 / 24 : Nat) then Z2w k b1_0 b1_1 b1_2 (o2 ++ [(Prod.fst (List.getD o3 (Int.toNat v14) ((0 : Int), (0 : Int), (0 : Int))), Prod.fst (Prod.snd (List.getD o3 (Int.toNat v14) ((0 : Int), (0 : Int), (0 : Int)))), Prod.snd (Prod.snd (List.getD o3 (Int.toNat v14) ((0 : Int), (0 : Int), (0 : Int)))))]) o3 v1 v2 v13 (wrap64 (v14 + (1 : Int))) else none else Z2w k b1_0 b1_1 b1_2 o2 o3 v1 v2 v13 (wrap64 (v14 + (1 : Int))) else none else none else some o2
noncomputable def Z9Y : Spec := Spec.mk [OSh.ro, OSh.box (26 : Nat) [Sh.int .i64, Sh.int .i64, Sh.snap (0 : Nat) (Ty.pair (Ty.int .i64) (Ty.int .i64))], OSh.row true (42 : Nat) (Ty.pair (Ty.int .i64) (Ty.pair (Ty.int .i64) (Ty.int .i64))), OSh.row true (42 : Nat) (Ty.pair (Ty.int .i64) (Ty.pair (Ty.int .i64) (Ty.int .i64)))] [((1 : Nat), TSh.at (Sh.snap (0 : Nat) (Ty.int .i64))), ((2 : Nat), TSh.at (Sh.snap (0 : Nat) (Ty.pair (Ty.int .i64) (Ty.pair (Ty.int .i64) (Ty.int .i64))))), ((3 : Nat), TSh.at (Sh.ptr (1 : Nat) (0 : Nat))), ((7 : Nat), TSh.at (Sh.sl (2 : Nat))), ((12 : Nat), TSh.at (Sh.sl (3 : Nat))), ((13 : Nat), TSh.at (Sh.int .i64)), ((14 : Nat), TSh.at (Sh.int .i64))]
noncomputable def ZmY : Spec := Spec.mk [OSh.ro, OSh.row true (42 : Nat) (Ty.pair (Ty.int .i64) (Ty.pair (Ty.int .i64) (Ty.int .i64)))] [((7 : Nat), TSh.at (Sh.sl (1 : Nat)))]
noncomputable def Z34 : LoopDef (Tup Z4s × OutD) := .plain Z9Y ZmY (List (Int × Int × Int)) (fun k x => Z2w k x.1.2.1.1 x.1.2.1.2.1 x.1.2.1.2.2.1 x.1.2.2.1 x.1.2.2.2.1 x.2.1 x.2.2.1 x.2.2.2.2.2.2.1 x.2.2.2.2.2.2.2.1) (fun z => (((), z, ()), ((), ()))) (fun y => (y.1.2.1)) (fun _ => rfl)
noncomputable def Z1G : Nat → Int × Int × List (Int × Int) → List Int → List (Int × Int × Int) → Option (List (Int × Int × Int))
 | 0, _, _, _ => none
 | k + 1, p0, p1, p2 =>
  Option.bind (Z7n k (Prod.fst p0, Prod.fst p0.2, Prod.snd p0.2)) fun z0 => Option.bind (Z2w k p0.1 p0.2.1 p0.2.2 [] z0 p1 p2 (↑(List.length z0) : Int) (0 : Int)) fun z2 => some z2
noncomputable def ZM : FnDef := .of Zgg Z4s (List (Int × Int × Int)) (fun k x => Z1G k x.1 x.2.1 x.2.2.1) ZfX ZfL ZkX
noncomputable def Z8V : Code := Tryz.f47.body.getD .skip
noncomputable def Z3m : Ctx (Tup Z4s × OutD) := { T := T, G := [(63, Z1O.E), (87, Z2k.E)], mvs := [], no := 0, n := 30, res := resOf T Zgg Z4s Tryz.f47.results.toList, loops := [(0, Z34.E)], regs := [], conds := [], cuts := [] }
theorem Zgp (k : Nat) : EnvOK Tryz.prog k Z3m.G := (EnvOK.cons (Zoe k) (EnvOK.cons (ZrW k) (EnvOK.nil mixed)))
noncomputable def Z6E : Code := (findLoop 0 Z8V).getD .skip
theorem Zna (k : Nat) (x : Z9Y.D) : Z34.lp (k + 1) x = loopK Z3m Z34 0 Z6E k x := by kernel_rfl
theorem Znb (k : Nat) : LOK Tryz.prog Z3m k Z6E := LOK.by [] (by kernel_rfl) AllOK.nil
theorem Zn3 (x : Z9Y.D) : Z34.lp 0 x = none := by kernel_rfl
theorem Zli (k : Nat) : EOK Tryz.prog Z3m k Z34.E (.block 0 (.loop Z6E)) := Zr T_ok Zgp Zn3 Zna Znb k
theorem ZqX (k : Nat) (x : Tup ZM.ps) : ZM.f (k + 1) x = fnK ZM Z3m Z8V k x := by kernel_rfl
theorem Zsn (x : Tup ZM.ps) : ZM.f 0 x = none := by kernel_rfl
theorem ZrQ (k : Nat) : LOK Tryz.prog Z3m k Z8V := LOK.by [(Z34.E, .block 0 (.loop Z6E))] (by kernel_rfl) (AllOK.cons (Zli k) AllOK.nil)
theorem Z4u (k : Nat) : SoundAt Tryz.prog k 47 ZM.E := @Zk Tryz.prog ZM Z3m 47 Tryz.f47 Z8V (by kernel_rfl) (by kernel_rfl) (by kernel_rfl) Tryz.func47 (by kernel_rfl) (by kernel_rfl) (by kernel_rfl) T_ok Zgp ZrQ Zsn ZqX k
noncomputable def Z7d : List PK := [PK.mk (Ty.slice (42 : Nat) (Ty.pair (Ty.int .i64) (Ty.pair (Ty.int .i64) (Ty.int .i64)))) false none false none]
noncomputable def ZlV : List PK := [PK.mk (Ty.pair (Ty.int .i64) (Ty.pair (Ty.int .i64) (Ty.slice (122 : Nat) (Ty.pair (Ty.int .i64) (Ty.int .i64))))) true none false none, PK.mk (Ty.slice (3 : Nat) (Ty.int .i64)) false none false none, PK.mk (Ty.slice (67 : Nat) (Ty.pair (Ty.int .i64) (Ty.pair (Ty.int .i64) (Ty.int .i64)))) false none false none]
noncomputable def ZjZ (r : List (Int × Int × Int)) : Tup Z7d × OutD := ((r, ()), none)
noncomputable def ZjY : Tup Z7d × OutD → Option (List (Int × Int × Int))
 | (a, none) => some (a.1)
 | _ => none
theorem Zsb : ∀ b r, ZjY b = some r → ZjZ r = b := by
 rintro ⟨a, o⟩ r h
 cases o with
 | none => injection h with h; subst h; rfl
 | some _ => cases h
noncomputable def Z48 : Nat → Int → Int → List (Int × Int) → List (Int × Int × Int) → List (Int × Int × Int) → List Int → List (Int × Int × Int) → Int → Int → Option (List (Int × Int × Int))
 | 0, _, _, _, _, _, _, _, _, _ => none
 | k + 1, b1_0, b1_1, b1_2, o2, o3, v1, v2, v12, v13 =>
  if decide (v13 < v12) = true then if (0 : Int) ≤ v13 then if v13 < (↑(List.length o3) : Int) then Option.bind (Zap k (b1_0, b1_1, b1_2) [(Prod.fst (List.getD o3 (Int.toNat v13) ((0 : Int), (0 : Int), (0 : Int))), Prod.fst (Prod.snd (List.getD o3 (Int.toNat v13) ((0 : Int), (0 : Int), (0 : Int)))), Prod.snd (Prod.snd (List.getD o3 (Int.toNat v13) ((0 : Int), (0 : Int), (0 : Int)))))] v1 v2) fun z1 => if z1 = true then if List.length o2 + List.length [(Prod.fst (List.getD o3 (Int.toNat v13) ((0 : Int), (0 : Int), (0 : Int))), Prod.fst (Prod.snd (List.getD o3 (Int.toNat v13) ((0 : Int), (0 : Int), (0 : Int)))), Prod.snd (Prod.snd (List.getD o3 (Int.toNat v13) ((0 : Int), (0 : Int), (0 : Int)))))] ≤ (140737488355328 / 24 : Nat) then Z48 k b1_0 b1_1 b1_2 (o2 ++ [(Prod.fst (List.getD o3 (Int.toNat v13) ((0 : Int), (0 : Int), (0 : Int))), Prod.fst (Prod.snd (List.getD o3 (Int.toNat v13) ((0 : Int), (0 : Int), (0 : Int)))), Prod.snd (Prod.snd (List.getD o3 (Int.toNat v13) ((0 : Int), (0 : Int), (0 : Int)))))]) o3 v1 v2 v12 (wrap64 (v13 + (1 : Int))) else none else Z48 k b1_0 b1_1 b1_2 o2 o3 v1 v2 v12 (wrap64 (v13 + (1 : Int))) else none else none else some o2
noncomputable def ZcB : Spec := Spec.mk [OSh.ro, OSh.box (26 : Nat) [Sh.int .i64, Sh.int .i64, Sh.snap (0 : Nat) (Ty.pair (Ty.int .i64) (Ty.int .i64))], OSh.row true (42 : Nat) (Ty.pair (Ty.int .i64) (Ty.pair (Ty.int .i64) (Ty.int .i64))), OSh.row true (42 : Nat) (Ty.pair (Ty.int .i64) (Ty.pair (Ty.int .i64) (Ty.int .i64)))] [((1 : Nat), TSh.at (Sh.snap (0 : Nat) (Ty.int .i64))), ((2 : Nat), TSh.at (Sh.snap (0 : Nat) (Ty.pair (Ty.int .i64) (Ty.pair (Ty.int .i64) (Ty.int .i64))))), ((3 : Nat), TSh.at (Sh.ptr (1 : Nat) (0 : Nat))), ((7 : Nat), TSh.at (Sh.sl (2 : Nat))), ((11 : Nat), TSh.at (Sh.sl (3 : Nat))), ((12 : Nat), TSh.at (Sh.int .i64)), ((13 : Nat), TSh.at (Sh.int .i64))]
noncomputable def Zu1 : Spec := Spec.mk [OSh.ro, OSh.row true (42 : Nat) (Ty.pair (Ty.int .i64) (Ty.pair (Ty.int .i64) (Ty.int .i64)))] [((7 : Nat), TSh.at (Sh.sl (1 : Nat)))]
noncomputable def Z53 : LoopDef (Tup Z7d × OutD) := .plain ZcB Zu1 (List (Int × Int × Int)) (fun k x => Z48 k x.1.2.1.1 x.1.2.1.2.1 x.1.2.1.2.2.1 x.1.2.2.1 x.1.2.2.2.1 x.2.1 x.2.2.1 x.2.2.2.2.2.2.1 x.2.2.2.2.2.2.2.1) (fun z => (((), z, ()), ((), ()))) (fun y => (y.1.2.1)) (fun _ => rfl)
noncomputable def Z4n : Nat → Int × Int × List (Int × Int) → List Int → List (Int × Int × Int) → Option (List (Int × Int × Int))
 | 0, _, _, _ => none
 | k + 1, p0, p1, p2 =>
  Option.bind (Z7I k (Prod.fst p0, Prod.fst p0.2, Prod.snd p0.2)) fun z0 => Option.bind (Z48 k p0.1 p0.2.1 p0.2.2 [] z0 p1 p2 (↑(List.length z0) : Int) (0 : Int)) fun z2 => some z2
noncomputable def Z1C : FnDef := .of ZlV Z7d (List (Int × Int × Int)) (fun k x => Z4n k x.1 x.2.1 x.2.2.1) ZjZ ZjY Zsb
noncomputable def Zcg : Code := Tryz.f50.body.getD .skip
noncomputable def Z5k : Ctx (Tup Z7d × OutD) := { T := T, G := [(67, Z2o.E), (91, Z3a.E)], mvs := [], no := 0, n := 29, res := resOf T ZlV Z7d Tryz.f50.results.toList, loops := [(0, Z53.E)], regs := [], conds := [], cuts := [] }
theorem ZlA (k : Nat) : EnvOK Tryz.prog k Z5k.G := (EnvOK.cons (Zik k) (EnvOK.cons (Zvz k) (EnvOK.nil mixed)))
noncomputable def Z9P : Code := (findLoop 0 Zcg).getD .skip
theorem ZtV (k : Nat) (x : ZcB.D) : Z53.lp (k + 1) x = loopK Z5k Z53 0 Z9P k x := by kernel_rfl
theorem ZsB (k : Nat) : LOK Tryz.prog Z5k k Z9P := LOK.by [] (by kernel_rfl) AllOK.nil
theorem ZtM (x : ZcB.D) : Z53.lp 0 x = none := by kernel_rfl
theorem Zs3 (k : Nat) : EOK Tryz.prog Z5k k Z53.E (.block 0 (.loop Z9P)) := Zr T_ok ZlA ZtM ZtV ZsB k
theorem Zy1 (k : Nat) (x : Tup Z1C.ps) : Z1C.f (k + 1) x = fnK Z1C Z5k Zcg k x := by kernel_rfl
theorem Zxs (x : Tup Z1C.ps) : Z1C.f 0 x = none := by kernel_rfl
theorem ZyB (k : Nat) : LOK Tryz.prog Z5k k Zcg := LOK.by [(Z53.E, .block 0 (.loop Z9P))] (by kernel_rfl) (AllOK.cons (Zs3 k) AllOK.nil)
theorem Z9t (k : Nat) : SoundAt Tryz.prog k 50 Z1C.E := @Zk Tryz.prog Z1C Z5k 50 Tryz.f50 Zcg (by kernel_rfl) (by kernel_rfl) (by kernel_rfl) Tryz.func50 (by kernel_rfl) (by kernel_rfl) (by kernel_rfl) T_ok ZlA ZyB Zxs Zy1 k
noncomputable def Z3B : List PK := [PK.mk (Ty.pair (Ty.int .i64) (Ty.pair (Ty.int .i64) (Ty.slice (122 : Nat) (Ty.pair (Ty.int .i64) (Ty.int .i64))))) true none false none]
noncomputable def ZeQ : List PK := [PK.mk (Ty.pair (Ty.slice (5 : Nat) (Ty.int .u8)) (Ty.pair (Ty.int .i64) (Ty.int .u64))) false none false (some (82 : Nat))]
noncomputable def ZdT (r : (Int × Int × List (Int × Int)) × Int × Int) : Tup Z3B × OutD := ((r.1, ()), some ⟨Ty.pair (Ty.slice (5 : Nat) (Ty.int .u8)) (Ty.pair (Ty.int .i64) (Ty.int .u64)), [([], r.2)]⟩)
noncomputable def Z9X : Tup Z3B × OutD → Option ((Int × Int × List (Int × Int)) × Int × Int)
 | (a, some ⟨u, ys⟩) => if h : u = Ty.pair (Ty.slice (5 : Nat) (Ty.int .u8)) (Ty.pair (Ty.int .i64) (Ty.int .u64)) then (match castU h ys with
  | [([], y)] => some (a.1, y)
  | _ => none) else none
 | _ => none
theorem Zjn : ∀ b r, Z9X b = some r → ZdT r = b := by
 rintro ⟨a, o⟩ r h
 cases o with
 | none => cases h
 | some s =>
  obtain ⟨u, ys⟩ := s
  simp only [Z9X] at h
  split at h
  ·rename_i hu
   subst hu
   match ys, h with
   | [], h => cases (show (none : Option _) = some r from h)
   | [([], y)], h => injection (show some _ = some r from h) with h; subst h; rfl
   | [(_ :: _, y)], h => cases (show (none : Option _) = some r from h)
   | (h1, _) :: _ :: _, h => cases h1 <;> cases (show (none : Option _) = some r from h)
  ·cases h
noncomputable def Z1E : Nat → Int → Int → List Int → Int → Int → List (Int × Int) → Int → Int → List (Int × Int) → Option (Int × Int × List Int × Int × Int × List (Int × Int) × Int × Int × List (Int × Int)) := fun k b1_1 b1_2 o2 b3_0 b3_1 o4 b5_0 b5_1 o6 =>
    Option.bind (Z8 k (o2, b1_1, b1_2) (↑(List.length o6) : Int)) fun z4 => Option.bind (Z1v k (o2, Prod.fst z4.2, Prod.snd z4.2)) fun z5 => if (0 : Int) ≤ Prod.fst z4 then if Prod.fst z4 < (↑(List.length o6) : Int) then some (Prod.fst z5.2, Prod.snd z5.2, o2, b3_0, b3_1, o4, b5_0, b5_1, List.set o6 (Int.toNat z4.1) (Prod.fst z5.1, Prod.snd z5.1)) else none else none
noncomputable def Z5c : Nat → Int → Int → List Int → Int → Int → List (Int × Int) → Int → Int → List (Int × Int) → Option (List (Int × Int × List Int × Int × Int × List (Int × Int) × Int × Int × List (Int × Int))) := fun k b1_1 b1_2 o2 b3_0 b3_1 o4 b5_0 b5_1 o6 =>
    joinL (Option.bind (Z8 k (o2, b1_1, b1_2) (↑(List.length o6) : Int)) fun z6 => Option.bind (Z1v k (o2, Prod.fst z6.2, Prod.snd z6.2)) fun z7 => if (0 : Int) ≤ Prod.fst z6 then if Prod.fst z6 < (↑(List.length o6) : Int) then some [(Prod.fst z7.2, Prod.snd z7.2, o2, b3_0, b3_1, o4, b5_0, b5_1, List.set o6 (Int.toNat z6.1) (Prod.fst z7.1, Prod.snd z7.1))] else none else none) (Option.bind (Z8 k (o2, b1_1, b1_2) (↑(List.length o6) : Int)) fun z8 => joinL (Option.bind (Z1v k (o2, Prod.fst z8.2, Prod.snd z8.2)) fun z9 => if (0 : Int) ≤ Prod.fst z8 then if Prod.fst z8 < (↑(List.length o6) : Int) then some [(Prod.fst z9.2, Prod.snd z9.2, o2, b3_0, b3_1, o4, b5_0, b5_1, List.set o6 (Int.toNat z8.1) (Prod.fst z9.1, Prod.snd z9.1))] else none else none) (Option.bind (Z1v k (o2, Prod.fst z8.2, Prod.snd z8.2)) fun z10 => if (0 : Int) ≤ Prod.fst z8 then if Prod.fst z8 < (↑(List.length o6) : Int) then some [(Prod.fst z10.2, Prod.snd z10.2, o2, b3_0, b3_1, o4, b5_0, b5_1, List.set o6 (Int.toNat z8.1) (Prod.fst z10.1, Prod.snd z10.1))] else none else none))
noncomputable def Zcj : Spec := Spec.mk [OSh.ro, OSh.box (82 : Nat) [Sh.sl (2 : Nat), Sh.int .i64, Sh.int .u64], OSh.fx (Ty.int .u8), OSh.box (26 : Nat) [Sh.int .i64, Sh.int .i64, Sh.sl (4 : Nat)], OSh.row true (122 : Nat) (Ty.pair (Ty.int .i64) (Ty.int .i64)), OSh.box (26 : Nat) [Sh.int .i64, Sh.int .i64, Sh.sl (6 : Nat)], OSh.row true (122 : Nat) (Ty.pair (Ty.int .i64) (Ty.int .i64))] [((0 : Nat), TSh.at (Sh.ptr (1 : Nat) (0 : Nat))), ((2 : Nat), TSh.at (Sh.ptr (3 : Nat) (0 : Nat))), ((3 : Nat), TSh.at (Sh.ptr (5 : Nat) (0 : Nat)))]
noncomputable def Zjb : Spec := Spec.mk [OSh.ro, OSh.box (82 : Nat) [Sh.sl (2 : Nat), Sh.int .i64, Sh.int .u64], OSh.fx (Ty.int .u8), OSh.box (26 : Nat) [Sh.int .i64, Sh.int .i64, Sh.sl (4 : Nat)], OSh.row true (122 : Nat) (Ty.pair (Ty.int .i64) (Ty.int .i64)), OSh.box (26 : Nat) [Sh.int .i64, Sh.int .i64, Sh.sl (6 : Nat)], OSh.row true (122 : Nat) (Ty.pair (Ty.int .i64) (Ty.int .i64))] [((2 : Nat), TSh.at (Sh.ptr (3 : Nat) (0 : Nat))), ((3 : Nat), TSh.at (Sh.ptr (5 : Nat) (0 : Nat)))]
noncomputable def Z2a : LoopDef (Tup Z3B × OutD) := .plain Zcj Zjb (Int × Int × List Int × Int × Int × List (Int × Int) × Int × Int × List (Int × Int)) (fun k x => Z1E k x.1.2.1.2.1 x.1.2.1.2.2.1 x.1.2.2.1 x.1.2.2.2.1.1 x.1.2.2.2.1.2.1 x.1.2.2.2.2.1 x.1.2.2.2.2.2.1.1 x.1.2.2.2.2.2.1.2.1 x.1.2.2.2.2.2.2.1) (fun z => (((), ((), z.1, z.2.1, ()), z.2.2.1, (z.2.2.2.1, z.2.2.2.2.1, (), ()), z.2.2.2.2.2.1, (z.2.2.2.2.2.2.1, z.2.2.2.2.2.2.2.1, (), ()), z.2.2.2.2.2.2.2.2, ()), ((), (), ()))) (fun y => (y.1.2.1.2.1, y.1.2.1.2.2.1, y.1.2.2.1, y.1.2.2.2.1.1, y.1.2.2.2.1.2.1, y.1.2.2.2.2.1, y.1.2.2.2.2.2.1.1, y.1.2.2.2.2.2.1.2.1, y.1.2.2.2.2.2.2.1)) (fun _ => rfl)
theorem Zjo (k : Nat) (b1_1 : Int) (b1_2 : Int) (o2 : List Int) (b3_0 : Int) (b3_1 : Int) (o4 : List (Int × Int)) (b5_0 : Int) (b5_1 : Int) (o6 : List (Int × Int)) : Z5c k b1_1 b1_2 o2 b3_0 b3_1 o4 b5_0 b5_1 o6 = repl 3 (Z1E k b1_1 b1_2 o2 b3_0 b3_1 o4 b5_0 b5_1 o6) := by
 first
 | (simp only [Z5c, Z1E, Z5, Z6, Z2, Z3, Z4, Z1, if_true]; done)
 | (simp only [Z5c, Z1E, Z5, Z6, Z2, Z3, Z4, Z1, if_true]; simp only [Z87, Z84, ZaZ, Z1]; simp only [Zd6]; exact Z9Q ⟨fun h => by simp only [h, and_self], fun h => by simp only [h, and_self]⟩)
noncomputable def ZU : Nat → List Int × Int × Int → Option ((Int × Int × List (Int × Int)) × Int × Int)
 | 0, _ => none
 | k + 1, p0 =>
  Option.bind (Z73 k (Prod.fst p0, Prod.fst p0.2, Prod.snd p0.2)) fun z0 => Option.bind (Z8 k (Prod.fst p0, Prod.fst z0.2, Prod.snd z0.2) (36 : Int)) fun z1 => if decide (Prod.fst z1 = (0 : Int)) = true then Option.bind (ZG k (Prod.fst p0, Prod.fst z1.2, Prod.snd z1.2) [(0 : Int), wrap64 (Prod.fst z0.1 + (1 : Int)), (10 : Int), (11 : Int)]) fun z2 => some ((Prod.fst z2, Prod.fst z0.1.2, Prod.snd z0.1.2), Prod.fst z2.2, Prod.snd z2.2) else if decide (Prod.fst z1 = (1 : Int)) = true then Option.bind (ZG k (Prod.fst p0, Prod.fst z1.2, Prod.snd z1.2) [(0 : Int), wrap64 (Prod.fst z0.1.2 + (1 : Int)), (9 : Int), (10 : Int)]) fun z3 => some ((Prod.fst z0.1, Prod.fst z3, Prod.snd z0.1.2), Prod.fst z3.2, Prod.snd z3.2) else if decide (Prod.fst z1 = (2 : Int)) = true then Option.bind (Z1E k z1.2.1 z1.2.2 p0.1 (0 : Int) (0 : Int) [] z0.1.1 z0.1.2.1 z0.1.2.2) fun z11 => some ((Prod.fst z11.2.2.2.2.2.2, Prod.fst z11.2.2.2.2.2.2.2, Prod.snd z11.2.2.2.2.2.2.2), Prod.fst z11, Prod.fst z11.2) else if decide (Prod.fst z1 = (3 : Int)) = true then if (1 : Int) ≤ (↑(List.length z0.1.2.2) : Int) then if (↑(List.length z0.1.2.2) : Int) ≤ (↑(List.length z0.1.2.2) : Int) then some ((Prod.fst z0.1, Prod.fst z0.1.2, List.drop (Int.toNat (1 : Int)) z0.1.2.2), Prod.fst z1.2, Prod.snd z1.2) else none else none else if decide (Prod.fst z1 = (4 : Int)) = true then some (((11 : Int), (2 : Int), List.replicate (Int.toNat (22 : Int)) ((0 : Int), (0 : Int))), Prod.fst z1.2, Prod.snd z1.2) else if decide (Prod.fst z1 = (5 : Int)) = true then some (((2 : Int), (10 : Int), List.replicate (Int.toNat (20 : Int)) ((0 : Int), (0 : Int))), Prod.fst z1.2, Prod.snd z1.2) else some ((Prod.fst z0.1, Prod.fst z0.1.2, Prod.snd z0.1.2), Prod.fst z1.2, Prod.snd z1.2)
noncomputable def Z1N : FnDef := .of ZeQ Z3B ((Int × Int × List (Int × Int)) × Int × Int) (fun k x => ZU k x.1) ZdT Z9X Zjn
noncomputable def Z78 : Code := Tryz.f96.body.getD .skip
noncomputable def Z1c : Ctx (Tup Z3B × OutD) := { T := T, G := [(122, Z2M.E), (73, ZD.E), (72, Z14.E), (123, Z23.E)], mvs := [42], no := 2, n := 53, res := resOf T ZeQ Z3B Tryz.f96.results.toList, loops := [], regs := [(8, Z2a.E)], conds := [], cuts := [] }
theorem ZeR (k : Nat) : EnvOK Tryz.prog k Z1c.G := (EnvOK.cons (Ztx k) (EnvOK.cons (Z2s k) (EnvOK.cons (Z70 k) (EnvOK.cons (Zpt k) (EnvOK.nil mixed)))))
noncomputable def Z7T : Array Oper := (findReg 8 Z78).getD #[]
theorem Zjs (k : Nat) (x : Zcj.D) : execD Z1c.T Z1c.G Z1c.mvs k Z7T (Z2a.inp.st Z1c.n x) (outK Z1c Z2a) = Z5c k x.1.2.1.2.1 x.1.2.1.2.2.1 x.1.2.2.1 x.1.2.2.2.1.1 x.1.2.2.2.1.2.1 x.1.2.2.2.2.1 x.1.2.2.2.2.2.1.1 x.1.2.2.2.2.2.1.2.1 x.1.2.2.2.2.2.2.1 := by kernel_rfl
theorem Zi1 (k : Nat) : EOK Tryz.prog Z1c k Z2a.E (.region 8 Z7T true) := ZcX (D := Z2a) (m := 3) T_ok (ZeR k) (fun x => (Zjs k x).trans (Zjo k x.1.2.1.2.1 x.1.2.1.2.2.1 x.1.2.2.1 x.1.2.2.2.1.1 x.1.2.2.2.1.2.1 x.1.2.2.2.2.1 x.1.2.2.2.2.2.1.1 x.1.2.2.2.2.2.1.2.1 x.1.2.2.2.2.2.2.1))
theorem ZoC (k : Nat) (x : Tup Z1N.ps) : Z1N.f (k + 1) x = fnK Z1N Z1c Z78 k x := by kernel_rfl
theorem ZnR (x : Tup Z1N.ps) : Z1N.f 0 x = none := by kernel_rfl
theorem Znl (k : Nat) : LOK Tryz.prog Z1c k Z78 := LOK.by [(Z2a.E, .region 8 Z7T true)] (by kernel_rfl) (AllOK.cons (Zi1 k) AllOK.nil)
theorem Zo3 (k : Nat) : SoundAt Tryz.prog k 96 Z1N.E := @Zk Tryz.prog Z1N Z1c 96 Tryz.f96 Z78 (by kernel_rfl) (by kernel_rfl) (by kernel_rfl) Tryz.func96 (by kernel_rfl) (by kernel_rfl) (by kernel_rfl) T_ok ZeR Znl ZnR ZoC k
end
end Go.Proofs.YtglkedenkcpcbaaGreatDoor.Vs
