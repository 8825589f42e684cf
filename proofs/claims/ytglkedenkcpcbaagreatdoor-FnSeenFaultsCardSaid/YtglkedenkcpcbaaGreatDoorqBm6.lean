/- The proof, part 7. -/
import Derived.Test.YtglkedenkcpcbaaGreatDoorqBm5
set_option maxRecDepth 100000
set_option maxHeartbeats 2000000
set_option linter.unusedVariables false
set_option linter.unusedSimpArgs false
namespace Go.Proofs.YtglkedenkcpcbaaGreatDoor.Vs
open Go.RowKit
noncomputable section
noncomputable def Z97 : List PK := [PK.mk Ty.str false none false none, PK.mk Ty.bool false none false none]
noncomputable def ZmU : List PK := [PK.mk (Ty.pair (Ty.int .i64) (Ty.pair (Ty.int .i64) (Ty.int .i64))) true none false none]
noncomputable def Zkq (r : ByteArray × Bool) : Tup Z97 × OutD := ((r.1, r.2, ()), none)
noncomputable def Zkx : Tup Z97 × OutD → Option (ByteArray × Bool)
 | (a, none) => some (a.1, a.2.1)
 | _ => none
theorem Zss : ∀ b r, Zkx b = some r → Zkq r = b := by
 rintro ⟨a, o⟩ r h
 cases o with
 | none => injection h with h; subst h; rfl
 | some _ => cases h
noncomputable def Zcb : Nat → Int × Int × Int → Option (ByteArray × Bool)
 | 0, _ => none
 | k + 1, p0 =>
  Option.bind (Zbv k (Prod.fst p0, Prod.fst p0.2, Prod.snd p0.2)) fun z0 => if (!z0) = true then some (ByteArray.mk #[], false) else Option.bind (ZcH k (Prod.fst p0, Prod.fst p0.2, Prod.snd p0.2)) fun z1 => some (z1, true)
noncomputable def Z3C : FnDef := .of ZmU Z97 (ByteArray × Bool) (fun k x => Zcb k x.1) Zkq Zkx Zss
noncomputable def ZfI : Code := Tryz.f33.body.getD .skip
noncomputable def ZbL : Ctx (Tup Z97 × OutD) := { T := T, G := [(74, Z3T.E), (55, Z4L.E)], mvs := [], no := 0, n := 9, res := resOf T ZmU Z97 Tryz.f33.results.toList, loops := [], regs := [], conds := [], cuts := [] }
theorem ZyX (k : Nat) : EnvOK Tryz.prog k ZbL.G := (EnvOK.cons (ZqL k) (EnvOK.cons (Zth k) (EnvOK.nil mixed)))
theorem ZAI (k : Nat) (x : Tup Z3C.ps) : Z3C.f (k + 1) x = fnK Z3C ZbL ZfI k x := by kernel_rfl
theorem ZzW (x : Tup Z3C.ps) : Z3C.f 0 x = none := by kernel_rfl
theorem Zzb (k : Nat) : LOK Tryz.prog ZbL k ZfI := LOK.by [] (by kernel_rfl) AllOK.nil
theorem ZyP (k : Nat) : SoundAt Tryz.prog k 33 Z3C.E := @Z3 Tryz.prog Z3C ZbL 33 Tryz.f33 ZfI (by kernel_rfl) (by kernel_rfl) (by kernel_rfl) Tryz.func33 (by kernel_rfl) (by kernel_rfl) (by kernel_rfl) T_ok ZyX Zzb ZzW ZAI k
noncomputable def Z4R : List PK := [PK.mk (Ty.pair (Ty.int .i64) (Ty.pair (Ty.int .i64) (Ty.int .i64))) true none false none, PK.mk Ty.bool false none false none]
noncomputable def ZlS : List PK := [PK.mk Ty.str false none false none]
noncomputable def ZjV (r : (Int × Int × Int) × Bool) : Tup Z4R × OutD := ((r.1, r.2, ()), none)
noncomputable def Zka : Tup Z4R × OutD → Option ((Int × Int × Int) × Bool)
 | (a, none) => some (a.1, a.2.1)
 | _ => none
theorem Zsd : ∀ b r, Zka b = some r → ZjV r = b := by
 rintro ⟨a, o⟩ r h
 cases o with
 | none => injection h with h; subst h; rfl
 | some _ => cases h
noncomputable def Z3h : Nat → Int → Int → Int → List ByteArray → List ByteArray → ByteArray → Option (Int × Int × Int × List ByteArray × Int × Int × Int × ByteArray) := fun k b1_0 b1_1 b1_2 o2 o3 v0 =>
    if (0 : Int) < (↑(List.length o3) : Int) then if (1 : Int) < (↑(List.length o3) : Int) then Option.bind (Z3P k (List.getD o3 (Int.toNat (0 : Int)) (ByteArray.mk #[]))) fun z2 => Option.bind (Z3P k (List.getD o3 (Int.toNat (1 : Int)) (ByteArray.mk #[]))) fun z3 => some (b1_0, b1_1, b1_2, o2, (0 : Int), z2, z3, v0) else none else none
noncomputable def Z8r : Nat → Int → Int → Int → List ByteArray → List ByteArray → ByteArray → Option (List (Int × Int × Int × List ByteArray × Int × Int × Int × ByteArray)) := fun k b1_0 b1_1 b1_2 o2 o3 v0 =>
    if (0 : Int) < (↑(List.length o3) : Int) then if (1 : Int) < (↑(List.length o3) : Int) then joinL (Option.bind (Z3P k (List.getD o3 (Int.toNat (0 : Int)) (ByteArray.mk #[]))) fun z4 => joinL (Option.bind (Z3P k (List.getD o3 (Int.toNat (1 : Int)) (ByteArray.mk #[]))) fun z5 => some [(b1_0, b1_1, b1_2, o2, (0 : Int), z4, z5, v0)]) (Option.bind (Z3P k (List.getD o3 (Int.toNat (1 : Int)) (ByteArray.mk #[]))) fun z6 => some [(b1_0, b1_1, b1_2, o2, (0 : Int), z4, z6, v0)])) (Option.bind (Z3P k (List.getD o3 (Int.toNat (0 : Int)) (ByteArray.mk #[]))) fun z7 => Option.bind (Z3P k (List.getD o3 (Int.toNat (1 : Int)) (ByteArray.mk #[]))) fun z8 => some [(b1_0, b1_1, b1_2, o2, (0 : Int), z7, z8, v0)]) else none else none
noncomputable def ZhB : Spec := Spec.mk [OSh.ro, OSh.box (42 : Nat) [Sh.int .i64, Sh.int .i64, Sh.int .i64], OSh.row true (9 : Nat) Ty.str, OSh.row true (9 : Nat) Ty.str] [((0 : Nat), TSh.at Sh.str), ((2 : Nat), TSh.at (Sh.ptr (1 : Nat) (0 : Nat))), ((4 : Nat), TSh.at (Sh.sl (2 : Nat))), ((5 : Nat), TSh.at (Sh.sl (3 : Nat)))]
noncomputable def ZrY : Spec := Spec.mk [OSh.ro, OSh.box (42 : Nat) [Sh.int .i64, Sh.int .i64, Sh.int .i64], OSh.row true (9 : Nat) Ty.str, OSh.box (42 : Nat) [Sh.int .i64, Sh.int .i64, Sh.int .i64]] [((0 : Nat), TSh.at Sh.str), ((2 : Nat), TSh.at (Sh.ptr (1 : Nat) (0 : Nat))), ((4 : Nat), TSh.at (Sh.sl (2 : Nat))), ((6 : Nat), TSh.at (Sh.ptr (3 : Nat) (0 : Nat)))]
noncomputable def Z3Q : LoopDef (Tup Z4R × OutD) := .plain ZhB ZrY (Int × Int × Int × List ByteArray × Int × Int × Int × ByteArray) (fun k x => Z3h k x.1.2.1.1 x.1.2.1.2.1 x.1.2.1.2.2.1 x.1.2.2.1 x.1.2.2.2.1 x.2.1) (fun z => (((), (z.1, z.2.1, z.2.2.1, ()), z.2.2.2.1, (z.2.2.2.2.1, z.2.2.2.2.2.1, z.2.2.2.2.2.2.1, ()), ()), (z.2.2.2.2.2.2.2, (), (), (), ()))) (fun y => (y.1.2.1.1, y.1.2.1.2.1, y.1.2.1.2.2.1, y.1.2.2.1, y.1.2.2.2.1.1, y.1.2.2.2.1.2.1, y.1.2.2.2.1.2.2.1, y.2.1)) (fun _ => rfl)
theorem Zsi (k : Nat) (b1_0 : Int) (b1_1 : Int) (b1_2 : Int) (o2 : List ByteArray) (o3 : List ByteArray) (v0 : ByteArray) : Z8r k b1_0 b1_1 b1_2 o2 o3 v0 = repl 3 (Z3h k b1_0 b1_1 b1_2 o2 o3 v0) := by
 first
 | (simp only [Z8r, Z3h, Zd, Zi, Zf, Zg, Ze, Z4, if_true]; done)
 | (simp only [Z8r, Z3h, Zd, Zi, Zf, Zg, Ze, Z4, if_true]; simp only [Z1n, Z1o, Z2J, Z4]; simp only [Z44]; exact Z22 ⟨fun h => by simp only [h, and_self], fun h => by simp only [h, and_self]⟩)
noncomputable def Z3x : Nat → Int → Int → Int → List ByteArray → Int → Int → Int → List ByteArray → ByteArray → Int → Int → Option (Int × Int × Int × Int × Int × Int × ByteArray)
 | 0, _, _, _, _, _, _, _, _, _, _, _ => none
 | k + 1, b1_0, b1_1, b1_2, o2, b3_0, b3_1, b3_2, o4, v0, v33, v34 =>
  if decide (v34 < v33) = true then if (0 : Int) ≤ v34 then if v34 < (↑(List.length o4) : Int) then if (0 : Int) < (↑(List.length o2) : Int) then if (ByteArray.toList (List.getD o4 (Int.toNat v34) (ByteArray.mk #[])) == ByteArray.toList (List.getD o2 (Int.toNat (0 : Int)) (ByteArray.mk #[]))) = true then Z3x k b1_0 b1_1 b1_2 o2 v34 b3_1 b3_2 o4 v0 v33 (wrap64 (v34 + (1 : Int))) else Z3x k b1_0 b1_1 b1_2 o2 b3_0 b3_1 b3_2 o4 v0 v33 (wrap64 (v34 + (1 : Int))) else none else none else none else some (b1_0, b1_1, b1_2, b3_0, b3_1, b3_2, v0)
noncomputable def Zd6 : Spec := Spec.mk [OSh.ro, OSh.box (42 : Nat) [Sh.int .i64, Sh.int .i64, Sh.int .i64], OSh.row true (9 : Nat) Ty.str, OSh.box (42 : Nat) [Sh.int .i64, Sh.int .i64, Sh.int .i64], OSh.row true (9 : Nat) Ty.str] [((0 : Nat), TSh.at Sh.str), ((2 : Nat), TSh.at (Sh.ptr (1 : Nat) (0 : Nat))), ((4 : Nat), TSh.at (Sh.sl (2 : Nat))), ((6 : Nat), TSh.at (Sh.ptr (3 : Nat) (0 : Nat))), ((32 : Nat), TSh.at (Sh.sl (4 : Nat))), ((33 : Nat), TSh.at (Sh.int .i64)), ((34 : Nat), TSh.at (Sh.int .i64))]
noncomputable def Zv3 : Spec := Spec.mk [OSh.ro, OSh.box (42 : Nat) [Sh.int .i64, Sh.int .i64, Sh.int .i64], OSh.box (42 : Nat) [Sh.int .i64, Sh.int .i64, Sh.int .i64]] [((0 : Nat), TSh.at Sh.str), ((2 : Nat), TSh.at (Sh.ptr (1 : Nat) (0 : Nat))), ((6 : Nat), TSh.at (Sh.ptr (2 : Nat) (0 : Nat)))]
noncomputable def Z4v : LoopDef (Tup Z4R × OutD) := .plain Zd6 Zv3 (Int × Int × Int × Int × Int × Int × ByteArray) (fun k x => Z3x k x.1.2.1.1 x.1.2.1.2.1 x.1.2.1.2.2.1 x.1.2.2.1 x.1.2.2.2.1.1 x.1.2.2.2.1.2.1 x.1.2.2.2.1.2.2.1 x.1.2.2.2.2.1 x.2.1 x.2.2.2.2.2.2.1 x.2.2.2.2.2.2.2.1) (fun z => (((), (z.1, z.2.1, z.2.2.1, ()), (z.2.2.2.1, z.2.2.2.2.1, z.2.2.2.2.2.1, ()), ()), (z.2.2.2.2.2.2, (), (), ()))) (fun y => (y.1.2.1.1, y.1.2.1.2.1, y.1.2.1.2.2.1, y.1.2.2.1.1, y.1.2.2.1.2.1, y.1.2.2.1.2.2.1, y.2.1)) (fun _ => rfl)
noncomputable def Zce : Nat → ByteArray → Option ((Int × Int × Int) × Bool)
 | 0, _ => none
 | k + 1, p0 =>
  Option.bind (Zbq k p0 (32 : Int)) fun z0 => if decide ((↑(List.length z0) : Int) ≠ (3 : Int)) = true then some (((0 : Int), (0 : Int), (0 : Int)), false) else if (2 : Int) < (↑(List.length z0) : Int) then Option.bind (Zbq k (List.getD z0 (Int.toNat (2 : Int)) (ByteArray.mk #[])) (44 : Int)) fun z1 => if decide ((↑(List.length z1) : Int) ≠ (2 : Int)) = true then some (((0 : Int), (0 : Int), (0 : Int)), false) else Option.bind (Z3h k (0 : Int) (0 : Int) (0 : Int) z0 z1 p0) fun z9 => Option.bind (Ziw k) fun z10 => Option.bind (Z3x k z9.1 z9.2.1 z9.2.2.1 z9.2.2.2.1 z9.2.2.2.2.1 z9.2.2.2.2.2.1 z9.2.2.2.2.2.2.1 z10 z9.2.2.2.2.2.2.2 (↑(List.length z10) : Int) (0 : Int)) fun z11 => Option.bind (Zbv k (Prod.fst z11.2.2.2, Prod.fst z11.2.2.2.2, Prod.fst z11.2.2.2.2.2)) fun z12 => if (!z12) = true then some (((0 : Int), (0 : Int), (0 : Int)), false) else Option.bind (ZcH k (Prod.fst z11.2.2.2, Prod.fst z11.2.2.2.2, Prod.fst z11.2.2.2.2.2)) fun z13 => if (!ByteArray.toList z13 == ByteArray.toList z11.2.2.2.2.2.2) = true then some (((0 : Int), (0 : Int), (0 : Int)), false) else some ((Prod.fst z11.2.2.2, Prod.fst z11.2.2.2.2, Prod.fst z11.2.2.2.2.2), true) else none
noncomputable def Z3w : FnDef := .of ZlS Z4R ((Int × Int × Int) × Bool) (fun k x => Zce k x.1) ZjV Zka Zsd
noncomputable def Z9t : Code := Tryz.f36.body.getD .skip
noncomputable def Z15 : Ctx (Tup Z4R × OutD) := { T := T, G := [(79, Z57.E), (80, Z6j.E), (81, Z3V.E), (74, Z3T.E), (55, Z4L.E)], mvs := [], no := 0, n := 58, res := resOf T ZlS Z4R Tryz.f36.results.toList, loops := [(0, Z4v.E)], regs := [(7, Z3Q.E)], conds := [], cuts := [] }
theorem Zgc (k : Nat) : EnvOK Tryz.prog k Z15.G := (EnvOK.cons (ZCF k) (EnvOK.cons (ZEM k) (EnvOK.cons (ZqN k) (EnvOK.cons (ZqL k) (EnvOK.cons (Zth k) (EnvOK.nil mixed))))))
noncomputable def ZbO : Array Oper := (findReg 7 Z9t).getD #[]
theorem ZrN (k : Nat) (x : ZhB.D) : execD Z15.T Z15.G Z15.mvs k ZbO (Z3Q.inp.st Z15.n x) (outK Z15 Z3Q) = Z8r k x.1.2.1.1 x.1.2.1.2.1 x.1.2.1.2.2.1 x.1.2.2.1 x.1.2.2.2.1 x.2.1 := by kernel_rfl
theorem Zqs (k : Nat) : EOK Tryz.prog Z15 k Z3Q.E (.region 7 ZbO true) := Z5X (D := Z3Q) (m := 3) T_ok (Zgc k) (fun x => (ZrN k x).trans (Zsi k x.1.2.1.1 x.1.2.1.2.1 x.1.2.1.2.2.1 x.1.2.2.1 x.1.2.2.2.1 x.2.1))
noncomputable def Z9I : Code := (findLoop 0 Z9t).getD .skip
theorem ZuF (k : Nat) (x : Zd6.D) : Z4v.lp (k + 1) x = loopK Z15 Z4v 0 Z9I k x := by kernel_rfl
theorem ZuL (k : Nat) : LOK Tryz.prog Z15 k Z9I := LOK.by [] (by kernel_rfl) AllOK.nil
theorem Zuo (x : Zd6.D) : Z4v.lp 0 x = none := by kernel_rfl
theorem Zsz (k : Nat) : EOK Tryz.prog Z15 k Z4v.E (.block 0 (.loop Z9I)) := Zb T_ok Zgc Zuo ZuF ZuL k
theorem ZzK (k : Nat) (x : Tup Z3w.ps) : Z3w.f (k + 1) x = fnK Z3w Z15 Z9t k x := by kernel_rfl
theorem ZAe (x : Tup Z3w.ps) : Z3w.f 0 x = none := by kernel_rfl
theorem ZAx (k : Nat) : LOK Tryz.prog Z15 k Z9t := LOK.by [(Z3Q.E, .region 7 ZbO true), (Z4v.E, .block 0 (.loop Z9I))] (by kernel_rfl) (AllOK.cons (Zqs k) (AllOK.cons (Zsz k) AllOK.nil))
theorem ZzJ (k : Nat) : SoundAt Tryz.prog k 36 Z3w.E := @Z3 Tryz.prog Z3w Z15 36 Tryz.f36 Z9t (by kernel_rfl) (by kernel_rfl) (by kernel_rfl) Tryz.func36 (by kernel_rfl) (by kernel_rfl) (by kernel_rfl) T_ok Zgc ZAx ZAe ZzK k
noncomputable def Z4c : List PK := [PK.mk (Ty.slice (42 : Nat) (Ty.pair (Ty.int .i64) (Ty.pair (Ty.int .i64) (Ty.int .i64)))) false none false none]
noncomputable def Zk7 : List PK := [PK.mk (Ty.pair (Ty.int .i64) (Ty.pair (Ty.int .i64) (Ty.slice (122 : Nat) (Ty.pair (Ty.int .i64) (Ty.int .i64))))) true none false none]
noncomputable def Zjq (r : List (Int × Int × Int)) : Tup Z4c × OutD := ((r, ()), none)
noncomputable def Zjj : Tup Z4c × OutD → Option (List (Int × Int × Int))
 | (a, none) => some (a.1)
 | _ => none
theorem Zr9 : ∀ b r, Zjj b = some r → Zjq r = b := by
 rintro ⟨a, o⟩ r h
 cases o with
 | none => injection h with h; subst h; rfl
 | some _ => cases h
noncomputable def Z1B : Nat → Int → Int → List (Int × Int) → List (Int × Int × Int) → Int → Int → Int → Int → List (Int × Int) → Int → Int → Option (Int × Int × List (Int × Int) × List (Int × Int × Int) × List (Int × Int) × Int × Int)
 | 0, _, _, _, _, _, _, _, _, _, _, _ => none
 | k + 1, b1_0, b1_1, b1_2, o2, b3_0, b3_1, v4, v6, v8, v9, v10 =>
  if decide (v6 ≤ (3 : Int)) = true then Option.bind (ZcY k (b3_0, b3_1) v6) fun z0 => if z0 = true then if b1_1 = (0 : Int) then none else if b1_1 = (0 : Int) then none else if List.length o2 + List.length [(v6, wrap64 (Int.tdiv v4 b1_1), Int.tmod v4 b1_1)] ≤ (140737488355328 / 24 : Nat) then Z1B k b1_0 b1_1 b1_2 (o2 ++ [(v6, wrap64 (Int.tdiv v4 b1_1), Int.tmod v4 b1_1)]) b3_0 b3_1 v4 (wrap64 (v6 + (1 : Int))) v8 v9 v10 else none else Z1B k b1_0 b1_1 b1_2 o2 b3_0 b3_1 v4 (wrap64 (v6 + (1 : Int))) v8 v9 v10 else some (b1_0, b1_1, b1_2, o2, v8, v9, v10)
noncomputable def ZbK : Spec := Spec.mk [OSh.ro, OSh.box (26 : Nat) [Sh.int .i64, Sh.int .i64, Sh.snap (0 : Nat) (Ty.pair (Ty.int .i64) (Ty.int .i64))], OSh.row true (42 : Nat) (Ty.pair (Ty.int .i64) (Ty.pair (Ty.int .i64) (Ty.int .i64))), OSh.box (122 : Nat) [Sh.int .i64, Sh.int .i64]] [((1 : Nat), TSh.at (Sh.ptr (1 : Nat) (0 : Nat))), ((3 : Nat), TSh.at (Sh.sl (2 : Nat))), ((4 : Nat), TSh.at (Sh.int .i64)), ((5 : Nat), TSh.at (Sh.ptr (3 : Nat) (0 : Nat))), ((6 : Nat), TSh.at (Sh.int .i64)), ((8 : Nat), TSh.at (Sh.snap (0 : Nat) (Ty.pair (Ty.int .i64) (Ty.int .i64)))), ((9 : Nat), TSh.at (Sh.int .i64)), ((10 : Nat), TSh.at (Sh.int .i64))]
noncomputable def ZsH : Spec := Spec.mk [OSh.ro, OSh.box (26 : Nat) [Sh.int .i64, Sh.int .i64, Sh.snap (0 : Nat) (Ty.pair (Ty.int .i64) (Ty.int .i64))], OSh.row true (42 : Nat) (Ty.pair (Ty.int .i64) (Ty.pair (Ty.int .i64) (Ty.int .i64)))] [((1 : Nat), TSh.at (Sh.ptr (1 : Nat) (0 : Nat))), ((3 : Nat), TSh.at (Sh.sl (2 : Nat))), ((8 : Nat), TSh.at (Sh.snap (0 : Nat) (Ty.pair (Ty.int .i64) (Ty.int .i64)))), ((9 : Nat), TSh.at (Sh.int .i64)), ((10 : Nat), TSh.at (Sh.int .i64))]
noncomputable def Z3R : LoopDef (Tup Z4c × OutD) := .plain ZbK ZsH (Int × Int × List (Int × Int) × List (Int × Int × Int) × List (Int × Int) × Int × Int) (fun k x => Z1B k x.1.2.1.1 x.1.2.1.2.1 x.1.2.1.2.2.1 x.1.2.2.1 x.1.2.2.2.1.1 x.1.2.2.2.1.2.1 x.2.2.2.1 x.2.2.2.2.2.1 x.2.2.2.2.2.2.1 x.2.2.2.2.2.2.2.1 x.2.2.2.2.2.2.2.2.1) (fun z => (((), (z.1, z.2.1, z.2.2.1, ()), z.2.2.2.1, ()), ((), (), z.2.2.2.2.1, z.2.2.2.2.2.1, z.2.2.2.2.2.2, ()))) (fun y => (y.1.2.1.1, y.1.2.1.2.1, y.1.2.1.2.2.1, y.1.2.2.1, y.2.2.2.1, y.2.2.2.2.1, y.2.2.2.2.2.1)) (fun _ => rfl)
noncomputable def Z3g : Nat → Int → Int → List (Int × Int) → List (Int × Int × Int) → List (Int × Int) → Int → Int → Option (List (Int × Int × Int))
 | 0, _, _, _, _, _, _, _ => none
 | k + 1, b1_0, b1_1, b1_2, o2, v8, v9, v10 =>
  if decide (v10 < v9) = true then if (0 : Int) ≤ v10 then if v10 < (↑(List.length v8) : Int) then Option.bind (Z1B k b1_0 b1_1 b1_2 o2 (Prod.fst (List.getD v8 (Int.toNat v10) ((0 : Int), (0 : Int)))) (Prod.snd (List.getD v8 (Int.toNat v10) ((0 : Int), (0 : Int)))) v10 (1 : Int) v8 v9 v10) fun z1 => Z3g k z1.1 z1.2.1 z1.2.2.1 z1.2.2.2.1 z1.2.2.2.2.1 z1.2.2.2.2.2.1 (wrap64 (Prod.snd z1.2.2.2.2.2 + (1 : Int))) else none else none else some o2
noncomputable def Zc5 : Spec := Spec.mk [OSh.ro, OSh.box (26 : Nat) [Sh.int .i64, Sh.int .i64, Sh.snap (0 : Nat) (Ty.pair (Ty.int .i64) (Ty.int .i64))], OSh.row true (42 : Nat) (Ty.pair (Ty.int .i64) (Ty.pair (Ty.int .i64) (Ty.int .i64)))] [((1 : Nat), TSh.at (Sh.ptr (1 : Nat) (0 : Nat))), ((3 : Nat), TSh.at (Sh.sl (2 : Nat))), ((8 : Nat), TSh.at (Sh.snap (0 : Nat) (Ty.pair (Ty.int .i64) (Ty.int .i64)))), ((9 : Nat), TSh.at (Sh.int .i64)), ((10 : Nat), TSh.at (Sh.int .i64))]
noncomputable def ZrT : Spec := Spec.mk [OSh.ro, OSh.row true (42 : Nat) (Ty.pair (Ty.int .i64) (Ty.pair (Ty.int .i64) (Ty.int .i64)))] [((3 : Nat), TSh.at (Sh.sl (1 : Nat)))]
noncomputable def Z42 : LoopDef (Tup Z4c × OutD) := .plain Zc5 ZrT (List (Int × Int × Int)) (fun k x => Z3g k x.1.2.1.1 x.1.2.1.2.1 x.1.2.1.2.2.1 x.1.2.2.1 x.2.2.2.1 x.2.2.2.2.1 x.2.2.2.2.2.1) (fun z => (((), z, ()), ((), ()))) (fun y => (y.1.2.1)) (fun _ => rfl)
noncomputable def Z4e : Nat → Int × Int × List (Int × Int) → Option (List (Int × Int × Int))
 | 0, _ => none
 | k + 1, p0 =>
  Option.bind (Z3g k p0.1 p0.2.1 p0.2.2 [] p0.2.2 (↑(List.length p0.2.2) : Int) (0 : Int)) fun z2 => some z2
noncomputable def Z1k : FnDef := .of Zk7 Z4c (List (Int × Int × Int)) (fun k x => Z4e k x.1) Zjq Zjj Zr9
noncomputable def Z8d : Code := Tryz.f67.body.getD .skip
noncomputable def Z1K : Ctx (Tup Z4c × OutD) := { T := T, G := [(103, Z4O.E)], mvs := [], no := 0, n := 37, res := resOf T Zk7 Z4c Tryz.f67.results.toList, loops := [(2, Z3R.E), (0, Z42.E)], regs := [], conds := [], cuts := [] }
theorem ZeP (k : Nat) : EnvOK Tryz.prog k Z1K.G := (EnvOK.cons (Zu3 k) (EnvOK.nil mixed))
noncomputable def Z8i : Code := (findLoop 2 Z8d).getD .skip
theorem ZrG (k : Nat) (x : ZbK.D) : Z3R.lp (k + 1) x = loopK Z1K Z3R 2 Z8i k x := by kernel_rfl
theorem Zs2 (k : Nat) : LOK Tryz.prog Z1K k Z8i := LOK.by [] (by kernel_rfl) AllOK.nil
theorem Zsv (x : ZbK.D) : Z3R.lp 0 x = none := by kernel_rfl
theorem Zqz (k : Nat) : EOK Tryz.prog Z1K k Z3R.E (.block 2 (.loop Z8i)) := Zb T_ok ZeP Zsv ZrG Zs2 k
noncomputable def Z8f : Code := (findLoop 0 Z8d).getD .skip
theorem Zs0 (k : Nat) (x : Zc5.D) : Z42.lp (k + 1) x = loopK Z1K Z42 0 Z8f k x := by kernel_rfl
theorem ZsL (k : Nat) : LOK Tryz.prog Z1K k Z8f := LOK.by [(Z3R.E, .block 2 (.loop Z8i))] (by kernel_rfl) (AllOK.cons (Zqz k) AllOK.nil)
theorem ZsJ (x : Zc5.D) : Z42.lp 0 x = none := by kernel_rfl
theorem ZqD (k : Nat) : EOK Tryz.prog Z1K k Z42.E (.block 0 (.loop Z8f)) := Zb T_ok ZeP ZsJ Zs0 ZsL k
theorem Zxm (k : Nat) (x : Tup Z1k.ps) : Z1k.f (k + 1) x = fnK Z1k Z1K Z8d k x := by kernel_rfl
theorem Zy7 (x : Tup Z1k.ps) : Z1k.f 0 x = none := by kernel_rfl
theorem ZxH (k : Nat) : LOK Tryz.prog Z1K k Z8d := LOK.by [(Z42.E, .block 0 (.loop Z8f))] (by kernel_rfl) (AllOK.cons (ZqD k) AllOK.nil)
theorem Zba (k : Nat) : SoundAt Tryz.prog k 67 Z1k.E := @Z3 Tryz.prog Z1k Z1K 67 Tryz.f67 Z8d (by kernel_rfl) (by kernel_rfl) (by kernel_rfl) Tryz.func67 (by kernel_rfl) (by kernel_rfl) (by kernel_rfl) T_ok ZeP ZxH Zy7 Zxm k
noncomputable def Zag : List PK := [PK.mk Ty.bool false none false none]
noncomputable def Ztf : List PK := [PK.mk (Ty.pair (Ty.int .i64) (Ty.pair (Ty.int .i64) (Ty.slice (122 : Nat) (Ty.pair (Ty.int .i64) (Ty.int .i64))))) true none false none, PK.mk (Ty.slice (42 : Nat) (Ty.pair (Ty.int .i64) (Ty.pair (Ty.int .i64) (Ty.int .i64)))) false none false none]
noncomputable def ZiB (r : Bool) : Tup Zag × OutD := ((r, ()), none)
noncomputable def Zip : Tup Zag × OutD → Option (Bool)
 | (a, none) => some (a.1)
 | _ => none
theorem Zk0 : ∀ b r, Zip b = some r → ZiB r = b := by
 rintro ⟨a, o⟩ r h
 cases o with
 | none => injection h with h; subst h; rfl
 | some _ => cases h
noncomputable def Z7X : Nat → Int → Int → List (Int × Int) → List (Int × Int × Int) → Int → List (Int × Int × Int) → Int → Int → Option (LR (List (Int × Int × Int)) Bool)
 | 0, _, _, _, _, _, _, _, _ => none
 | k + 1, b1_0, b1_1, b1_2, v1, v5, v8, v9, v10 =>
  if decide (v10 < v9) = true then if (0 : Int) ≤ v10 then if v10 < (↑(List.length v8) : Int) then Option.bind (Z1L k (Prod.fst (Prod.snd (List.getD v8 (Int.toNat v10) ((0 : Int), (0 : Int), (0 : Int))))) (0 : Int) (wrap64 (b1_0 - (1 : Int)))) fun z0 => if (!z0) = true then some (LR.ret false) else Option.bind (Z1L k (Prod.snd (Prod.snd (List.getD v8 (Int.toNat v10) ((0 : Int), (0 : Int), (0 : Int))))) (0 : Int) (wrap64 (b1_1 - (1 : Int)))) fun z1 => if (!z1) = true then some (LR.ret false) else Option.bind (Z4E k (b1_0, b1_1, b1_2) (Prod.fst (Prod.snd (List.getD v8 (Int.toNat v10) ((0 : Int), (0 : Int), (0 : Int))))) (Prod.snd (Prod.snd (List.getD v8 (Int.toNat v10) ((0 : Int), (0 : Int), (0 : Int)))))) fun z2 => Option.bind (ZcY k (Prod.fst z2, Prod.snd z2) (Prod.fst (List.getD v8 (Int.toNat v10) ((0 : Int), (0 : Int), (0 : Int))))) fun z3 => if (!z3) = true then some (LR.ret false) else if decide (wrap64 (wrap64 (Prod.fst (Prod.snd (List.getD v8 (Int.toNat v10) ((0 : Int), (0 : Int), (0 : Int)))) * b1_1) + Prod.snd (Prod.snd (List.getD v8 (Int.toNat v10) ((0 : Int), (0 : Int), (0 : Int))))) ≤ v5) = true then some (LR.ret false) else Z7X k b1_0 b1_1 b1_2 v1 (wrap64 (wrap64 (Prod.fst (Prod.snd (List.getD v8 (Int.toNat v10) ((0 : Int), (0 : Int), (0 : Int)))) * b1_1) + Prod.snd (Prod.snd (List.getD v8 (Int.toNat v10) ((0 : Int), (0 : Int), (0 : Int)))))) v8 v9 (wrap64 (v10 + (1 : Int))) else none else none else some (LR.go v1)
noncomputable def Zg2 : Spec := Spec.mk [OSh.ro, OSh.box (26 : Nat) [Sh.int .i64, Sh.int .i64, Sh.snap (0 : Nat) (Ty.pair (Ty.int .i64) (Ty.int .i64))]] [((1 : Nat), TSh.at (Sh.snap (0 : Nat) (Ty.pair (Ty.int .i64) (Ty.pair (Ty.int .i64) (Ty.int .i64))))), ((2 : Nat), TSh.at (Sh.ptr (1 : Nat) (0 : Nat))), ((5 : Nat), TSh.at (Sh.int .i64)), ((8 : Nat), TSh.at (Sh.snap (0 : Nat) (Ty.pair (Ty.int .i64) (Ty.pair (Ty.int .i64) (Ty.int .i64))))), ((9 : Nat), TSh.at (Sh.int .i64)), ((10 : Nat), TSh.at (Sh.int .i64))]
noncomputable def Zzc : Spec := Spec.mk [OSh.ro] [((1 : Nat), TSh.at (Sh.snap (0 : Nat) (Ty.pair (Ty.int .i64) (Ty.pair (Ty.int .i64) (Ty.int .i64)))))]
noncomputable def Z6Y : LoopDef (Tup Zag × OutD) := .rets Zg2 Zzc (List (Int × Int × Int)) (Bool) (fun k x => Z7X k x.1.2.1.1 x.1.2.1.2.1 x.1.2.1.2.2.1 x.2.1 x.2.2.2.1 x.2.2.2.2.1 x.2.2.2.2.2.1 x.2.2.2.2.2.2.1) (fun z => (((), ()), (z, ()))) (fun y => (y.2.1)) (fun _ => rfl) ZiB Zip Zk0
noncomputable def ZcP : Nat → Int × Int × List (Int × Int) → List (Int × Int × Int) → Option Bool
 | 0, _, _ => none
 | k + 1, p0, p1 =>
  Option.bind (Z7X k p0.1 p0.2.1 p0.2.2 p1 (-1 : Int) p1 (↑(List.length p1) : Int) (0 : Int)) fun z4 => LR.on z4 (fun y4 => some (decide ((↑(List.length y4) : Int) ≤ (4 : Int)))) fun r4 => some r4
noncomputable def Z4G : FnDef := .of Ztf Zag (Bool) (fun k x => ZcP k x.1 x.2.1) ZiB Zip Zk0
noncomputable def Zfq : Code := Tryz.f70.body.getD .skip
noncomputable def Z83 : Ctx (Tup Zag × OutD) := { T := T, G := [(59, Z25.E), (105, Z4D.E), (103, Z4O.E)], mvs := [], no := 0, n := 66, res := resOf T Ztf Zag Tryz.f70.results.toList, loops := [(0, Z6Y.E)], regs := [], conds := [], cuts := [] }
theorem ZtN (k : Nat) : EnvOK Tryz.prog k Z83.G := (EnvOK.cons (Z8I k) (EnvOK.cons (ZiR k) (EnvOK.cons (Zu3 k) (EnvOK.nil mixed))))
noncomputable def Zc8 : Code := (findLoop 0 Zfq).getD .skip
theorem ZyS (k : Nat) (x : Zg2.D) : Z6Y.lp (k + 1) x = loopK Z83 Z6Y 0 Zc8 k x := by kernel_rfl
theorem Zze (k : Nat) : LOK Tryz.prog Z83 k Zc8 := LOK.by [] (by kernel_rfl) AllOK.nil
theorem Zz6 (x : Zg2.D) : Z6Y.lp 0 x = none := by kernel_rfl
theorem Zxx (k : Nat) : EOK Tryz.prog Z83 k Z6Y.E (.block 0 (.loop Zc8)) := Zb T_ok ZtN Zz6 ZyS Zze k
theorem ZFa (k : Nat) (x : Tup Z4G.ps) : Z4G.f (k + 1) x = fnK Z4G Z83 Zfq k x := by kernel_rfl
theorem ZF3 (x : Tup Z4G.ps) : Z4G.f 0 x = none := by kernel_rfl
theorem ZEK (k : Nat) : LOK Tryz.prog Z83 k Zfq := LOK.by [(Z6Y.E, .block 0 (.loop Zc8))] (by kernel_rfl) (AllOK.cons (Zxx k) AllOK.nil)
theorem Zti (k : Nat) : SoundAt Tryz.prog k 70 Z4G.E := @Z3 Tryz.prog Z4G Z83 70 Tryz.f70 Zfq (by kernel_rfl) (by kernel_rfl) (by kernel_rfl) Tryz.func70 (by kernel_rfl) (by kernel_rfl) (by kernel_rfl) T_ok ZtN ZEK ZF3 ZFa k
noncomputable def Z7y : List PK := [PK.mk (Ty.int .i64) false none false none]
noncomputable def Zj9 : List PK := [PK.mk (Ty.pair (Ty.slice (5 : Nat) (Ty.int .u8)) (Ty.pair (Ty.int .i64) (Ty.int .u64))) false none false (some (82 : Nat)), PK.mk (Ty.slice (3 : Nat) (Ty.int .i64)) false none false none]
noncomputable def Zi5 (r : Int × Int × Int) : Tup Z7y × OutD := ((r.1, ()), some ⟨Ty.pair (Ty.slice (5 : Nat) (Ty.int .u8)) (Ty.pair (Ty.int .i64) (Ty.int .u64)), [([], r.2)]⟩)
noncomputable def Zd5 : Tup Z7y × OutD → Option (Int × Int × Int)
 | (a, some ⟨u, ys⟩) => if h : u = Ty.pair (Ty.slice (5 : Nat) (Ty.int .u8)) (Ty.pair (Ty.int .i64) (Ty.int .u64)) then (match castU h ys with
  | [([], y)] => some (a.1, y)
  | _ => none) else none
 | _ => none
theorem Zpu : ∀ b r, Zd5 b = some r → Zi5 r = b := by
 rintro ⟨a, o⟩ r h
 cases o with
 | none => cases h
 | some s =>
  obtain ⟨u, ys⟩ := s
  simp only [Zd5] at h
  split at h
  ·rename_i hu
   subst hu
   match ys, h with
   | [], h => cases (show (none : Option _) = some r from h)
   | [([], y)], h => injection (show some _ = some r from h) with h; subst h; rfl
   | [(_ :: _, y)], h => cases (show (none : Option _) = some r from h)
   | (h1, _) :: _ :: _, h => cases h1 <;> cases (show (none : Option _) = some r from h)
  ·cases h
noncomputable def Z5 : Nat → List Int × Int × Int → List Int → Option (Int × Int × Int)
 | 0, _, _ => none
 | k + 1, p0, p1 =>
  Option.bind (Z0 k (Prod.fst p0, Prod.fst p0.2, Prod.snd p0.2) (↑(List.length p1) : Int)) fun z0 => if (0 : Int) ≤ Prod.fst z0 then if Prod.fst z0 < (↑(List.length p1) : Int) then some (List.getD p1 (Int.toNat z0.1) (0 : Int), Prod.fst z0.2, Prod.snd z0.2) else none else none
noncomputable def Zq : FnDef := .of Zj9 Z7y (Int × Int × Int) (fun k x => Z5 k x.1 x.2.1) Zi5 Zd5 Zpu
noncomputable def ZdJ : Code := Tryz.f72.body.getD .skip
noncomputable def Zan : Ctx (Tup Z7y × OutD) := { T := T, G := [(73, Za.E)], mvs := [], no := 2, n := 12, res := resOf T Zj9 Z7y Tryz.f72.results.toList, loops := [], regs := [], conds := [], cuts := [] }
theorem ZwH (k : Nat) : EnvOK Tryz.prog k Zan.G := (EnvOK.cons (ZA k) (EnvOK.nil mixed))
theorem ZwQ (k : Nat) (x : Tup Zq.ps) : Zq.f (k + 1) x = fnK Zq Zan ZdJ k x := by kernel_rfl
theorem ZwY (x : Tup Zq.ps) : Zq.f 0 x = none := by kernel_rfl
theorem Zwy (k : Nat) : LOK Tryz.prog Zan k ZdJ := LOK.by [] (by kernel_rfl) AllOK.nil
theorem Z2z (k : Nat) : SoundAt Tryz.prog k 72 Zq.E := @Z3 Tryz.prog Zq Zan 72 Tryz.f72 ZdJ (by kernel_rfl) (by kernel_rfl) (by kernel_rfl) Tryz.func72 (by kernel_rfl) (by kernel_rfl) (by kernel_rfl) T_ok ZwH Zwy ZwY ZwQ k
noncomputable def Zaj : List PK := [PK.mk Ty.str false none false none]
noncomputable def ZoR : List PK := [PK.mk (Ty.pair (Ty.slice (5 : Nat) (Ty.int .u8)) (Ty.pair (Ty.int .i64) (Ty.int .u64))) false none false (some (82 : Nat)), PK.mk (Ty.slice (9 : Nat) Ty.str) false none false none]
noncomputable def Zn0 (r : ByteArray × Int × Int) : Tup Zaj × OutD := ((r.1, ()), some ⟨Ty.pair (Ty.slice (5 : Nat) (Ty.int .u8)) (Ty.pair (Ty.int .i64) (Ty.int .u64)), [([], r.2)]⟩)
noncomputable def Zg8 : Tup Zaj × OutD → Option (ByteArray × Int × Int)
 | (a, some ⟨u, ys⟩) => if h : u = Ty.pair (Ty.slice (5 : Nat) (Ty.int .u8)) (Ty.pair (Ty.int .i64) (Ty.int .u64)) then (match castU h ys with
  | [([], y)] => some (a.1, y)
  | _ => none) else none
 | _ => none
theorem ZuM : ∀ b r, Zg8 b = some r → Zn0 r = b := by
 rintro ⟨a, o⟩ r h
 cases o with
 | none => cases h
 | some s =>
  obtain ⟨u, ys⟩ := s
  simp only [Zg8] at h
  split at h
  ·rename_i hu
   subst hu
   match ys, h with
   | [], h => cases (show (none : Option _) = some r from h)
   | [([], y)], h => injection (show some _ = some r from h) with h; subst h; rfl
   | [(_ :: _, y)], h => cases (show (none : Option _) = some r from h)
   | (h1, _) :: _ :: _, h => cases h1 <;> cases (show (none : Option _) = some r from h)
  ·cases h
noncomputable def Zas : Nat → List Int × Int × Int → List ByteArray → Option (ByteArray × Int × Int)
 | 0, _, _ => none
 | k + 1, p0, p1 =>
  Option.bind (Z0 k (Prod.fst p0, Prod.fst p0.2, Prod.snd p0.2) (↑(List.length p1) : Int)) fun z0 => if (0 : Int) ≤ Prod.fst z0 then if Prod.fst z0 < (↑(List.length p1) : Int) then some (List.getD p1 (Int.toNat z0.1) (ByteArray.mk #[]), Prod.fst z0.2, Prod.snd z0.2) else none else none
noncomputable def Z4h : FnDef := .of ZoR Zaj (ByteArray × Int × Int) (fun k x => Zas k x.1 x.2.1) Zn0 Zg8 ZuM
noncomputable def Zhw : Code := Tryz.f75.body.getD .skip
noncomputable def Zds : Ctx (Tup Zaj × OutD) := { T := T, G := [(73, Za.E)], mvs := [], no := 2, n := 12, res := resOf T ZoR Zaj Tryz.f75.results.toList, loops := [], regs := [], conds := [], cuts := [] }
theorem ZCs (k : Nat) : EnvOK Tryz.prog k Zds.G := (EnvOK.cons (ZA k) (EnvOK.nil mixed))
theorem ZCg (k : Nat) (x : Tup Z4h.ps) : Z4h.f (k + 1) x = fnK Z4h Zds Zhw k x := by kernel_rfl
theorem ZBU (x : Tup Z4h.ps) : Z4h.f 0 x = none := by kernel_rfl
theorem ZBy (k : Nat) : LOK Tryz.prog Zds k Zhw := LOK.by [] (by kernel_rfl) AllOK.nil
theorem ZBZ (k : Nat) : SoundAt Tryz.prog k 75 Z4h.E := @Z3 Tryz.prog Z4h Zds 75 Tryz.f75 Zhw (by kernel_rfl) (by kernel_rfl) (by kernel_rfl) Tryz.func75 (by kernel_rfl) (by kernel_rfl) (by kernel_rfl) T_ok ZCs ZBy ZBU ZCg k
noncomputable def Z4n : List PK := [PK.mk Ty.str false none false none]
noncomputable def Zi0 : List PK := [PK.mk (Ty.pair (Ty.slice (5 : Nat) (Ty.int .u8)) (Ty.pair (Ty.int .i64) (Ty.int .u64))) false none false (some (82 : Nat)), PK.mk Ty.str false none false none, PK.mk Ty.str false none false none]
noncomputable def ZhD (r : ByteArray × Int × Int) : Tup Z4n × OutD := ((r.1, ()), some ⟨Ty.pair (Ty.slice (5 : Nat) (Ty.int .u8)) (Ty.pair (Ty.int .i64) (Ty.int .u64)), [([], r.2)]⟩)
noncomputable def ZbY : Tup Z4n × OutD → Option (ByteArray × Int × Int)
 | (a, some ⟨u, ys⟩) => if h : u = Ty.pair (Ty.slice (5 : Nat) (Ty.int .u8)) (Ty.pair (Ty.int .i64) (Ty.int .u64)) then (match castU h ys with
  | [([], y)] => some (a.1, y)
  | _ => none) else none
 | _ => none
theorem ZnG : ∀ b r, ZbY b = some r → ZhD r = b := by
 rintro ⟨a, o⟩ r h
 cases o with
 | none => cases h
 | some s =>
  obtain ⟨u, ys⟩ := s
  simp only [ZbY] at h
  split at h
  ·rename_i hu
   subst hu
   match ys, h with
   | [], h => cases (show (none : Option _) = some r from h)
   | [([], y)], h => injection (show some _ = some r from h) with h; subst h; rfl
   | [(_ :: _, y)], h => cases (show (none : Option _) = some r from h)
   | (h1, _) :: _ :: _, h => cases h1 <;> cases (show (none : Option _) = some r from h)
  ·cases h
noncomputable def Z1c : Nat → Int → Int → List Int → ByteArray → ByteArray → Int → Option (Int × Int × List Int × ByteArray)
 | 0, _, _, _, _, _, _ => none
 | k + 1, b1_1, b1_2, o2, v1, v2, v7 =>
  if decide (v7 > (0 : Int)) = true then if decide ((↑(ByteArray.size v1) : Int) > (0 : Int)) = true then Option.bind (Z0 k (o2, b1_1, b1_2) (↑(ByteArray.size v1) : Int)) fun z1 => Option.bind (Z0 k (o2, Prod.fst z1.2, Prod.snd z1.2) (↑(ByteArray.size v2) : Int)) fun z2 => if (0 : Int) ≤ Prod.fst z2 then if Prod.fst z2 < (↑(ByteArray.size v2) : Int) then Option.bind (Z0 k (o2, Prod.fst z2.2, Prod.snd z2.2) (3 : Int)) fun z3 => if decide (Prod.fst z3 = (0 : Int)) = true then if (0 : Int) ≤ Prod.fst z1 then if Prod.fst z1 ≤ (↑(ByteArray.size v1) : Int) then if ByteArray.size (subS v1 (Int.toNat (0 : Int)) (Int.toNat z1.1)) + ByteArray.size (bytesOf [byteAt v2 (Int.toNat z2.1)]) ≤ (9223372036854775807 : Nat) then if (0 : Int) ≤ Prod.fst z1 then if Prod.fst z1 ≤ (↑(ByteArray.size v1) : Int) then if (↑(ByteArray.size v1) : Int) ≤ (↑(ByteArray.size v1) : Int) then if ByteArray.size (subS v1 (Int.toNat (0 : Int)) (Int.toNat z1.1) ++ bytesOf [byteAt v2 (Int.toNat z2.1)]) + ByteArray.size (subS v1 (Int.toNat z1.1) (Int.toNat (↑(ByteArray.size v1) : Int))) ≤ (9223372036854775807 : Nat) then Z1c k z3.2.1 z3.2.2 o2 (subS v1 (Int.toNat (0 : Int)) (Int.toNat z1.1) ++ bytesOf [byteAt v2 (Int.toNat z2.1)] ++ subS v1 (Int.toNat z1.1) (Int.toNat (↑(ByteArray.size v1) : Int))) v2 (wrap64 (v7 - (1 : Int))) else none else none else none else none else none else none else none else if decide (Prod.fst z3 = (1 : Int)) = true then if (0 : Int) ≤ Prod.fst z1 then if Prod.fst z1 ≤ (↑(ByteArray.size v1) : Int) then if ByteArray.size (subS v1 (Int.toNat (0 : Int)) (Int.toNat z1.1)) + ByteArray.size (bytesOf [byteAt v2 (Int.toNat z2.1)]) ≤ (9223372036854775807 : Nat) then if (0 : Int) ≤ wrap64 (Prod.fst z1 + (1 : Int)) then if wrap64 (Prod.fst z1 + (1 : Int)) ≤ (↑(ByteArray.size v1) : Int) then if (↑(ByteArray.size v1) : Int) ≤ (↑(ByteArray.size v1) : Int) then if ByteArray.size (subS v1 (Int.toNat (0 : Int)) (Int.toNat z1.1) ++ bytesOf [byteAt v2 (Int.toNat z2.1)]) + ByteArray.size (subS v1 (Int.toNat (wrap64 (Prod.fst z1 + (1 : Int)))) (Int.toNat (↑(ByteArray.size v1) : Int))) ≤ (9223372036854775807 : Nat) then Z1c k z3.2.1 z3.2.2 o2 (subS v1 (Int.toNat (0 : Int)) (Int.toNat z1.1) ++ bytesOf [byteAt v2 (Int.toNat z2.1)] ++ subS v1 (Int.toNat (wrap64 (Prod.fst z1 + (1 : Int)))) (Int.toNat (↑(ByteArray.size v1) : Int))) v2 (wrap64 (v7 - (1 : Int))) else none else none else none else none else none else none else none else if (0 : Int) ≤ Prod.fst z1 then if Prod.fst z1 ≤ (↑(ByteArray.size v1) : Int) then if (0 : Int) ≤ wrap64 (Prod.fst z1 + (1 : Int)) then if wrap64 (Prod.fst z1 + (1 : Int)) ≤ (↑(ByteArray.size v1) : Int) then if (↑(ByteArray.size v1) : Int) ≤ (↑(ByteArray.size v1) : Int) then if ByteArray.size (subS v1 (Int.toNat (0 : Int)) (Int.toNat z1.1)) + ByteArray.size (subS v1 (Int.toNat (wrap64 (Prod.fst z1 + (1 : Int)))) (Int.toNat (↑(ByteArray.size v1) : Int))) ≤ (9223372036854775807 : Nat) then Z1c k z3.2.1 z3.2.2 o2 (subS v1 (Int.toNat (0 : Int)) (Int.toNat z1.1) ++ subS v1 (Int.toNat (wrap64 (Prod.fst z1 + (1 : Int)))) (Int.toNat (↑(ByteArray.size v1) : Int))) v2 (wrap64 (v7 - (1 : Int))) else none else none else none else none else none else none else none else none else some (b1_1, b1_2, o2, v1) else some (b1_1, b1_2, o2, v1)
noncomputable def ZaP : Spec := Spec.mk [OSh.ro, OSh.box (82 : Nat) [Sh.sl (2 : Nat), Sh.int .i64, Sh.int .u64], OSh.fx (Ty.int .u8)] [((0 : Nat), TSh.at (Sh.ptr (1 : Nat) (0 : Nat))), ((1 : Nat), TSh.at Sh.str), ((2 : Nat), TSh.at Sh.str), ((7 : Nat), TSh.at (Sh.int .i64))]
noncomputable def Zp3 : Spec := Spec.mk [OSh.ro, OSh.box (82 : Nat) [Sh.sl (2 : Nat), Sh.int .i64, Sh.int .u64], OSh.fx (Ty.int .u8)] [((1 : Nat), TSh.at Sh.str)]
noncomputable def Z2Z : LoopDef (Tup Z4n × OutD) := .plain ZaP Zp3 (Int × Int × List Int × ByteArray) (fun k x => Z1c k x.1.2.1.2.1 x.1.2.1.2.2.1 x.1.2.2.1 x.2.2.1 x.2.2.2.1 x.2.2.2.2.1) (fun z => (((), ((), z.1, z.2.1, ()), z.2.2.1, ()), (z.2.2.2, ()))) (fun y => (y.1.2.1.2.1, y.1.2.1.2.2.1, y.1.2.2.1, y.2.1)) (fun _ => rfl)
noncomputable def Z6D : Nat → List Int × Int × Int → ByteArray → ByteArray → Option (ByteArray × Int × Int)
 | 0, _, _, _ => none
 | k + 1, p0, p1, p2 =>
  Option.bind (Z0 k (Prod.fst p0, Prod.fst p0.2, Prod.snd p0.2) (2 : Int)) fun z0 => Option.bind (Z1c k z0.2.1 z0.2.2 p0.1 p1 p2 (wrap64 ((1 : Int) + Prod.fst z0))) fun z4 => some (Prod.snd z4.2.2, Prod.fst z4, Prod.fst z4.2)
noncomputable def Z2f : FnDef := .of Zi0 Z4n (ByteArray × Int × Int) (fun k x => Z6D k x.1 x.2.1 x.2.2.1) ZhD ZbY ZnG
noncomputable def Z9K : Code := Tryz.f77.body.getD .skip
noncomputable def Z3i : Ctx (Tup Z4n × OutD) := { T := T, G := [(73, Za.E)], mvs := [], no := 2, n := 68, res := resOf T Zi0 Z4n Tryz.f77.results.toList, loops := [(0, Z2Z.E)], regs := [], conds := [], cuts := [] }
theorem Zia (k : Nat) : EnvOK Tryz.prog k Z3i.G := (EnvOK.cons (ZA k) (EnvOK.nil mixed))
noncomputable def Z7n : Code := (findLoop 0 Z9K).getD .skip
theorem Zph (k : Nat) (x : ZaP.D) : Z2Z.lp (k + 1) x = loopK Z3i Z2Z 0 Z7n k x := by kernel_rfl
theorem Zp0 (k : Nat) : LOK Tryz.prog Z3i k Z7n := LOK.by [] (by kernel_rfl) AllOK.nil
theorem Zpj (x : ZaP.D) : Z2Z.lp 0 x = none := by kernel_rfl
theorem ZnC (k : Nat) : EOK Tryz.prog Z3i k Z2Z.E (.block 0 (.loop Z7n)) := Zb T_ok Zia Zpj Zph Zp0 k
theorem Zue (k : Nat) (x : Tup Z2f.ps) : Z2f.f (k + 1) x = fnK Z2f Z3i Z9K k x := by kernel_rfl
theorem Zur (x : Tup Z2f.ps) : Z2f.f 0 x = none := by kernel_rfl
theorem Zuy (k : Nat) : LOK Tryz.prog Z3i k Z9K := LOK.by [(Z2Z.E, .block 0 (.loop Z7n))] (by kernel_rfl) (AllOK.cons (ZnC k) AllOK.nil)
theorem Zuk (k : Nat) : SoundAt Tryz.prog k 77 Z2f.E := @Z3 Tryz.prog Z2f Z3i 77 Tryz.f77 Z9K (by kernel_rfl) (by kernel_rfl) (by kernel_rfl) Tryz.func77 (by kernel_rfl) (by kernel_rfl) (by kernel_rfl) T_ok Zia Zuy Zur Zue k
noncomputable def Z6E : List PK := [PK.mk Ty.str false none false none, PK.mk Ty.bool false none false none]
noncomputable def ZhX : List PK := [PK.mk Ty.str false none false none, PK.mk Ty.str false none false none]
noncomputable def Zh6 (r : ByteArray × Bool) : Tup Z6E × OutD := ((r.1, r.2, ()), none)
noncomputable def Zhf : Tup Z6E × OutD → Option (ByteArray × Bool)
 | (a, none) => some (a.1, a.2.1)
 | _ => none
theorem Znr : ∀ b r, Zhf b = some r → Zh6 r = b := by
 rintro ⟨a, o⟩ r h
 cases o with
 | none => injection h with h; subst h; rfl
 | some _ => cases h
noncomputable def Z9E : Nat → ByteArray → ByteArray → Option (ByteArray × Bool)
 | 0, _, _ => none
 | k + 1, p0, p1 =>
  Option.bind (Z4S k p0 p1) fun z0 => some (Prod.fst z0, Prod.snd z0)
noncomputable def Z2g : FnDef := .of ZhX Z6E (ByteArray × Bool) (fun k x => Z9E k x.1 x.2.1) Zh6 Zhf Znr
noncomputable def Zd7 : Code := Tryz.f78.body.getD .skip
noncomputable def Z9N : Ctx (Tup Z6E × OutD) := { T := T, G := [(108, Zp.E)], mvs := [], no := 0, n := 11, res := resOf T ZhX Z6E Tryz.f78.results.toList, loops := [], regs := [], conds := [], cuts := [] }
theorem ZuI (k : Nat) : EnvOK Tryz.prog k Z9N.G := (EnvOK.cons (Zgb k) (EnvOK.nil mixed))
theorem Zub (k : Nat) (x : Tup Z2g.ps) : Z2g.f (k + 1) x = fnK Z2g Z9N Zd7 k x := by kernel_rfl
theorem Zvg (x : Tup Z2g.ps) : Z2g.f 0 x = none := by kernel_rfl
theorem Zuv (k : Nat) : LOK Tryz.prog Z9N k Zd7 := LOK.by [] (by kernel_rfl) AllOK.nil
theorem Zva (k : Nat) : SoundAt Tryz.prog k 78 Z2g.E := @Z3 Tryz.prog Z2g Z9N 78 Tryz.f78 Zd7 (by kernel_rfl) (by kernel_rfl) (by kernel_rfl) Tryz.func78 (by kernel_rfl) (by kernel_rfl) (by kernel_rfl) T_ok ZuI Zuv Zvg Zub k
noncomputable def Zbt : List PK := [PK.mk Ty.bool false none false none]
noncomputable def Zrg : List PK := [PK.mk (Ty.pair (Ty.int .i64) (Ty.pair (Ty.int .i64) (Ty.slice (122 : Nat) (Ty.pair (Ty.int .i64) (Ty.int .i64))))) true none false none]
noncomputable def ZoO (r : Bool) : Tup Zbt × OutD := ((r, ()), none)
noncomputable def Zof : Tup Zbt × OutD → Option (Bool)
 | (a, none) => some (a.1)
 | _ => none
theorem ZvZ : ∀ b r, Zof b = some r → ZoO r = b := by
 rintro ⟨a, o⟩ r h
 cases o with
 | none => injection h with h; subst h; rfl
 | some _ => cases h
noncomputable def Z6Z : Nat → Int × Int × List (Int × Int) → Option Bool
 | 0, _ => none
 | k + 1, p0 =>
  if decide (Prod.fst p0 ≥ (1 : Int)) = true then if decide (Prod.fst p0 ≤ (10 : Int)) = true then if decide (Prod.fst p0.2 ≥ (1 : Int)) = true then if decide (Prod.fst p0.2 ≤ (9 : Int)) = true then if decide ((↑(List.length p0.2.2) : Int) = wrap64 (Prod.fst p0 * Prod.fst p0.2)) = true then Option.bind (Zb2 k p0.2.2) fun z0 => some z0 else some false else some false else some false else some false else some false
noncomputable def Z2u : FnDef := .of Zrg Zbt (Bool) (fun k x => Z6Z k x.1) ZoO Zof ZvZ
noncomputable def ZiE : Code := Tryz.f83.body.getD .skip
noncomputable def Zea : Ctx (Tup Zbt × OutD) := { T := T, G := [(109, Z38.E)], mvs := [], no := 0, n := 37, res := resOf T Zrg Zbt Tryz.f83.results.toList, loops := [], regs := [], conds := [], cuts := [] }
theorem ZDi (k : Nat) : EnvOK Tryz.prog k Zea.G := (EnvOK.cons (Zy8 k) (EnvOK.nil mixed))
theorem ZCE (k : Nat) (x : Tup Z2u.ps) : Z2u.f (k + 1) x = fnK Z2u Zea ZiE k x := by kernel_rfl
theorem ZDL (x : Tup Z2u.ps) : Z2u.f 0 x = none := by kernel_rfl
theorem ZDz (k : Nat) : LOK Tryz.prog Zea k ZiE := LOK.by [] (by kernel_rfl) AllOK.nil
theorem Zeb (k : Nat) : SoundAt Tryz.prog k 83 Z2u.E := @Z3 Tryz.prog Z2u Zea 83 Tryz.f83 ZiE (by kernel_rfl) (by kernel_rfl) (by kernel_rfl) Tryz.func83 (by kernel_rfl) (by kernel_rfl) (by kernel_rfl) T_ok ZDi ZDz ZDL ZCE k
noncomputable def Za5 : List PK := [PK.mk Ty.bool false none false none]
noncomputable def ZtK : List PK := [PK.mk (Ty.pair (Ty.int .i64) (Ty.pair (Ty.int .i64) (Ty.slice (122 : Nat) (Ty.pair (Ty.int .i64) (Ty.int .i64))))) true none false none]
noncomputable def Zig (r : Bool) : Tup Za5 × OutD := ((r, ()), none)
noncomputable def ZiK : Tup Za5 × OutD → Option (Bool)
 | (a, none) => some (a.1)
 | _ => none
theorem Zku : ∀ b r, ZiK b = some r → Zig r = b := by
 rintro ⟨a, o⟩ r h
 cases o with
 | none => injection h with h; subst h; rfl
 | some _ => cases h
noncomputable def Z7J : Nat → List (Int × Int) → Int → Int → Option (LR Unit Bool)
 | 0, _, _, _ => none
 | k + 1, v27, v28, v29 =>
  if decide (v29 < v28) = true then if (0 : Int) ≤ v29 then if v29 < (↑(List.length v27) : Int) then Option.bind (Zfr k (Prod.fst (List.getD v27 (Int.toNat v29) ((0 : Int), (0 : Int))), Prod.snd (List.getD v27 (Int.toNat v29) ((0 : Int), (0 : Int))))) fun z2 => if (!z2) = true then some (LR.ret false) else Z7J k v27 v28 (wrap64 (v29 + (1 : Int))) else none else none else some (LR.go ())
noncomputable def Zg7 : Spec := Spec.mk [OSh.ro] [((27 : Nat), TSh.at (Sh.snap (0 : Nat) (Ty.pair (Ty.int .i64) (Ty.int .i64)))), ((28 : Nat), TSh.at (Sh.int .i64)), ((29 : Nat), TSh.at (Sh.int .i64))]
noncomputable def ZAz : Spec := Spec.mk [OSh.ro] []
noncomputable def Z75 : LoopDef (Tup Za5 × OutD) := .rets Zg7 ZAz (Unit) (Bool) (fun k x => Z7J k x.2.1 x.2.2.1 x.2.2.2.1) (fun z => (((), ()), (()))) (fun y => ()) (fun _ => rfl) Zig ZiK Zku
noncomputable def Zaf : Nat → Int × Int × List (Int × Int) → Option Bool
 | 0, _ => none
 | k + 1, p0 =>
  Option.bind (Z1L k p0.1 (1 : Int) (10 : Int)) fun z0 => if (!z0) = true then some false else Option.bind (Z1L k p0.2.1 (1 : Int) (9 : Int)) fun z1 => if (!z1) = true then some false else if decide ((↑(List.length p0.2.2) : Int) ≠ wrap64 (Prod.fst p0 * Prod.fst p0.2)) = true then some false else Option.bind (Z7J k p0.2.2 (↑(List.length p0.2.2) : Int) (0 : Int)) fun z3 => LR.on z3 (fun y3 => some true) fun r3 => some r3
noncomputable def Z3M : FnDef := .of ZtK Za5 (Bool) (fun k x => Zaf k x.1) Zig ZiK Zku
noncomputable def Zfy : Code := Tryz.f84.body.getD .skip
noncomputable def Z82 : Ctx (Tup Za5 × OutD) := { T := T, G := [(59, Z25.E), (110, Z6o.E)], mvs := [], no := 0, n := 37, res := resOf T ZtK Za5 Tryz.f84.results.toList, loops := [(0, Z75.E)], regs := [], conds := [], cuts := [] }
theorem ZtM (k : Nat) : EnvOK Tryz.prog k Z82.G := (EnvOK.cons (Z8I k) (EnvOK.cons (ZF6 k) (EnvOK.nil mixed)))
noncomputable def ZbV : Code := (findLoop 0 Zfy).getD .skip
theorem ZB3 (k : Nat) (x : Zg7.D) : Z75.lp (k + 1) x = loopK Z82 Z75 0 ZbV k x := by kernel_rfl
theorem ZAh (k : Nat) : LOK Tryz.prog Z82 k ZbV := LOK.by [] (by kernel_rfl) AllOK.nil
theorem Zz2 (x : Zg7.D) : Z75.lp 0 x = none := by kernel_rfl
theorem Zyh (k : Nat) : EOK Tryz.prog Z82 k Z75.E (.block 0 (.loop ZbV)) := Zb T_ok ZtM Zz2 ZB3 ZAh k
theorem ZEj (k : Nat) (x : Tup Z3M.ps) : Z3M.f (k + 1) x = fnK Z3M Z82 Zfy k x := by kernel_rfl
theorem ZEa (x : Tup Z3M.ps) : Z3M.f 0 x = none := by kernel_rfl
theorem ZEZ (k : Nat) : LOK Tryz.prog Z82 k Zfy := LOK.by [(Z75.E, .block 0 (.loop ZbV))] (by kernel_rfl) (AllOK.cons (Zyh k) AllOK.nil)
theorem ZjG (k : Nat) : SoundAt Tryz.prog k 84 Z3M.E := @Z3 Tryz.prog Z3M Z82 84 Tryz.f84 Zfy (by kernel_rfl) (by kernel_rfl) (by kernel_rfl) Tryz.func84 (by kernel_rfl) (by kernel_rfl) (by kernel_rfl) T_ok ZtM ZEZ ZEa ZEj k
noncomputable def Z45 : List PK := [PK.mk Ty.str false none false none]
noncomputable def ZeF : List PK := [PK.mk (Ty.int .i64) false none false none]
noncomputable def ZdP (r : ByteArray) : Tup Z45 × OutD := ((r, ()), none)
noncomputable def ZdR : Tup Z45 × OutD → Option (ByteArray)
 | (a, none) => some (a.1)
 | _ => none
theorem Zjd : ∀ b r, ZdR b = some r → ZdP r = b := by
 rintro ⟨a, o⟩ r h
 cases o with
 | none => injection h with h; subst h; rfl
 | some _ => cases h
noncomputable def Zey : Nat → Int → Option ByteArray
 | 0, _ => none
 | k + 1, p0 =>
  Option.bind (Z6W k p0 (10 : Int)) fun z0 => some z0
noncomputable def Z1i : FnDef := .of ZeF Z45 (ByteArray) (fun k x => Zey k x.1) ZdP ZdR Zjd
noncomputable def Za1 : Code := Tryz.f94.body.getD .skip
noncomputable def Z6y : Ctx (Tup Z45 × OutD) := { T := T, G := [(120, ZJ.E)], mvs := [], no := 0, n := 5, res := resOf T ZeF Z45 Tryz.f94.results.toList, loops := [], regs := [], conds := [], cuts := [] }
theorem Zo2 (k : Nat) : EnvOK Tryz.prog k Z6y.G := (EnvOK.cons (ZiL k) (EnvOK.nil mixed))
theorem Znz (k : Nat) (x : Tup Z1i.ps) : Z1i.f (k + 1) x = fnK Z1i Z6y Za1 k x := by kernel_rfl
theorem Zo1 (x : Tup Z1i.ps) : Z1i.f 0 x = none := by kernel_rfl
theorem Znx (k : Nat) : LOK Tryz.prog Z6y k Za1 := LOK.by [] (by kernel_rfl) AllOK.nil
theorem ZnJ (k : Nat) : SoundAt Tryz.prog k 94 Z1i.E := @Z3 Tryz.prog Z1i Z6y 94 Tryz.f94 Za1 (by kernel_rfl) (by kernel_rfl) (by kernel_rfl) Tryz.func94 (by kernel_rfl) (by kernel_rfl) (by kernel_rfl) T_ok Zo2 Znx Zo1 Znz k
noncomputable def Z9l : List PK := [PK.mk Ty.bool false none false none]
noncomputable def Zmo : List PK := [PK.mk (Ty.pair (Ty.slice (5 : Nat) (Ty.int .u8)) (Ty.pair (Ty.int .i64) (Ty.int .u64))) false none false (some (82 : Nat)), PK.mk (Ty.int .i64) false none false none]
noncomputable def Zki (r : Bool × Int × Int) : Tup Z9l × OutD := ((r.1, ()), some ⟨Ty.pair (Ty.slice (5 : Nat) (Ty.int .u8)) (Ty.pair (Ty.int .i64) (Ty.int .u64)), [([], r.2)]⟩)
noncomputable def ZeI : Tup Z9l × OutD → Option (Bool × Int × Int)
 | (a, some ⟨u, ys⟩) => if h : u = Ty.pair (Ty.slice (5 : Nat) (Ty.int .u8)) (Ty.pair (Ty.int .i64) (Ty.int .u64)) then (match castU h ys with
  | [([], y)] => some (a.1, y)
  | _ => none) else none
 | _ => none
theorem Zs5 : ∀ b r, ZeI b = some r → Zki r = b := by
 rintro ⟨a, o⟩ r h
 cases o with
 | none => cases h
 | some s =>
  obtain ⟨u, ys⟩ := s
  simp only [ZeI] at h
  split at h
  ·rename_i hu
   subst hu
   match ys, h with
   | [], h => cases (show (none : Option _) = some r from h)
   | [([], y)], h => injection (show some _ = some r from h) with h; subst h; rfl
   | [(_ :: _, y)], h => cases (show (none : Option _) = some r from h)
   | (h1, _) :: _ :: _, h => cases h1 <;> cases (show (none : Option _) = some r from h)
  ·cases h
noncomputable def Zr : Nat → List Int × Int × Int → Int → Option (Bool × Int × Int)
 | 0, _, _ => none
 | k + 1, p0, p1 =>
  Option.bind (Z0 k (Prod.fst p0, Prod.fst p0.2, Prod.snd p0.2) p1) fun z0 => some (decide (Prod.fst z0 = (0 : Int)), Prod.fst z0.2, Prod.snd z0.2)
noncomputable def Z1f : FnDef := .of Zmo Z9l (Bool × Int × Int) (fun k x => Zr k x.1 x.2.1) Zki ZeI Zs5
noncomputable def ZfP : Code := Tryz.f97.body.getD .skip
noncomputable def ZbW : Ctx (Tup Z9l × OutD) := { T := T, G := [(73, Za.E)], mvs := [], no := 2, n := 9, res := resOf T Zmo Z9l Tryz.f97.results.toList, loops := [], regs := [], conds := [], cuts := [] }
theorem ZyW (k : Nat) : EnvOK Tryz.prog k ZbW.G := (EnvOK.cons (ZA k) (EnvOK.nil mixed))
theorem ZAg (k : Nat) (x : Tup Z1f.ps) : Z1f.f (k + 1) x = fnK Z1f ZbW ZfP k x := by kernel_rfl
theorem Zz7 (x : Tup Z1f.ps) : Z1f.f 0 x = none := by kernel_rfl
theorem ZzM (k : Nat) : LOK Tryz.prog ZbW k ZfP := LOK.by [] (by kernel_rfl) AllOK.nil
theorem Z9y (k : Nat) : SoundAt Tryz.prog k 97 Z1f.E := @Z3 Tryz.prog Z1f ZbW 97 Tryz.f97 ZfP (by kernel_rfl) (by kernel_rfl) (by kernel_rfl) Tryz.func97 (by kernel_rfl) (by kernel_rfl) (by kernel_rfl) T_ok ZyW ZzM Zz7 ZAg k
noncomputable def Zbp : List PK := [PK.mk Ty.bool false none false none]
noncomputable def ZqY : List PK := [PK.mk (Ty.pair (Ty.int .i64) (Ty.int .i64)) true none false none, PK.mk (Ty.int .i64) false none false none]
noncomputable def Zoh (r : Bool) : Tup Zbp × OutD := ((r, ()), none)
noncomputable def Zon : Tup Zbp × OutD → Option (Bool)
 | (a, none) => some (a.1)
 | _ => none
theorem ZwJ : ∀ b r, Zon b = some r → Zoh r = b := by
 rintro ⟨a, o⟩ r h
 cases o with
 | none => injection h with h; subst h; rfl
 | some _ => cases h
noncomputable def ZbD : Nat → Int × Int → Int → Option Bool
 | 0, _, _ => none
 | k + 1, p0, p1 =>
  if decide (p1 = (1 : Int)) = true then Option.bind (Z2P k (Prod.fst p0, Prod.snd p0)) fun z0 => some z0 else if decide (p1 = (2 : Int)) = true then some true else if decide (p1 = (3 : Int)) = true then Option.bind (Z2P k (Prod.fst p0, Prod.snd p0)) fun z1 => if z1 = true then some true else if decide (Prod.fst p0 = (1 : Int)) = true then some true else some (decide (Prod.fst p0 = (2 : Int))) else some false
noncomputable def Z3Z : FnDef := .of ZqY Zbp (Bool) (fun k x => ZbD k x.1 x.2.1) Zoh Zon ZwJ
noncomputable def Zix : Code := Tryz.f101.body.getD .skip
noncomputable def Zem : Ctx (Tup Zbp × OutD) := { T := T, G := [(126, Z2Q.E)], mvs := [], no := 0, n := 26, res := resOf T ZqY Zbp Tryz.f101.results.toList, loops := [], regs := [], conds := [], cuts := [] }
theorem ZDa (k : Nat) : EnvOK Tryz.prog k Zem.G := (EnvOK.cons (Zmj k) (EnvOK.nil mixed))
theorem ZDj (k : Nat) (x : Tup Z3Z.ps) : Z3Z.f (k + 1) x = fnK Z3Z Zem Zix k x := by kernel_rfl
theorem ZDF (x : Tup Z3Z.ps) : Z3Z.f 0 x = none := by kernel_rfl
theorem ZDw (k : Nat) : LOK Tryz.prog Zem k Zix := LOK.by [] (by kernel_rfl) AllOK.nil
theorem Zrn (k : Nat) : SoundAt Tryz.prog k 101 Z3Z.E := @Z3 Tryz.prog Z3Z Zem 101 Tryz.f101 Zix (by kernel_rfl) (by kernel_rfl) (by kernel_rfl) Tryz.func101 (by kernel_rfl) (by kernel_rfl) (by kernel_rfl) T_ok ZDa ZDw ZDF ZDj k
noncomputable def Z7r : List PK := [PK.mk (Ty.pair (Ty.int .i64) (Ty.pair (Ty.int .i64) (Ty.int .i64))) true none false none, PK.mk (Ty.pair (Ty.int .i64) (Ty.pair (Ty.int .i64) (Ty.slice (122 : Nat) (Ty.pair (Ty.int .i64) (Ty.int .i64))))) true none false none, PK.mk (Ty.slice (27 : Nat) (Ty.slice (3 : Nat) (Ty.int .i64))) false none false none]
noncomputable def ZyN : List PK := [PK.mk (Ty.pair (Ty.int .i64) (Ty.pair (Ty.int .i64) (Ty.slice (122 : Nat) (Ty.pair (Ty.int .i64) (Ty.int .i64))))) true none false none, PK.mk (Ty.slice (3 : Nat) (Ty.int .i64)) false none false none, PK.mk (Ty.int .i64) false none false none]
noncomputable def ZlL (r : (Int × Int × Int) × (Int × Int × List (Int × Int)) × List (List Int)) : Tup Z7r × OutD := ((r.1, r.2.1, r.2.2, ()), none)
noncomputable def Zlv : Tup Z7r × OutD → Option ((Int × Int × Int) × (Int × Int × List (Int × Int)) × List (List Int))
 | (a, none) => some (a.1, a.2.1, a.2.2.1)
 | _ => none
theorem ZoL : ∀ b r, Zlv b = some r → ZlL r = b := by
 rintro ⟨a, o⟩ r h
 cases o with
 | none => injection h with h; subst h; rfl
 | some _ => cases h
noncomputable def Z5y : Nat → Int → Int → Int → Int → Int → List (Int × Int) → Int → Int → List (Int × Int) → List (List Int) → Int → Int → Option (Int × Int × Int × Int × Int × List (Int × Int) × List (List Int)) := fun k b1_0 b1_1 b1_2 b2_0 b2_1 o3 b4_0 b4_1 o5 o6 v2 v12 =>
    some ((2 : Int), v12, v2, b4_0, b4_1, o5, o6)
noncomputable def ZcF : Nat → Int → Int → Int → Int → Int → List (Int × Int) → Int → Int → List (Int × Int) → List (List Int) → Int → Int → Option (List (Int × Int × Int × Int × Int × List (Int × Int) × List (List Int))) := fun k b1_0 b1_1 b1_2 b2_0 b2_1 o3 b4_0 b4_1 o5 o6 v2 v12 =>
    joinL (some [((2 : Int), v12, v2, b4_0, b4_1, o5, o6)]) (some [((2 : Int), v12, v2, b4_0, b4_1, o5, o6)])
noncomputable def Zme : Spec := Spec.mk [OSh.ro, OSh.box (67 : Nat) [Sh.int .i64, Sh.int .i64, Sh.int .i64], OSh.box (26 : Nat) [Sh.int .i64, Sh.int .i64, Sh.sl (3 : Nat)], OSh.row true (122 : Nat) (Ty.pair (Ty.int .i64) (Ty.int .i64)), OSh.box (26 : Nat) [Sh.int .i64, Sh.int .i64, Sh.sl (5 : Nat)], OSh.row true (122 : Nat) (Ty.pair (Ty.int .i64) (Ty.int .i64)), OSh.row true (27 : Nat) (Ty.slice (3 : Nat) (Ty.int .i64))] [((2 : Nat), TSh.at (Sh.int .i64)), ((6 : Nat), TSh.at (Sh.ptr (1 : Nat) (0 : Nat))), ((7 : Nat), TSh.at (Sh.ptr (2 : Nat) (0 : Nat))), ((9 : Nat), TSh.at (Sh.ptr (4 : Nat) (0 : Nat))), ((10 : Nat), TSh.at (Sh.sl (6 : Nat))), ((12 : Nat), TSh.at (Sh.int .i64))]
noncomputable def ZAi : Spec := Spec.mk [OSh.ro, OSh.box (67 : Nat) [Sh.int .i64, Sh.int .i64, Sh.int .i64], OSh.box (26 : Nat) [Sh.int .i64, Sh.int .i64, Sh.sl (3 : Nat)], OSh.row true (122 : Nat) (Ty.pair (Ty.int .i64) (Ty.int .i64)), OSh.row true (27 : Nat) (Ty.slice (3 : Nat) (Ty.int .i64))] [((6 : Nat), TSh.at (Sh.ptr (1 : Nat) (0 : Nat))), ((7 : Nat), TSh.at (Sh.ptr (2 : Nat) (0 : Nat))), ((8 : Nat), TSh.at (Sh.sl (4 : Nat)))]
noncomputable def Z6N : LoopDef (Tup Z7r × OutD) := .plain Zme ZAi (Int × Int × Int × Int × Int × List (Int × Int) × List (List Int)) (fun k x => Z5y k x.1.2.1.1 x.1.2.1.2.1 x.1.2.1.2.2.1 x.1.2.2.1.1 x.1.2.2.1.2.1 x.1.2.2.2.1 x.1.2.2.2.2.1.1 x.1.2.2.2.2.1.2.1 x.1.2.2.2.2.2.1 x.1.2.2.2.2.2.2.1 x.2.1 x.2.2.2.2.2.2.1) (fun z => (((), (z.1, z.2.1, z.2.2.1, ()), (z.2.2.2.1, z.2.2.2.2.1, (), ()), z.2.2.2.2.2.1, z.2.2.2.2.2.2, ()), ((), (), (), ()))) (fun y => (y.1.2.1.1, y.1.2.1.2.1, y.1.2.1.2.2.1, y.1.2.2.1.1, y.1.2.2.1.2.1, y.1.2.2.2.1, y.1.2.2.2.2.1)) (fun _ => rfl)
theorem ZA4 (k : Nat) (b1_0 : Int) (b1_1 : Int) (b1_2 : Int) (b2_0 : Int) (b2_1 : Int) (o3 : List (Int × Int)) (b4_0 : Int) (b4_1 : Int) (o5 : List (Int × Int)) (o6 : List (List Int)) (v2 : Int) (v12 : Int) : ZcF k b1_0 b1_1 b1_2 b2_0 b2_1 o3 b4_0 b4_1 o5 o6 v2 v12 = repl 2 (Z5y k b1_0 b1_1 b1_2 b2_0 b2_1 o3 b4_0 b4_1 o5 o6 v2 v12) := by
 first
 | (simp only [ZcF, Z5y, Zd, Zi, Zf, Zg, Ze, Z4, if_true]; done)
 | (simp only [ZcF, Z5y, Zd, Zi, Zf, Zg, Ze, Z4, if_true]; simp only [Z1n, Z1o, Z2J, Z4]; simp only [Z44]; exact Z22 ⟨fun h => by simp only [h, and_self], fun h => by simp only [h, and_self]⟩)
noncomputable def Z5C : Nat → Int → Int → Int → Int → Int → List (Int × Int) → Int → Int → List (Int × Int) → List (List Int) → Int → Int → Option (Int × Int × Int × Int × Int × List (Int × Int) × List (List Int)) := fun k b1_0 b1_1 b1_2 b2_0 b2_1 o3 b4_0 b4_1 o5 o6 v2 v12 =>
    some ((3 : Int), v12, v2, b4_0, b4_1, o5, o6)
noncomputable def ZbJ : Nat → Int → Int → Int → Int → Int → List (Int × Int) → Int → Int → List (Int × Int) → List (List Int) → Int → Int → Option (List (Int × Int × Int × Int × Int × List (Int × Int) × List (List Int))) := fun k b1_0 b1_1 b1_2 b2_0 b2_1 o3 b4_0 b4_1 o5 o6 v2 v12 =>
    joinL (some [((3 : Int), v12, v2, b4_0, b4_1, o5, o6)]) (some [((3 : Int), v12, v2, b4_0, b4_1, o5, o6)])
noncomputable def ZlI : Spec := Spec.mk [OSh.ro, OSh.box (67 : Nat) [Sh.int .i64, Sh.int .i64, Sh.int .i64], OSh.box (26 : Nat) [Sh.int .i64, Sh.int .i64, Sh.sl (3 : Nat)], OSh.row true (122 : Nat) (Ty.pair (Ty.int .i64) (Ty.int .i64)), OSh.box (26 : Nat) [Sh.int .i64, Sh.int .i64, Sh.sl (5 : Nat)], OSh.row true (122 : Nat) (Ty.pair (Ty.int .i64) (Ty.int .i64)), OSh.row true (27 : Nat) (Ty.slice (3 : Nat) (Ty.int .i64))] [((2 : Nat), TSh.at (Sh.int .i64)), ((6 : Nat), TSh.at (Sh.ptr (1 : Nat) (0 : Nat))), ((7 : Nat), TSh.at (Sh.ptr (2 : Nat) (0 : Nat))), ((9 : Nat), TSh.at (Sh.ptr (4 : Nat) (0 : Nat))), ((10 : Nat), TSh.at (Sh.sl (6 : Nat))), ((12 : Nat), TSh.at (Sh.int .i64))]
noncomputable def Zzn : Spec := Spec.mk [OSh.ro, OSh.box (67 : Nat) [Sh.int .i64, Sh.int .i64, Sh.int .i64], OSh.box (26 : Nat) [Sh.int .i64, Sh.int .i64, Sh.sl (3 : Nat)], OSh.row true (122 : Nat) (Ty.pair (Ty.int .i64) (Ty.int .i64)), OSh.row true (27 : Nat) (Ty.slice (3 : Nat) (Ty.int .i64))] [((6 : Nat), TSh.at (Sh.ptr (1 : Nat) (0 : Nat))), ((7 : Nat), TSh.at (Sh.ptr (2 : Nat) (0 : Nat))), ((8 : Nat), TSh.at (Sh.sl (4 : Nat)))]
noncomputable def Z6H : LoopDef (Tup Z7r × OutD) := .plain ZlI Zzn (Int × Int × Int × Int × Int × List (Int × Int) × List (List Int)) (fun k x => Z5C k x.1.2.1.1 x.1.2.1.2.1 x.1.2.1.2.2.1 x.1.2.2.1.1 x.1.2.2.1.2.1 x.1.2.2.2.1 x.1.2.2.2.2.1.1 x.1.2.2.2.2.1.2.1 x.1.2.2.2.2.2.1 x.1.2.2.2.2.2.2.1 x.2.1 x.2.2.2.2.2.2.1) (fun z => (((), (z.1, z.2.1, z.2.2.1, ()), (z.2.2.2.1, z.2.2.2.2.1, (), ()), z.2.2.2.2.2.1, z.2.2.2.2.2.2, ()), ((), (), (), ()))) (fun y => (y.1.2.1.1, y.1.2.1.2.1, y.1.2.1.2.2.1, y.1.2.2.1.1, y.1.2.2.1.2.1, y.1.2.2.2.1, y.1.2.2.2.2.1)) (fun _ => rfl)
theorem ZzC (k : Nat) (b1_0 : Int) (b1_1 : Int) (b1_2 : Int) (b2_0 : Int) (b2_1 : Int) (o3 : List (Int × Int)) (b4_0 : Int) (b4_1 : Int) (o5 : List (Int × Int)) (o6 : List (List Int)) (v2 : Int) (v12 : Int) : ZbJ k b1_0 b1_1 b1_2 b2_0 b2_1 o3 b4_0 b4_1 o5 o6 v2 v12 = repl 2 (Z5C k b1_0 b1_1 b1_2 b2_0 b2_1 o3 b4_0 b4_1 o5 o6 v2 v12) := by
 first
 | (simp only [ZbJ, Z5C, Zd, Zi, Zf, Zg, Ze, Z4, if_true]; done)
 | (simp only [ZbJ, Z5C, Zd, Zi, Zf, Zg, Ze, Z4, if_true]; simp only [Z1n, Z1o, Z2J, Z4]; simp only [Z44]; exact Z22 ⟨fun h => by simp only [h, and_self], fun h => by simp only [h, and_self]⟩)
noncomputable def Z6p : Nat → Int → Int → List (Int × Int) → Int → Int → Int → Int → Int → List (Int × Int) → Int → Int → List (Int × Int) → List (List Int) → List Int → Int → Int → Int → Option (LR (Int × Int × List (Int × Int) × Int × Int × Int × Int × Int × List (Int × Int) × Int × Int × List (Int × Int) × List (List Int) × Int) ((Int × Int × Int) × (Int × Int × List (Int × Int)) × List (List Int)))
 | 0, _, _, _, _, _, _, _, _, _, _, _, _, _, _, _, _, _ => none
 | k + 1, b1_0, b1_1, b1_2, b2_0, b2_1, b2_2, b3_0, b3_1, o4, b5_0, b5_1, o6, o7, v1, v2, v11, v12 =>
  if decide (v12 < b1_0) = true then if List.length o7 + List.length [[v12, v2]] ≤ (140737488355328 / 24 : Nat) then Option.bind (Z4E k (b5_0, b5_1, o6) v12 v2) fun z1 => if decide (Prod.fst z1 = (5 : Int)) = true then Option.bind (Z5y k b2_0 b2_1 b2_2 b3_0 b3_1 o4 b5_0 b5_1 o6 (o7 ++ [[v12, v2]]) v2 v12) fun z2 => some (LR.ret ((Prod.fst z2, Prod.fst z2.2, Prod.fst z2.2.2), (Prod.fst z2.2.2.2, Prod.fst z2.2.2.2.2, Prod.fst z2.2.2.2.2.2), Prod.snd z2.2.2.2.2.2)) else Option.bind (Zae k (Prod.fst z1, Prod.snd z1) v11) fun z3 => Option.bind (Zad k (b5_0, b5_1, o6) v1 (wrap64 (wrap64 (v12 * b1_1) + v2))) fun z4 => Option.bind (Z1L k (wrap64 (v2 + z3)) (0 : Int) (wrap64 (b1_1 - (1 : Int)))) fun z5 => if (!z5) = true then Option.bind (Z5C k b2_0 b2_1 b2_2 b3_0 b3_1 o4 b5_0 b5_1 z4 (o7 ++ [[v12, v2]]) (wrap64 (v2 + z3)) v12) fun z6 => some (LR.ret ((Prod.fst z6, Prod.fst z6.2, Prod.fst z6.2.2), (Prod.fst z6.2.2.2, Prod.fst z6.2.2.2.2, Prod.fst z6.2.2.2.2.2), Prod.snd z6.2.2.2.2.2)) else Z6p k b1_0 b1_1 b1_2 b2_0 b2_1 b2_2 b3_0 b3_1 o4 b5_0 b5_1 z4 (o7 ++ [[v12, v2]]) v1 (wrap64 (v2 + z3)) (wrap64 ((0 : Int) - z3)) (wrap64 (v12 + (1 : Int))) else none else some (LR.go (b1_0, b1_1, b1_2, b2_0, b2_1, b2_2, b3_0, b3_1, o4, b5_0, b5_1, o6, o7, v2))
noncomputable def ZiJ : Spec := Spec.mk [OSh.ro, OSh.box (26 : Nat) [Sh.int .i64, Sh.int .i64, Sh.snap (0 : Nat) (Ty.pair (Ty.int .i64) (Ty.int .i64))], OSh.box (67 : Nat) [Sh.int .i64, Sh.int .i64, Sh.int .i64], OSh.box (26 : Nat) [Sh.int .i64, Sh.int .i64, Sh.sl (4 : Nat)], OSh.row true (122 : Nat) (Ty.pair (Ty.int .i64) (Ty.int .i64)), OSh.box (26 : Nat) [Sh.int .i64, Sh.int .i64, Sh.sl (6 : Nat)], OSh.row true (122 : Nat) (Ty.pair (Ty.int .i64) (Ty.int .i64)), OSh.row true (27 : Nat) (Ty.slice (3 : Nat) (Ty.int .i64))] [((1 : Nat), TSh.at (Sh.snap (0 : Nat) (Ty.int .i64))), ((2 : Nat), TSh.at (Sh.int .i64)), ((3 : Nat), TSh.at (Sh.ptr (1 : Nat) (0 : Nat))), ((6 : Nat), TSh.at (Sh.ptr (2 : Nat) (0 : Nat))), ((7 : Nat), TSh.at (Sh.ptr (3 : Nat) (0 : Nat))), ((9 : Nat), TSh.at (Sh.ptr (5 : Nat) (0 : Nat))), ((10 : Nat), TSh.at (Sh.sl (7 : Nat))), ((11 : Nat), TSh.at (Sh.int .i64)), ((12 : Nat), TSh.at (Sh.int .i64))]
noncomputable def ZDC : Spec := Spec.mk [OSh.ro, OSh.box (26 : Nat) [Sh.int .i64, Sh.int .i64, Sh.snap (0 : Nat) (Ty.pair (Ty.int .i64) (Ty.int .i64))], OSh.box (67 : Nat) [Sh.int .i64, Sh.int .i64, Sh.int .i64], OSh.box (26 : Nat) [Sh.int .i64, Sh.int .i64, Sh.sl (4 : Nat)], OSh.row true (122 : Nat) (Ty.pair (Ty.int .i64) (Ty.int .i64)), OSh.box (26 : Nat) [Sh.int .i64, Sh.int .i64, Sh.sl (6 : Nat)], OSh.row true (122 : Nat) (Ty.pair (Ty.int .i64) (Ty.int .i64)), OSh.row true (27 : Nat) (Ty.slice (3 : Nat) (Ty.int .i64))] [((2 : Nat), TSh.at (Sh.int .i64)), ((3 : Nat), TSh.at (Sh.ptr (1 : Nat) (0 : Nat))), ((6 : Nat), TSh.at (Sh.ptr (2 : Nat) (0 : Nat))), ((7 : Nat), TSh.at (Sh.ptr (3 : Nat) (0 : Nat))), ((9 : Nat), TSh.at (Sh.ptr (5 : Nat) (0 : Nat))), ((10 : Nat), TSh.at (Sh.sl (7 : Nat)))]
noncomputable def Z91 : LoopDef (Tup Z7r × OutD) := .rets ZiJ ZDC (Int × Int × List (Int × Int) × Int × Int × Int × Int × Int × List (Int × Int) × Int × Int × List (Int × Int) × List (List Int) × Int) ((Int × Int × Int) × (Int × Int × List (Int × Int)) × List (List Int)) (fun k x => Z6p k x.1.2.1.1 x.1.2.1.2.1 x.1.2.1.2.2.1 x.1.2.2.1.1 x.1.2.2.1.2.1 x.1.2.2.1.2.2.1 x.1.2.2.2.1.1 x.1.2.2.2.1.2.1 x.1.2.2.2.2.1 x.1.2.2.2.2.2.1.1 x.1.2.2.2.2.2.1.2.1 x.1.2.2.2.2.2.2.1 x.1.2.2.2.2.2.2.2.1 x.2.1 x.2.2.1 x.2.2.2.2.2.2.2.2.1 x.2.2.2.2.2.2.2.2.2.1) (fun z => (((), (z.1, z.2.1, z.2.2.1, ()), (z.2.2.2.1, z.2.2.2.2.1, z.2.2.2.2.2.1, ()), (z.2.2.2.2.2.2.1, z.2.2.2.2.2.2.2.1, (), ()), z.2.2.2.2.2.2.2.2.1, (z.2.2.2.2.2.2.2.2.2.1, z.2.2.2.2.2.2.2.2.2.2.1, (), ()), z.2.2.2.2.2.2.2.2.2.2.2.1, z.2.2.2.2.2.2.2.2.2.2.2.2.1, ()), (z.2.2.2.2.2.2.2.2.2.2.2.2.2, (), (), (), (), (), ()))) (fun y => (y.1.2.1.1, y.1.2.1.2.1, y.1.2.1.2.2.1, y.1.2.2.1.1, y.1.2.2.1.2.1, y.1.2.2.1.2.2.1, y.1.2.2.2.1.1, y.1.2.2.2.1.2.1, y.1.2.2.2.2.1, y.1.2.2.2.2.2.1.1, y.1.2.2.2.2.2.1.2.1, y.1.2.2.2.2.2.2.1, y.1.2.2.2.2.2.2.2.1, y.2.1)) (fun _ => rfl) ZlL Zlv ZoL
noncomputable def Z7L : Nat → Int → Int → List (Int × Int) → Int → Int → Int → Int → Int → List (Int × Int) → Int → Int → List (Int × Int) → List (List Int) → Int → Option (Int × Int × Int × Int × Int × List (Int × Int) × List (List Int)) := fun k b1_0 b1_1 b1_2 b2_0 b2_1 b2_2 b3_0 b3_1 o4 b5_0 b5_1 o6 o7 v2 =>
    some ((1 : Int), b1_0, v2, b5_0, b5_1, o6, o7)
noncomputable def Zcn : Nat → Int → Int → List (Int × Int) → Int → Int → Int → Int → Int → List (Int × Int) → Int → Int → List (Int × Int) → List (List Int) → Int → Option (List (Int × Int × Int × Int × Int × List (Int × Int) × List (List Int))) := fun k b1_0 b1_1 b1_2 b2_0 b2_1 b2_2 b3_0 b3_1 o4 b5_0 b5_1 o6 o7 v2 =>
    joinL (some [((1 : Int), b1_0, v2, b5_0, b5_1, o6, o7)]) (some [((1 : Int), b1_0, v2, b5_0, b5_1, o6, o7)])
noncomputable def Znc : Spec := Spec.mk [OSh.ro, OSh.box (26 : Nat) [Sh.int .i64, Sh.int .i64, Sh.snap (0 : Nat) (Ty.pair (Ty.int .i64) (Ty.int .i64))], OSh.box (67 : Nat) [Sh.int .i64, Sh.int .i64, Sh.int .i64], OSh.box (26 : Nat) [Sh.int .i64, Sh.int .i64, Sh.sl (4 : Nat)], OSh.row true (122 : Nat) (Ty.pair (Ty.int .i64) (Ty.int .i64)), OSh.box (26 : Nat) [Sh.int .i64, Sh.int .i64, Sh.sl (6 : Nat)], OSh.row true (122 : Nat) (Ty.pair (Ty.int .i64) (Ty.int .i64)), OSh.row true (27 : Nat) (Ty.slice (3 : Nat) (Ty.int .i64))] [((2 : Nat), TSh.at (Sh.int .i64)), ((3 : Nat), TSh.at (Sh.ptr (1 : Nat) (0 : Nat))), ((6 : Nat), TSh.at (Sh.ptr (2 : Nat) (0 : Nat))), ((7 : Nat), TSh.at (Sh.ptr (3 : Nat) (0 : Nat))), ((9 : Nat), TSh.at (Sh.ptr (5 : Nat) (0 : Nat))), ((10 : Nat), TSh.at (Sh.sl (7 : Nat)))]
noncomputable def ZAp : Spec := Spec.mk [OSh.ro, OSh.box (67 : Nat) [Sh.int .i64, Sh.int .i64, Sh.int .i64], OSh.box (26 : Nat) [Sh.int .i64, Sh.int .i64, Sh.sl (3 : Nat)], OSh.row true (122 : Nat) (Ty.pair (Ty.int .i64) (Ty.int .i64)), OSh.row true (27 : Nat) (Ty.slice (3 : Nat) (Ty.int .i64))] [((6 : Nat), TSh.at (Sh.ptr (1 : Nat) (0 : Nat))), ((7 : Nat), TSh.at (Sh.ptr (2 : Nat) (0 : Nat))), ((8 : Nat), TSh.at (Sh.sl (4 : Nat)))]
noncomputable def Z76 : LoopDef (Tup Z7r × OutD) := .plain Znc ZAp (Int × Int × Int × Int × Int × List (Int × Int) × List (List Int)) (fun k x => Z7L k x.1.2.1.1 x.1.2.1.2.1 x.1.2.1.2.2.1 x.1.2.2.1.1 x.1.2.2.1.2.1 x.1.2.2.1.2.2.1 x.1.2.2.2.1.1 x.1.2.2.2.1.2.1 x.1.2.2.2.2.1 x.1.2.2.2.2.2.1.1 x.1.2.2.2.2.2.1.2.1 x.1.2.2.2.2.2.2.1 x.1.2.2.2.2.2.2.2.1 x.2.1) (fun z => (((), (z.1, z.2.1, z.2.2.1, ()), (z.2.2.2.1, z.2.2.2.2.1, (), ()), z.2.2.2.2.2.1, z.2.2.2.2.2.2, ()), ((), (), (), ()))) (fun y => (y.1.2.1.1, y.1.2.1.2.1, y.1.2.1.2.2.1, y.1.2.2.1.1, y.1.2.2.1.2.1, y.1.2.2.2.1, y.1.2.2.2.2.1)) (fun _ => rfl)
theorem ZyT (k : Nat) (b1_0 : Int) (b1_1 : Int) (b1_2 : List (Int × Int)) (b2_0 : Int) (b2_1 : Int) (b2_2 : Int) (b3_0 : Int) (b3_1 : Int) (o4 : List (Int × Int)) (b5_0 : Int) (b5_1 : Int) (o6 : List (Int × Int)) (o7 : List (List Int)) (v2 : Int) : Zcn k b1_0 b1_1 b1_2 b2_0 b2_1 b2_2 b3_0 b3_1 o4 b5_0 b5_1 o6 o7 v2 = repl 2 (Z7L k b1_0 b1_1 b1_2 b2_0 b2_1 b2_2 b3_0 b3_1 o4 b5_0 b5_1 o6 o7 v2) := by
 first
 | (simp only [Zcn, Z7L, Zd, Zi, Zf, Zg, Ze, Z4, if_true]; done)
 | (simp only [Zcn, Z7L, Zd, Zi, Zf, Zg, Ze, Z4, if_true]; simp only [Z1n, Z1o, Z2J, Z4]; simp only [Z44]; exact Z22 ⟨fun h => by simp only [h, and_self], fun h => by simp only [h, and_self]⟩)
noncomputable def ZiP : Nat → Int × Int × List (Int × Int) → List Int → Int → Option ((Int × Int × Int) × (Int × Int × List (Int × Int)) × List (List Int))
 | 0, _, _, _ => none
 | k + 1, p0, p1, p2 =>
  Option.bind (Z3y k (Prod.fst p0, Prod.fst p0.2, Prod.snd p0.2)) fun z0 => Option.bind (Z6p k p0.1 p0.2.1 p0.2.2 (0 : Int) (0 : Int) (0 : Int) (0 : Int) (0 : Int) [] z0.1 z0.2.1 z0.2.2 [] p1 p2 (0 : Int) (0 : Int)) fun z7 => LR.on z7 (fun y7 => Option.bind (Z7L k y7.1 y7.2.1 y7.2.2.1 y7.2.2.2.1 y7.2.2.2.2.1 y7.2.2.2.2.2.1 y7.2.2.2.2.2.2.1 y7.2.2.2.2.2.2.2.1 y7.2.2.2.2.2.2.2.2.1 y7.2.2.2.2.2.2.2.2.2.1 y7.2.2.2.2.2.2.2.2.2.2.1 y7.2.2.2.2.2.2.2.2.2.2.2.1 y7.2.2.2.2.2.2.2.2.2.2.2.2.1 y7.2.2.2.2.2.2.2.2.2.2.2.2.2) fun z8 => some ((Prod.fst z8, Prod.fst z8.2, Prod.fst z8.2.2), (Prod.fst z8.2.2.2, Prod.fst z8.2.2.2.2, Prod.fst z8.2.2.2.2.2), Prod.snd z8.2.2.2.2.2)) fun r7 => some r7
noncomputable def Z8E : FnDef := .of ZyN Z7r ((Int × Int × Int) × (Int × Int × List (Int × Int)) × List (List Int)) (fun k x => ZiP k x.1 x.2.1 x.2.2.1) ZlL Zlv ZoL
noncomputable def ZaS : Code := Tryz.f113.body.getD .skip
noncomputable def Zw : Ctx (Tup Z7r × OutD) := { T := T, G := [(111, Z3A.E), (105, Z4D.E), (133, Z4M.E), (134, Z4J.E), (59, Z25.E)], mvs := [], no := 0, n := 75, res := resOf T ZyN Z7r Tryz.f113.results.toList, loops := [(0, Z91.E)], regs := [(10, Z6N.E), (16, Z6H.E), (17, Z76.E)], conds := [], cuts := [] }
theorem Zfb (k : Nat) : EnvOK Tryz.prog k Zw.G := (EnvOK.cons (Zhe k) (EnvOK.cons (ZiR k) (EnvOK.cons (ZtO k) (EnvOK.cons (Ztk k) (EnvOK.cons (Z8I k) (EnvOK.nil mixed))))))
noncomputable def ZfB : Array Oper := (findReg 10 ZaS).getD #[]
theorem ZAO (k : Nat) (x : Zme.D) : execD Zw.T Zw.G Zw.mvs k ZfB (Z6N.inp.st Zw.n x) (outK Zw Z6N) = ZcF k x.1.2.1.1 x.1.2.1.2.1 x.1.2.1.2.2.1 x.1.2.2.1.1 x.1.2.2.1.2.1 x.1.2.2.2.1 x.1.2.2.2.2.1.1 x.1.2.2.2.2.1.2.1 x.1.2.2.2.2.2.1 x.1.2.2.2.2.2.2.1 x.2.1 x.2.2.2.2.2.2.1 := by kernel_rfl
theorem Zxn (k : Nat) : EOK Tryz.prog Zw k Z6N.E (.region 10 ZfB true) := Z5X (D := Z6N) (m := 2) T_ok (Zfb k) (fun x => (ZAO k x).trans (ZA4 k x.1.2.1.1 x.1.2.1.2.1 x.1.2.1.2.2.1 x.1.2.2.1.1 x.1.2.2.1.2.1 x.1.2.2.2.1 x.1.2.2.2.2.1.1 x.1.2.2.2.2.1.2.1 x.1.2.2.2.2.2.1 x.1.2.2.2.2.2.2.1 x.2.1 x.2.2.2.2.2.2.1))
noncomputable def ZfO : Array Oper := (findReg 16 ZaS).getD #[]
theorem ZAV (k : Nat) (x : ZlI.D) : execD Zw.T Zw.G Zw.mvs k ZfO (Z6H.inp.st Zw.n x) (outK Zw Z6H) = ZbJ k x.1.2.1.1 x.1.2.1.2.1 x.1.2.1.2.2.1 x.1.2.2.1.1 x.1.2.2.1.2.1 x.1.2.2.2.1 x.1.2.2.2.2.1.1 x.1.2.2.2.2.1.2.1 x.1.2.2.2.2.2.1 x.1.2.2.2.2.2.2.1 x.2.1 x.2.2.2.2.2.2.1 := by kernel_rfl
theorem ZxO (k : Nat) : EOK Tryz.prog Zw k Z6H.E (.region 16 ZfO true) := Z5X (D := Z6H) (m := 2) T_ok (Zfb k) (fun x => (ZAV k x).trans (ZzC k x.1.2.1.1 x.1.2.1.2.1 x.1.2.1.2.2.1 x.1.2.2.1.1 x.1.2.2.1.2.1 x.1.2.2.2.1 x.1.2.2.2.2.1.1 x.1.2.2.2.2.1.2.1 x.1.2.2.2.2.2.1 x.1.2.2.2.2.2.2.1 x.2.1 x.2.2.2.2.2.2.1))
noncomputable def ZfE : Array Oper := (findReg 17 ZaS).getD #[]
theorem Zzy (k : Nat) (x : Znc.D) : execD Zw.T Zw.G Zw.mvs k ZfE (Z76.inp.st Zw.n x) (outK Zw Z76) = Zcn k x.1.2.1.1 x.1.2.1.2.1 x.1.2.1.2.2.1 x.1.2.2.1.1 x.1.2.2.1.2.1 x.1.2.2.1.2.2.1 x.1.2.2.2.1.1 x.1.2.2.2.1.2.1 x.1.2.2.2.2.1 x.1.2.2.2.2.2.1.1 x.1.2.2.2.2.2.1.2.1 x.1.2.2.2.2.2.2.1 x.1.2.2.2.2.2.2.2.1 x.2.1 := by kernel_rfl
theorem Zxa (k : Nat) : EOK Tryz.prog Zw k Z76.E (.region 17 ZfE true) := Z5X (D := Z76) (m := 2) T_ok (Zfb k) (fun x => (Zzy k x).trans (ZyT k x.1.2.1.1 x.1.2.1.2.1 x.1.2.1.2.2.1 x.1.2.2.1.1 x.1.2.2.1.2.1 x.1.2.2.1.2.2.1 x.1.2.2.2.1.1 x.1.2.2.2.1.2.1 x.1.2.2.2.2.1 x.1.2.2.2.2.2.1.1 x.1.2.2.2.2.2.1.2.1 x.1.2.2.2.2.2.2.1 x.1.2.2.2.2.2.2.2.1 x.2.1))
noncomputable def Zev : Code := (findLoop 0 ZaS).getD .skip
theorem ZDu (k : Nat) (x : ZiJ.D) : Z91.lp (k + 1) x = loopK Zw Z91 0 Zev k x := by kernel_rfl
theorem ZDg (k : Nat) : LOK Tryz.prog Zw k Zev := LOK.by [(Z6N.E, .region 10 ZfB true), (Z6H.E, .region 16 ZfO true)] (by kernel_rfl) (AllOK.cons (Zxn k) (AllOK.cons (ZxO k) AllOK.nil))
theorem ZDv (x : ZiJ.D) : Z91.lp 0 x = none := by kernel_rfl
theorem ZCn (k : Nat) : EOK Tryz.prog Zw k Z91.E (.block 0 (.loop Zev)) := Zb T_ok Zfb ZDv ZDu ZDg k
theorem ZGf (k : Nat) (x : Tup Z8E.ps) : Z8E.f (k + 1) x = fnK Z8E Zw ZaS k x := by kernel_rfl
theorem ZGW (x : Tup Z8E.ps) : Z8E.f 0 x = none := by kernel_rfl
theorem ZGC (k : Nat) : LOK Tryz.prog Zw k ZaS := LOK.by [(Z91.E, .block 0 (.loop Zev)), (Z76.E, .region 17 ZfE true)] (by kernel_rfl) (AllOK.cons (ZCn k) (AllOK.cons (Zxa k) AllOK.nil))
theorem ZGo (k : Nat) : SoundAt Tryz.prog k 113 Z8E.E := @Z3 Tryz.prog Z8E Zw 113 Tryz.f113 ZaS (by kernel_rfl) (by kernel_rfl) (by kernel_rfl) Tryz.func113 (by kernel_rfl) (by kernel_rfl) (by kernel_rfl) T_ok Zfb ZGC ZGW ZGf k
noncomputable def Z3N : List PK := [PK.mk (Ty.pair (Ty.int .i64) (Ty.pair (Ty.int .i64) (Ty.int .i64))) true none false none, PK.mk (Ty.pair (Ty.int .i64) (Ty.pair (Ty.int .i64) (Ty.slice (122 : Nat) (Ty.pair (Ty.int .i64) (Ty.int .i64))))) true none false none]
noncomputable def ZyC : List PK := [PK.mk (Ty.pair (Ty.int .i64) (Ty.pair (Ty.int .i64) (Ty.slice (122 : Nat) (Ty.pair (Ty.int .i64) (Ty.int .i64))))) true none false none, PK.mk (Ty.slice (3 : Nat) (Ty.int .i64)) false none false none, PK.mk (Ty.slice (42 : Nat) (Ty.pair (Ty.int .i64) (Ty.pair (Ty.int .i64) (Ty.int .i64)))) false none false none, PK.mk (Ty.int .i64) false none false none]
noncomputable def Zni (r : (Int × Int × Int) × Int × Int × List (Int × Int)) : Tup Z3N × OutD := ((r.1, r.2, ()), none)
noncomputable def ZmC : Tup Z3N × OutD → Option ((Int × Int × Int) × Int × Int × List (Int × Int))
 | (a, none) => some (a.1, a.2.1)
 | _ => none
theorem ZoD : ∀ b r, ZmC b = some r → Zni r = b := by
 rintro ⟨a, o⟩ r h
 cases o with
 | none => injection h with h; subst h; rfl
 | some _ => cases h
noncomputable def Z92 : Nat → Int → Int → Int → Int → Int → List (Int × Int) → Int → Int → List (Int × Int) → Int → Int → Option (Int × Int × Int × Int × Int × List (Int × Int)) := fun k b1_0 b1_1 b1_2 b2_0 b2_1 o3 b4_0 b4_1 o5 v3 v12 =>
    some ((3 : Int), v12, v3, b4_0, b4_1, o5)
noncomputable def Zdr : Nat → Int → Int → Int → Int → Int → List (Int × Int) → Int → Int → List (Int × Int) → Int → Int → Option (List (Int × Int × Int × Int × Int × List (Int × Int))) := fun k b1_0 b1_1 b1_2 b2_0 b2_1 o3 b4_0 b4_1 o5 v3 v12 =>
    joinL (some [((3 : Int), v12, v3, b4_0, b4_1, o5)]) (some [((3 : Int), v12, v3, b4_0, b4_1, o5)])
noncomputable def ZoM : Spec := Spec.mk [OSh.ro, OSh.box (67 : Nat) [Sh.int .i64, Sh.int .i64, Sh.int .i64], OSh.box (26 : Nat) [Sh.int .i64, Sh.int .i64, Sh.sl (3 : Nat)], OSh.row true (122 : Nat) (Ty.pair (Ty.int .i64) (Ty.int .i64)), OSh.box (26 : Nat) [Sh.int .i64, Sh.int .i64, Sh.sl (5 : Nat)], OSh.row true (122 : Nat) (Ty.pair (Ty.int .i64) (Ty.int .i64))] [((3 : Nat), TSh.at (Sh.int .i64)), ((8 : Nat), TSh.at (Sh.ptr (1 : Nat) (0 : Nat))), ((9 : Nat), TSh.at (Sh.ptr (2 : Nat) (0 : Nat))), ((10 : Nat), TSh.at (Sh.ptr (4 : Nat) (0 : Nat))), ((12 : Nat), TSh.at (Sh.int .i64))]
noncomputable def ZCA : Spec := Spec.mk [OSh.ro, OSh.box (67 : Nat) [Sh.int .i64, Sh.int .i64, Sh.int .i64], OSh.box (26 : Nat) [Sh.int .i64, Sh.int .i64, Sh.sl (3 : Nat)], OSh.row true (122 : Nat) (Ty.pair (Ty.int .i64) (Ty.int .i64))] [((8 : Nat), TSh.at (Sh.ptr (1 : Nat) (0 : Nat))), ((9 : Nat), TSh.at (Sh.ptr (2 : Nat) (0 : Nat)))]
noncomputable def Z7W : LoopDef (Tup Z3N × OutD) := .plain ZoM ZCA (Int × Int × Int × Int × Int × List (Int × Int)) (fun k x => Z92 k x.1.2.1.1 x.1.2.1.2.1 x.1.2.1.2.2.1 x.1.2.2.1.1 x.1.2.2.1.2.1 x.1.2.2.2.1 x.1.2.2.2.2.1.1 x.1.2.2.2.2.1.2.1 x.1.2.2.2.2.2.1 x.2.1 x.2.2.2.2.2.1) (fun z => (((), (z.1, z.2.1, z.2.2.1, ()), (z.2.2.2.1, z.2.2.2.2.1, (), ()), z.2.2.2.2.2, ()), ((), (), ()))) (fun y => (y.1.2.1.1, y.1.2.1.2.1, y.1.2.1.2.2.1, y.1.2.2.1.1, y.1.2.2.1.2.1, y.1.2.2.2.1)) (fun _ => rfl)
theorem ZBK (k : Nat) (b1_0 : Int) (b1_1 : Int) (b1_2 : Int) (b2_0 : Int) (b2_1 : Int) (o3 : List (Int × Int)) (b4_0 : Int) (b4_1 : Int) (o5 : List (Int × Int)) (v3 : Int) (v12 : Int) : Zdr k b1_0 b1_1 b1_2 b2_0 b2_1 o3 b4_0 b4_1 o5 v3 v12 = repl 2 (Z92 k b1_0 b1_1 b1_2 b2_0 b2_1 o3 b4_0 b4_1 o5 v3 v12) := by
 first
 | (simp only [Zdr, Z92, Zd, Zi, Zf, Zg, Ze, Z4, if_true]; done)
 | (simp only [Zdr, Z92, Zd, Zi, Zf, Zg, Ze, Z4, if_true]; simp only [Z1n, Z1o, Z2J, Z4]; simp only [Z44]; exact Z22 ⟨fun h => by simp only [h, and_self], fun h => by simp only [h, and_self]⟩)
noncomputable def Z7N : Nat → Int → Int → Int → Int → Int → List (Int × Int) → Int → Int → List (Int × Int) → Int → Int → Option (Int × Int × Int × Int × Int × List (Int × Int)) := fun k b1_0 b1_1 b1_2 b2_0 b2_1 o3 b4_0 b4_1 o5 v3 v12 =>
    some ((2 : Int), v12, v3, b4_0, b4_1, o5)
noncomputable def ZbQ : Nat → Int → Int → Int → Int → Int → List (Int × Int) → Int → Int → List (Int × Int) → Int → Int → Option (List (Int × Int × Int × Int × Int × List (Int × Int))) := fun k b1_0 b1_1 b1_2 b2_0 b2_1 o3 b4_0 b4_1 o5 v3 v12 =>
    joinL (some [((2 : Int), v12, v3, b4_0, b4_1, o5)]) (some [((2 : Int), v12, v3, b4_0, b4_1, o5)])
noncomputable def Zlu : Spec := Spec.mk [OSh.ro, OSh.box (67 : Nat) [Sh.int .i64, Sh.int .i64, Sh.int .i64], OSh.box (26 : Nat) [Sh.int .i64, Sh.int .i64, Sh.sl (3 : Nat)], OSh.row true (122 : Nat) (Ty.pair (Ty.int .i64) (Ty.int .i64)), OSh.box (26 : Nat) [Sh.int .i64, Sh.int .i64, Sh.sl (5 : Nat)], OSh.row true (122 : Nat) (Ty.pair (Ty.int .i64) (Ty.int .i64))] [((3 : Nat), TSh.at (Sh.int .i64)), ((8 : Nat), TSh.at (Sh.ptr (1 : Nat) (0 : Nat))), ((9 : Nat), TSh.at (Sh.ptr (2 : Nat) (0 : Nat))), ((10 : Nat), TSh.at (Sh.ptr (4 : Nat) (0 : Nat))), ((12 : Nat), TSh.at (Sh.int .i64))]
noncomputable def ZBc : Spec := Spec.mk [OSh.ro, OSh.box (67 : Nat) [Sh.int .i64, Sh.int .i64, Sh.int .i64], OSh.box (26 : Nat) [Sh.int .i64, Sh.int .i64, Sh.sl (3 : Nat)], OSh.row true (122 : Nat) (Ty.pair (Ty.int .i64) (Ty.int .i64))] [((8 : Nat), TSh.at (Sh.ptr (1 : Nat) (0 : Nat))), ((9 : Nat), TSh.at (Sh.ptr (2 : Nat) (0 : Nat)))]
noncomputable def Z71 : LoopDef (Tup Z3N × OutD) := .plain Zlu ZBc (Int × Int × Int × Int × Int × List (Int × Int)) (fun k x => Z7N k x.1.2.1.1 x.1.2.1.2.1 x.1.2.1.2.2.1 x.1.2.2.1.1 x.1.2.2.1.2.1 x.1.2.2.2.1 x.1.2.2.2.2.1.1 x.1.2.2.2.2.1.2.1 x.1.2.2.2.2.2.1 x.2.1 x.2.2.2.2.2.1) (fun z => (((), (z.1, z.2.1, z.2.2.1, ()), (z.2.2.2.1, z.2.2.2.2.1, (), ()), z.2.2.2.2.2, ()), ((), (), ()))) (fun y => (y.1.2.1.1, y.1.2.1.2.1, y.1.2.1.2.2.1, y.1.2.2.1.1, y.1.2.2.1.2.1, y.1.2.2.2.1)) (fun _ => rfl)
theorem Zzw (k : Nat) (b1_0 : Int) (b1_1 : Int) (b1_2 : Int) (b2_0 : Int) (b2_1 : Int) (o3 : List (Int × Int)) (b4_0 : Int) (b4_1 : Int) (o5 : List (Int × Int)) (v3 : Int) (v12 : Int) : ZbQ k b1_0 b1_1 b1_2 b2_0 b2_1 o3 b4_0 b4_1 o5 v3 v12 = repl 2 (Z7N k b1_0 b1_1 b1_2 b2_0 b2_1 o3 b4_0 b4_1 o5 v3 v12) := by
 first
 | (simp only [ZbQ, Z7N, Zd, Zi, Zf, Zg, Ze, Z4, if_true]; done)
 | (simp only [ZbQ, Z7N, Zd, Zi, Zf, Zg, Ze, Z4, if_true]; simp only [Z1n, Z1o, Z2J, Z4]; simp only [Z44]; exact Z22 ⟨fun h => by simp only [h, and_self], fun h => by simp only [h, and_self]⟩)
noncomputable def Zdn : Nat → Int → Int → List (Int × Int) → Int → Int → Int → Int → Int → List (Int × Int) → Int → Int → List (Int × Int) → List Int → List (Int × Int × Int) → Int → Int → Int → Bool → Option (Int × Int × List (Int × Int) × Int × Int × Int × Int × Int × List (Int × Int) × Int × Int × List (Int × Int) × List Int × List (Int × Int × Int) × Int × Int × Int) := fun k b1_0 b1_1 b1_2 b2_0 b2_1 b2_2 b3_0 b3_1 o4 b5_0 b5_1 o6 v1 v2 v3 v12 v15 v52 =>
    if v52 = true then some (b1_0, b1_1, b1_2, b2_0, b2_1, b2_2, b3_0, b3_1, o4, b5_0, b5_1, o6, v1, v2, v3, v12, wrap64 ((0 : Int) - v15)) else some (b1_0, b1_1, b1_2, b2_0, b2_1, b2_2, b3_0, b3_1, o4, b5_0, b5_1, o6, v1, v2, v3, v12, v15)
noncomputable def Zzq : Spec := Spec.mk [OSh.ro, OSh.box (26 : Nat) [Sh.int .i64, Sh.int .i64, Sh.snap (0 : Nat) (Ty.pair (Ty.int .i64) (Ty.int .i64))], OSh.box (67 : Nat) [Sh.int .i64, Sh.int .i64, Sh.int .i64], OSh.box (26 : Nat) [Sh.int .i64, Sh.int .i64, Sh.sl (4 : Nat)], OSh.row true (122 : Nat) (Ty.pair (Ty.int .i64) (Ty.int .i64)), OSh.box (26 : Nat) [Sh.int .i64, Sh.int .i64, Sh.sl (6 : Nat)], OSh.row true (122 : Nat) (Ty.pair (Ty.int .i64) (Ty.int .i64))] [((1 : Nat), TSh.at (Sh.snap (0 : Nat) (Ty.int .i64))), ((2 : Nat), TSh.at (Sh.snap (0 : Nat) (Ty.pair (Ty.int .i64) (Ty.pair (Ty.int .i64) (Ty.int .i64))))), ((3 : Nat), TSh.at (Sh.int .i64)), ((4 : Nat), TSh.at (Sh.ptr (1 : Nat) (0 : Nat))), ((8 : Nat), TSh.at (Sh.ptr (2 : Nat) (0 : Nat))), ((9 : Nat), TSh.at (Sh.ptr (3 : Nat) (0 : Nat))), ((10 : Nat), TSh.at (Sh.ptr (5 : Nat) (0 : Nat))), ((12 : Nat), TSh.at (Sh.int .i64)), ((15 : Nat), TSh.at (Sh.int .i64)), ((52 : Nat), TSh.at Sh.bool)]
noncomputable def Zz8 : Spec := Spec.mk [OSh.ro, OSh.box (26 : Nat) [Sh.int .i64, Sh.int .i64, Sh.snap (0 : Nat) (Ty.pair (Ty.int .i64) (Ty.int .i64))], OSh.box (67 : Nat) [Sh.int .i64, Sh.int .i64, Sh.int .i64], OSh.box (26 : Nat) [Sh.int .i64, Sh.int .i64, Sh.sl (4 : Nat)], OSh.row true (122 : Nat) (Ty.pair (Ty.int .i64) (Ty.int .i64)), OSh.box (26 : Nat) [Sh.int .i64, Sh.int .i64, Sh.sl (6 : Nat)], OSh.row true (122 : Nat) (Ty.pair (Ty.int .i64) (Ty.int .i64))] [((1 : Nat), TSh.at (Sh.snap (0 : Nat) (Ty.int .i64))), ((2 : Nat), TSh.at (Sh.snap (0 : Nat) (Ty.pair (Ty.int .i64) (Ty.pair (Ty.int .i64) (Ty.int .i64))))), ((3 : Nat), TSh.at (Sh.int .i64)), ((4 : Nat), TSh.at (Sh.ptr (1 : Nat) (0 : Nat))), ((8 : Nat), TSh.at (Sh.ptr (2 : Nat) (0 : Nat))), ((9 : Nat), TSh.at (Sh.ptr (3 : Nat) (0 : Nat))), ((10 : Nat), TSh.at (Sh.ptr (5 : Nat) (0 : Nat))), ((12 : Nat), TSh.at (Sh.int .i64)), ((15 : Nat), TSh.at (Sh.int .i64))]
noncomputable def Z1w : LoopDef (Tup Z3N × OutD) := .plain Zzq Zz8 (Int × Int × List (Int × Int) × Int × Int × Int × Int × Int × List (Int × Int) × Int × Int × List (Int × Int) × List Int × List (Int × Int × Int) × Int × Int × Int) (fun k x => Zdn k x.1.2.1.1 x.1.2.1.2.1 x.1.2.1.2.2.1 x.1.2.2.1.1 x.1.2.2.1.2.1 x.1.2.2.1.2.2.1 x.1.2.2.2.1.1 x.1.2.2.2.1.2.1 x.1.2.2.2.2.1 x.1.2.2.2.2.2.1.1 x.1.2.2.2.2.2.1.2.1 x.1.2.2.2.2.2.2.1 x.2.1 x.2.2.1 x.2.2.2.1 x.2.2.2.2.2.2.2.2.1 x.2.2.2.2.2.2.2.2.2.1 x.2.2.2.2.2.2.2.2.2.2.1) (fun z => (((), (z.1, z.2.1, z.2.2.1, ()), (z.2.2.2.1, z.2.2.2.2.1, z.2.2.2.2.2.1, ()), (z.2.2.2.2.2.2.1, z.2.2.2.2.2.2.2.1, (), ()), z.2.2.2.2.2.2.2.2.1, (z.2.2.2.2.2.2.2.2.2.1, z.2.2.2.2.2.2.2.2.2.2.1, (), ()), z.2.2.2.2.2.2.2.2.2.2.2.1, ()), (z.2.2.2.2.2.2.2.2.2.2.2.2.1, z.2.2.2.2.2.2.2.2.2.2.2.2.2.1, z.2.2.2.2.2.2.2.2.2.2.2.2.2.2.1, (), (), (), (), z.2.2.2.2.2.2.2.2.2.2.2.2.2.2.2.1, z.2.2.2.2.2.2.2.2.2.2.2.2.2.2.2.2, ()))) (fun y => (y.1.2.1.1, y.1.2.1.2.1, y.1.2.1.2.2.1, y.1.2.2.1.1, y.1.2.2.1.2.1, y.1.2.2.1.2.2.1, y.1.2.2.2.1.1, y.1.2.2.2.1.2.1, y.1.2.2.2.2.1, y.1.2.2.2.2.2.1.1, y.1.2.2.2.2.2.1.2.1, y.1.2.2.2.2.2.2.1, y.2.1, y.2.2.1, y.2.2.2.1, y.2.2.2.2.2.2.2.2.1, y.2.2.2.2.2.2.2.2.2.1)) (fun _ => rfl)
noncomputable def Z84 : Nat → Int → Int → List (Int × Int) → Int → Int → Int → Int → Int → List (Int × Int) → Int → Int → List (Int × Int) → List Int → List (Int × Int × Int) → Int → Int → Int → List (Int × Int × Int) → Int → Int → Option (Int × Int × List (Int × Int) × Int × Int × Int × Int × Int × List (Int × Int) × Int × Int × List (Int × Int) × List Int × List (Int × Int × Int) × Int × Int × Int)
 | 0, _, _, _, _, _, _, _, _, _, _, _, _, _, _, _, _, _, _, _, _ => none
 | k + 1, b1_0, b1_1, b1_2, b2_0, b2_1, b2_2, b3_0, b3_1, o4, b5_0, b5_1, o6, v1, v2, v3, v12, v15, v64, v65, v66 =>
  if decide (v66 < v65) = true then if (0 : Int) ≤ v66 then if v66 < (↑(List.length v64) : Int) then if decide (Prod.fst (List.getD v64 (Int.toNat v66) ((0 : Int), (0 : Int), (0 : Int))) = (1 : Int)) = true then if (0 : Int) ≤ wrap64 (wrap64 (Prod.fst (Prod.snd (List.getD v64 (Int.toNat v66) ((0 : Int), (0 : Int), (0 : Int)))) * b1_1) + Prod.snd (Prod.snd (List.getD v64 (Int.toNat v66) ((0 : Int), (0 : Int), (0 : Int))))) then if wrap64 (wrap64 (Prod.fst (Prod.snd (List.getD v64 (Int.toNat v66) ((0 : Int), (0 : Int), (0 : Int)))) * b1_1) + Prod.snd (Prod.snd (List.getD v64 (Int.toNat v66) ((0 : Int), (0 : Int), (0 : Int))))) < (↑(List.length b1_2) : Int) then if (0 : Int) ≤ wrap64 (wrap64 (Prod.fst (Prod.snd (List.getD v64 (Int.toNat v66) ((0 : Int), (0 : Int), (0 : Int)))) * b1_1) + Prod.snd (Prod.snd (List.getD v64 (Int.toNat v66) ((0 : Int), (0 : Int), (0 : Int))))) then if wrap64 (wrap64 (Prod.fst (Prod.snd (List.getD v64 (Int.toNat v66) ((0 : Int), (0 : Int), (0 : Int)))) * b1_1) + Prod.snd (Prod.snd (List.getD v64 (Int.toNat v66) ((0 : Int), (0 : Int), (0 : Int))))) < (↑(List.length o6) : Int) then Z84 k b1_0 b1_1 b1_2 b2_0 b2_1 b2_2 b3_0 b3_1 o4 b5_0 b5_1 (List.set o6 (Int.toNat (wrap64 (wrap64 (Prod.fst (Prod.snd (List.getD v64 (Int.toNat v66) ((0 : Int), (0 : Int), (0 : Int)))) * b1_1) + Prod.snd (Prod.snd (List.getD v64 (Int.toNat v66) ((0 : Int), (0 : Int), (0 : Int))))))) (Prod.fst (List.getD b1_2 (Int.toNat (wrap64 (wrap64 (Prod.fst (Prod.snd (List.getD v64 (Int.toNat v66) ((0 : Int), (0 : Int), (0 : Int)))) * b1_1) + Prod.snd (Prod.snd (List.getD v64 (Int.toNat v66) ((0 : Int), (0 : Int), (0 : Int))))))) ((0 : Int), (0 : Int))), Prod.snd (List.getD b1_2 (Int.toNat (wrap64 (wrap64 (Prod.fst (Prod.snd (List.getD v64 (Int.toNat v66) ((0 : Int), (0 : Int), (0 : Int)))) * b1_1) + Prod.snd (Prod.snd (List.getD v64 (Int.toNat v66) ((0 : Int), (0 : Int), (0 : Int))))))) ((0 : Int), (0 : Int))))) v1 v2 v3 v12 v15 v64 v65 (wrap64 (v66 + (1 : Int))) else none else none else none else none else Z84 k b1_0 b1_1 b1_2 b2_0 b2_1 b2_2 b3_0 b3_1 o4 b5_0 b5_1 o6 v1 v2 v3 v12 v15 v64 v65 (wrap64 (v66 + (1 : Int))) else none else none else some (b1_0, b1_1, b1_2, b2_0, b2_1, b2_2, b3_0, b3_1, o4, b5_0, b5_1, o6, v1, v2, v3, v12, v15)
noncomputable def ZiA : Spec := Spec.mk [OSh.ro, OSh.box (26 : Nat) [Sh.int .i64, Sh.int .i64, Sh.snap (0 : Nat) (Ty.pair (Ty.int .i64) (Ty.int .i64))], OSh.box (67 : Nat) [Sh.int .i64, Sh.int .i64, Sh.int .i64], OSh.box (26 : Nat) [Sh.int .i64, Sh.int .i64, Sh.sl (4 : Nat)], OSh.row true (122 : Nat) (Ty.pair (Ty.int .i64) (Ty.int .i64)), OSh.box (26 : Nat) [Sh.int .i64, Sh.int .i64, Sh.sl (6 : Nat)], OSh.row true (122 : Nat) (Ty.pair (Ty.int .i64) (Ty.int .i64))] [((1 : Nat), TSh.at (Sh.snap (0 : Nat) (Ty.int .i64))), ((2 : Nat), TSh.at (Sh.snap (0 : Nat) (Ty.pair (Ty.int .i64) (Ty.pair (Ty.int .i64) (Ty.int .i64))))), ((3 : Nat), TSh.at (Sh.int .i64)), ((4 : Nat), TSh.at (Sh.ptr (1 : Nat) (0 : Nat))), ((8 : Nat), TSh.at (Sh.ptr (2 : Nat) (0 : Nat))), ((9 : Nat), TSh.at (Sh.ptr (3 : Nat) (0 : Nat))), ((10 : Nat), TSh.at (Sh.ptr (5 : Nat) (0 : Nat))), ((12 : Nat), TSh.at (Sh.int .i64)), ((15 : Nat), TSh.at (Sh.int .i64)), ((64 : Nat), TSh.at (Sh.snap (0 : Nat) (Ty.pair (Ty.int .i64) (Ty.pair (Ty.int .i64) (Ty.int .i64))))), ((65 : Nat), TSh.at (Sh.int .i64)), ((66 : Nat), TSh.at (Sh.int .i64))]
noncomputable def ZDr : Spec := Spec.mk [OSh.ro, OSh.box (26 : Nat) [Sh.int .i64, Sh.int .i64, Sh.snap (0 : Nat) (Ty.pair (Ty.int .i64) (Ty.int .i64))], OSh.box (67 : Nat) [Sh.int .i64, Sh.int .i64, Sh.int .i64], OSh.box (26 : Nat) [Sh.int .i64, Sh.int .i64, Sh.sl (4 : Nat)], OSh.row true (122 : Nat) (Ty.pair (Ty.int .i64) (Ty.int .i64)), OSh.box (26 : Nat) [Sh.int .i64, Sh.int .i64, Sh.sl (6 : Nat)], OSh.row true (122 : Nat) (Ty.pair (Ty.int .i64) (Ty.int .i64))] [((1 : Nat), TSh.at (Sh.snap (0 : Nat) (Ty.int .i64))), ((2 : Nat), TSh.at (Sh.snap (0 : Nat) (Ty.pair (Ty.int .i64) (Ty.pair (Ty.int .i64) (Ty.int .i64))))), ((3 : Nat), TSh.at (Sh.int .i64)), ((4 : Nat), TSh.at (Sh.ptr (1 : Nat) (0 : Nat))), ((8 : Nat), TSh.at (Sh.ptr (2 : Nat) (0 : Nat))), ((9 : Nat), TSh.at (Sh.ptr (3 : Nat) (0 : Nat))), ((10 : Nat), TSh.at (Sh.ptr (5 : Nat) (0 : Nat))), ((12 : Nat), TSh.at (Sh.int .i64)), ((15 : Nat), TSh.at (Sh.int .i64))]
noncomputable def Z8R : LoopDef (Tup Z3N × OutD) := .plain ZiA ZDr (Int × Int × List (Int × Int) × Int × Int × Int × Int × Int × List (Int × Int) × Int × Int × List (Int × Int) × List Int × List (Int × Int × Int) × Int × Int × Int) (fun k x => Z84 k x.1.2.1.1 x.1.2.1.2.1 x.1.2.1.2.2.1 x.1.2.2.1.1 x.1.2.2.1.2.1 x.1.2.2.1.2.2.1 x.1.2.2.2.1.1 x.1.2.2.2.1.2.1 x.1.2.2.2.2.1 x.1.2.2.2.2.2.1.1 x.1.2.2.2.2.2.1.2.1 x.1.2.2.2.2.2.2.1 x.2.1 x.2.2.1 x.2.2.2.1 x.2.2.2.2.2.2.2.2.1 x.2.2.2.2.2.2.2.2.2.1 x.2.2.2.2.2.2.2.2.2.2.1 x.2.2.2.2.2.2.2.2.2.2.2.1 x.2.2.2.2.2.2.2.2.2.2.2.2.1) (fun z => (((), (z.1, z.2.1, z.2.2.1, ()), (z.2.2.2.1, z.2.2.2.2.1, z.2.2.2.2.2.1, ()), (z.2.2.2.2.2.2.1, z.2.2.2.2.2.2.2.1, (), ()), z.2.2.2.2.2.2.2.2.1, (z.2.2.2.2.2.2.2.2.2.1, z.2.2.2.2.2.2.2.2.2.2.1, (), ()), z.2.2.2.2.2.2.2.2.2.2.2.1, ()), (z.2.2.2.2.2.2.2.2.2.2.2.2.1, z.2.2.2.2.2.2.2.2.2.2.2.2.2.1, z.2.2.2.2.2.2.2.2.2.2.2.2.2.2.1, (), (), (), (), z.2.2.2.2.2.2.2.2.2.2.2.2.2.2.2.1, z.2.2.2.2.2.2.2.2.2.2.2.2.2.2.2.2, ()))) (fun y => (y.1.2.1.1, y.1.2.1.2.1, y.1.2.1.2.2.1, y.1.2.2.1.1, y.1.2.2.1.2.1, y.1.2.2.1.2.2.1, y.1.2.2.2.1.1, y.1.2.2.2.1.2.1, y.1.2.2.2.2.1, y.1.2.2.2.2.2.1.1, y.1.2.2.2.2.2.1.2.1, y.1.2.2.2.2.2.2.1, y.2.1, y.2.2.1, y.2.2.2.1, y.2.2.2.2.2.2.2.2.1, y.2.2.2.2.2.2.2.2.2.1)) (fun _ => rfl)
noncomputable def Z7T : Nat → Int → Int → Int → Int → Int → List (Int × Int) → Int → Int → List (Int × Int) → Int → Int → Option (Int × Int × Int × Int × Int × List (Int × Int)) := fun k b1_0 b1_1 b1_2 b2_0 b2_1 o3 b4_0 b4_1 o5 v3 v12 =>
    some ((3 : Int), v12, v3, b4_0, b4_1, o5)
noncomputable def ZbX : Nat → Int → Int → Int → Int → Int → List (Int × Int) → Int → Int → List (Int × Int) → Int → Int → Option (List (Int × Int × Int × Int × Int × List (Int × Int))) := fun k b1_0 b1_1 b1_2 b2_0 b2_1 o3 b4_0 b4_1 o5 v3 v12 =>
    joinL (some [((3 : Int), v12, v3, b4_0, b4_1, o5)]) (some [((3 : Int), v12, v3, b4_0, b4_1, o5)])
noncomputable def ZmV : Spec := Spec.mk [OSh.ro, OSh.box (67 : Nat) [Sh.int .i64, Sh.int .i64, Sh.int .i64], OSh.box (26 : Nat) [Sh.int .i64, Sh.int .i64, Sh.sl (3 : Nat)], OSh.row true (122 : Nat) (Ty.pair (Ty.int .i64) (Ty.int .i64)), OSh.box (26 : Nat) [Sh.int .i64, Sh.int .i64, Sh.sl (5 : Nat)], OSh.row true (122 : Nat) (Ty.pair (Ty.int .i64) (Ty.int .i64))] [((3 : Nat), TSh.at (Sh.int .i64)), ((8 : Nat), TSh.at (Sh.ptr (1 : Nat) (0 : Nat))), ((9 : Nat), TSh.at (Sh.ptr (2 : Nat) (0 : Nat))), ((10 : Nat), TSh.at (Sh.ptr (4 : Nat) (0 : Nat))), ((12 : Nat), TSh.at (Sh.int .i64))]
noncomputable def ZAw : Spec := Spec.mk [OSh.ro, OSh.box (67 : Nat) [Sh.int .i64, Sh.int .i64, Sh.int .i64], OSh.box (26 : Nat) [Sh.int .i64, Sh.int .i64, Sh.sl (3 : Nat)], OSh.row true (122 : Nat) (Ty.pair (Ty.int .i64) (Ty.int .i64))] [((8 : Nat), TSh.at (Sh.ptr (1 : Nat) (0 : Nat))), ((9 : Nat), TSh.at (Sh.ptr (2 : Nat) (0 : Nat)))]
noncomputable def Z7a : LoopDef (Tup Z3N × OutD) := .plain ZmV ZAw (Int × Int × Int × Int × Int × List (Int × Int)) (fun k x => Z7T k x.1.2.1.1 x.1.2.1.2.1 x.1.2.1.2.2.1 x.1.2.2.1.1 x.1.2.2.1.2.1 x.1.2.2.2.1 x.1.2.2.2.2.1.1 x.1.2.2.2.2.1.2.1 x.1.2.2.2.2.2.1 x.2.1 x.2.2.2.2.2.1) (fun z => (((), (z.1, z.2.1, z.2.2.1, ()), (z.2.2.2.1, z.2.2.2.2.1, (), ()), z.2.2.2.2.2, ()), ((), (), ()))) (fun y => (y.1.2.1.1, y.1.2.1.2.1, y.1.2.1.2.2.1, y.1.2.2.1.1, y.1.2.2.1.2.1, y.1.2.2.2.1)) (fun _ => rfl)
theorem ZB1 (k : Nat) (b1_0 : Int) (b1_1 : Int) (b1_2 : Int) (b2_0 : Int) (b2_1 : Int) (o3 : List (Int × Int)) (b4_0 : Int) (b4_1 : Int) (o5 : List (Int × Int)) (v3 : Int) (v12 : Int) : ZbX k b1_0 b1_1 b1_2 b2_0 b2_1 o3 b4_0 b4_1 o5 v3 v12 = repl 2 (Z7T k b1_0 b1_1 b1_2 b2_0 b2_1 o3 b4_0 b4_1 o5 v3 v12) := by
 first
 | (simp only [ZbX, Z7T, Zd, Zi, Zf, Zg, Ze, Z4, if_true]; done)
 | (simp only [ZbX, Z7T, Zd, Zi, Zf, Zg, Ze, Z4, if_true]; simp only [Z1n, Z1o, Z2J, Z4]; simp only [Z44]; exact Z22 ⟨fun h => by simp only [h, and_self], fun h => by simp only [h, and_self]⟩)
noncomputable def Zac : Nat → Int → Int → List (Int × Int) → Int → Int → Int → Int → Int → List (Int × Int) → Int → Int → List (Int × Int) → List Int → List (Int × Int × Int) → Int → Int → Int → Option (LR (Int × Int × List (Int × Int) × Int × Int × Int × Int × Int × List (Int × Int) × Int × Int × List (Int × Int) × Int) ((Int × Int × Int) × Int × Int × List (Int × Int)))
 | 0, _, _, _, _, _, _, _, _, _, _, _, _, _, _, _, _, _ => none
 | k + 1, b1_0, b1_1, b1_2, b2_0, b2_1, b2_2, b3_0, b3_1, o4, b5_0, b5_1, o6, v1, v2, v3, v11, v12 =>
  if decide (v12 < b1_0) = true then Option.bind (Z4E k (b5_0, b5_1, o6) v12 v3) fun z1 => Option.bind (ZiQ k v2 v12 v3) fun z2 => if decide (z2 = (2 : Int)) = true then Option.bind (Z92 k b2_0 b2_1 b2_2 b3_0 b3_1 o4 b5_0 b5_1 o6 v3 v12) fun z3 => some (LR.ret ((Prod.fst z3, Prod.fst z3.2, Prod.fst z3.2.2), Prod.fst z3.2.2.2, Prod.fst z3.2.2.2.2, Prod.snd z3.2.2.2.2)) else if decide (Prod.fst z1 = (5 : Int)) = true then Option.bind (Z7N k b2_0 b2_1 b2_2 b3_0 b3_1 o4 b5_0 b5_1 o6 v3 v12) fun z4 => some (LR.ret ((Prod.fst z4, Prod.fst z4.2, Prod.fst z4.2.2), Prod.fst z4.2.2.2, Prod.fst z4.2.2.2.2, Prod.snd z4.2.2.2.2)) else Option.bind (Zae k (Prod.fst z1, Prod.snd z1) v11) fun z5 => Option.bind (Zdn k b1_0 b1_1 b1_2 b2_0 b2_1 b2_2 b3_0 b3_1 o4 b5_0 b5_1 o6 v1 v2 v3 v12 z5 (decide (z2 = (3 : Int)))) fun z6 => Option.bind (Zad k (Prod.fst z6.2.2.2.2.2.2.2.2.2, Prod.fst z6.2.2.2.2.2.2.2.2.2.2, Prod.fst z6.2.2.2.2.2.2.2.2.2.2.2) z6.2.2.2.2.2.2.2.2.2.2.2.2.1 (wrap64 (wrap64 (Prod.fst z6.2.2.2.2.2.2.2.2.2.2.2.2.2.2.2 * Prod.fst z6.2) + Prod.fst z6.2.2.2.2.2.2.2.2.2.2.2.2.2.2))) fun z7 => Option.bind (Z84 k z6.1 z6.2.1 z6.2.2.1 z6.2.2.2.1 z6.2.2.2.2.1 z6.2.2.2.2.2.1 z6.2.2.2.2.2.2.1 z6.2.2.2.2.2.2.2.1 z6.2.2.2.2.2.2.2.2.1 z6.2.2.2.2.2.2.2.2.2.1 z6.2.2.2.2.2.2.2.2.2.2.1 z7 z6.2.2.2.2.2.2.2.2.2.2.2.2.1 z6.2.2.2.2.2.2.2.2.2.2.2.2.2.1 z6.2.2.2.2.2.2.2.2.2.2.2.2.2.2.1 z6.2.2.2.2.2.2.2.2.2.2.2.2.2.2.2.1 z6.2.2.2.2.2.2.2.2.2.2.2.2.2.2.2.2 z6.2.2.2.2.2.2.2.2.2.2.2.2.2.1 (↑(List.length z6.2.2.2.2.2.2.2.2.2.2.2.2.2.1) : Int) (0 : Int)) fun z8 => Option.bind (Z1L k (wrap64 (Prod.fst z8.2.2.2.2.2.2.2.2.2.2.2.2.2.2 + Prod.snd z8.2.2.2.2.2.2.2.2.2.2.2.2.2.2.2)) (0 : Int) (wrap64 (Prod.fst z8.2 - (1 : Int)))) fun z9 => if (!z9) = true then Option.bind (Z7T k z8.2.2.2.1 z8.2.2.2.2.1 z8.2.2.2.2.2.1 z8.2.2.2.2.2.2.1 z8.2.2.2.2.2.2.2.1 z8.2.2.2.2.2.2.2.2.1 z8.2.2.2.2.2.2.2.2.2.1 z8.2.2.2.2.2.2.2.2.2.2.1 z8.2.2.2.2.2.2.2.2.2.2.2.1 (wrap64 (Prod.fst z8.2.2.2.2.2.2.2.2.2.2.2.2.2.2 + Prod.snd z8.2.2.2.2.2.2.2.2.2.2.2.2.2.2.2)) z8.2.2.2.2.2.2.2.2.2.2.2.2.2.2.2.1) fun z10 => some (LR.ret ((Prod.fst z10, Prod.fst z10.2, Prod.fst z10.2.2), Prod.fst z10.2.2.2, Prod.fst z10.2.2.2.2, Prod.snd z10.2.2.2.2)) else Zac k z8.1 z8.2.1 z8.2.2.1 z8.2.2.2.1 z8.2.2.2.2.1 z8.2.2.2.2.2.1 z8.2.2.2.2.2.2.1 z8.2.2.2.2.2.2.2.1 z8.2.2.2.2.2.2.2.2.1 z8.2.2.2.2.2.2.2.2.2.1 z8.2.2.2.2.2.2.2.2.2.2.1 z8.2.2.2.2.2.2.2.2.2.2.2.1 z8.2.2.2.2.2.2.2.2.2.2.2.2.1 z8.2.2.2.2.2.2.2.2.2.2.2.2.2.1 (wrap64 (Prod.fst z8.2.2.2.2.2.2.2.2.2.2.2.2.2.2 + Prod.snd z8.2.2.2.2.2.2.2.2.2.2.2.2.2.2.2)) (wrap64 ((0 : Int) - Prod.snd z8.2.2.2.2.2.2.2.2.2.2.2.2.2.2.2)) (wrap64 (Prod.fst z8.2.2.2.2.2.2.2.2.2.2.2.2.2.2.2 + (1 : Int))) else some (LR.go (b1_0, b1_1, b1_2, b2_0, b2_1, b2_2, b3_0, b3_1, o4, b5_0, b5_1, o6, v3))
noncomputable def Ziv : Spec := Spec.mk [OSh.ro, OSh.box (26 : Nat) [Sh.int .i64, Sh.int .i64, Sh.snap (0 : Nat) (Ty.pair (Ty.int .i64) (Ty.int .i64))], OSh.box (67 : Nat) [Sh.int .i64, Sh.int .i64, Sh.int .i64], OSh.box (26 : Nat) [Sh.int .i64, Sh.int .i64, Sh.sl (4 : Nat)], OSh.row true (122 : Nat) (Ty.pair (Ty.int .i64) (Ty.int .i64)), OSh.box (26 : Nat) [Sh.int .i64, Sh.int .i64, Sh.sl (6 : Nat)], OSh.row true (122 : Nat) (Ty.pair (Ty.int .i64) (Ty.int .i64))] [((1 : Nat), TSh.at (Sh.snap (0 : Nat) (Ty.int .i64))), ((2 : Nat), TSh.at (Sh.snap (0 : Nat) (Ty.pair (Ty.int .i64) (Ty.pair (Ty.int .i64) (Ty.int .i64))))), ((3 : Nat), TSh.at (Sh.int .i64)), ((4 : Nat), TSh.at (Sh.ptr (1 : Nat) (0 : Nat))), ((8 : Nat), TSh.at (Sh.ptr (2 : Nat) (0 : Nat))), ((9 : Nat), TSh.at (Sh.ptr (3 : Nat) (0 : Nat))), ((10 : Nat), TSh.at (Sh.ptr (5 : Nat) (0 : Nat))), ((11 : Nat), TSh.at (Sh.int .i64)), ((12 : Nat), TSh.at (Sh.int .i64))]
noncomputable def ZDe : Spec := Spec.mk [OSh.ro, OSh.box (26 : Nat) [Sh.int .i64, Sh.int .i64, Sh.snap (0 : Nat) (Ty.pair (Ty.int .i64) (Ty.int .i64))], OSh.box (67 : Nat) [Sh.int .i64, Sh.int .i64, Sh.int .i64], OSh.box (26 : Nat) [Sh.int .i64, Sh.int .i64, Sh.sl (4 : Nat)], OSh.row true (122 : Nat) (Ty.pair (Ty.int .i64) (Ty.int .i64)), OSh.box (26 : Nat) [Sh.int .i64, Sh.int .i64, Sh.sl (6 : Nat)], OSh.row true (122 : Nat) (Ty.pair (Ty.int .i64) (Ty.int .i64))] [((3 : Nat), TSh.at (Sh.int .i64)), ((4 : Nat), TSh.at (Sh.ptr (1 : Nat) (0 : Nat))), ((8 : Nat), TSh.at (Sh.ptr (2 : Nat) (0 : Nat))), ((9 : Nat), TSh.at (Sh.ptr (3 : Nat) (0 : Nat))), ((10 : Nat), TSh.at (Sh.ptr (5 : Nat) (0 : Nat)))]
noncomputable def Z8Y : LoopDef (Tup Z3N × OutD) := .rets Ziv ZDe (Int × Int × List (Int × Int) × Int × Int × Int × Int × Int × List (Int × Int) × Int × Int × List (Int × Int) × Int) ((Int × Int × Int) × Int × Int × List (Int × Int)) (fun k x => Zac k x.1.2.1.1 x.1.2.1.2.1 x.1.2.1.2.2.1 x.1.2.2.1.1 x.1.2.2.1.2.1 x.1.2.2.1.2.2.1 x.1.2.2.2.1.1 x.1.2.2.2.1.2.1 x.1.2.2.2.2.1 x.1.2.2.2.2.2.1.1 x.1.2.2.2.2.2.1.2.1 x.1.2.2.2.2.2.2.1 x.2.1 x.2.2.1 x.2.2.2.1 x.2.2.2.2.2.2.2.2.1 x.2.2.2.2.2.2.2.2.2.1) (fun z => (((), (z.1, z.2.1, z.2.2.1, ()), (z.2.2.2.1, z.2.2.2.2.1, z.2.2.2.2.2.1, ()), (z.2.2.2.2.2.2.1, z.2.2.2.2.2.2.2.1, (), ()), z.2.2.2.2.2.2.2.2.1, (z.2.2.2.2.2.2.2.2.2.1, z.2.2.2.2.2.2.2.2.2.2.1, (), ()), z.2.2.2.2.2.2.2.2.2.2.2.1, ()), (z.2.2.2.2.2.2.2.2.2.2.2.2, (), (), (), (), ()))) (fun y => (y.1.2.1.1, y.1.2.1.2.1, y.1.2.1.2.2.1, y.1.2.2.1.1, y.1.2.2.1.2.1, y.1.2.2.1.2.2.1, y.1.2.2.2.1.1, y.1.2.2.2.1.2.1, y.1.2.2.2.2.1, y.1.2.2.2.2.2.1.1, y.1.2.2.2.2.2.1.2.1, y.1.2.2.2.2.2.2.1, y.2.1)) (fun _ => rfl) Zni ZmC ZoD
noncomputable def Z7Z : Nat → Int → Int → List (Int × Int) → Int → Int → Int → Int → Int → List (Int × Int) → Int → Int → List (Int × Int) → Int → Option (Int × Int × Int × Int × Int × List (Int × Int)) := fun k b1_0 b1_1 b1_2 b2_0 b2_1 b2_2 b3_0 b3_1 o4 b5_0 b5_1 o6 v3 =>
    some ((1 : Int), b1_0, v3, b5_0, b5_1, o6)
noncomputable def Zcx : Nat → Int → Int → List (Int × Int) → Int → Int → Int → Int → Int → List (Int × Int) → Int → Int → List (Int × Int) → Int → Option (List (Int × Int × Int × Int × Int × List (Int × Int))) := fun k b1_0 b1_1 b1_2 b2_0 b2_1 b2_2 b3_0 b3_1 o4 b5_0 b5_1 o6 v3 =>
    joinL (some [((1 : Int), b1_0, v3, b5_0, b5_1, o6)]) (some [((1 : Int), b1_0, v3, b5_0, b5_1, o6)])
noncomputable def ZmA : Spec := Spec.mk [OSh.ro, OSh.box (26 : Nat) [Sh.int .i64, Sh.int .i64, Sh.snap (0 : Nat) (Ty.pair (Ty.int .i64) (Ty.int .i64))], OSh.box (67 : Nat) [Sh.int .i64, Sh.int .i64, Sh.int .i64], OSh.box (26 : Nat) [Sh.int .i64, Sh.int .i64, Sh.sl (4 : Nat)], OSh.row true (122 : Nat) (Ty.pair (Ty.int .i64) (Ty.int .i64)), OSh.box (26 : Nat) [Sh.int .i64, Sh.int .i64, Sh.sl (6 : Nat)], OSh.row true (122 : Nat) (Ty.pair (Ty.int .i64) (Ty.int .i64))] [((3 : Nat), TSh.at (Sh.int .i64)), ((4 : Nat), TSh.at (Sh.ptr (1 : Nat) (0 : Nat))), ((8 : Nat), TSh.at (Sh.ptr (2 : Nat) (0 : Nat))), ((9 : Nat), TSh.at (Sh.ptr (3 : Nat) (0 : Nat))), ((10 : Nat), TSh.at (Sh.ptr (5 : Nat) (0 : Nat)))]
noncomputable def ZzE : Spec := Spec.mk [OSh.ro, OSh.box (67 : Nat) [Sh.int .i64, Sh.int .i64, Sh.int .i64], OSh.box (26 : Nat) [Sh.int .i64, Sh.int .i64, Sh.sl (3 : Nat)], OSh.row true (122 : Nat) (Ty.pair (Ty.int .i64) (Ty.int .i64))] [((8 : Nat), TSh.at (Sh.ptr (1 : Nat) (0 : Nat))), ((9 : Nat), TSh.at (Sh.ptr (2 : Nat) (0 : Nat)))]
noncomputable def Z70 : LoopDef (Tup Z3N × OutD) := .plain ZmA ZzE (Int × Int × Int × Int × Int × List (Int × Int)) (fun k x => Z7Z k x.1.2.1.1 x.1.2.1.2.1 x.1.2.1.2.2.1 x.1.2.2.1.1 x.1.2.2.1.2.1 x.1.2.2.1.2.2.1 x.1.2.2.2.1.1 x.1.2.2.2.1.2.1 x.1.2.2.2.2.1 x.1.2.2.2.2.2.1.1 x.1.2.2.2.2.2.1.2.1 x.1.2.2.2.2.2.2.1 x.2.1) (fun z => (((), (z.1, z.2.1, z.2.2.1, ()), (z.2.2.2.1, z.2.2.2.2.1, (), ()), z.2.2.2.2.2, ()), ((), (), ()))) (fun y => (y.1.2.1.1, y.1.2.1.2.1, y.1.2.1.2.2.1, y.1.2.2.1.1, y.1.2.2.1.2.1, y.1.2.2.2.1)) (fun _ => rfl)
theorem ZzU (k : Nat) (b1_0 : Int) (b1_1 : Int) (b1_2 : List (Int × Int)) (b2_0 : Int) (b2_1 : Int) (b2_2 : Int) (b3_0 : Int) (b3_1 : Int) (o4 : List (Int × Int)) (b5_0 : Int) (b5_1 : Int) (o6 : List (Int × Int)) (v3 : Int) : Zcx k b1_0 b1_1 b1_2 b2_0 b2_1 b2_2 b3_0 b3_1 o4 b5_0 b5_1 o6 v3 = repl 2 (Z7Z k b1_0 b1_1 b1_2 b2_0 b2_1 b2_2 b3_0 b3_1 o4 b5_0 b5_1 o6 v3) := by
 first
 | (simp only [Zcx, Z7Z, Zd, Zi, Zf, Zg, Ze, Z4, if_true]; done)
 | (simp only [Zcx, Z7Z, Zd, Zi, Zf, Zg, Ze, Z4, if_true]; simp only [Z1n, Z1o, Z2J, Z4]; simp only [Z44]; exact Z22 ⟨fun h => by simp only [h, and_self], fun h => by simp only [h, and_self]⟩)
noncomputable def ZiW : Nat → Int × Int × List (Int × Int) → List Int → List (Int × Int × Int) → Int → Option ((Int × Int × Int) × Int × Int × List (Int × Int))
 | 0, _, _, _, _ => none
 | k + 1, p0, p1, p2, p3 =>
  Option.bind (Z3y k (Prod.fst p0, Prod.fst p0.2, Prod.snd p0.2)) fun z0 => Option.bind (Zac k p0.1 p0.2.1 p0.2.2 (0 : Int) (0 : Int) (0 : Int) (0 : Int) (0 : Int) [] z0.1 z0.2.1 z0.2.2 p1 p2 p3 (0 : Int) (0 : Int)) fun z11 => LR.on z11 (fun y11 => Option.bind (Z7Z k y11.1 y11.2.1 y11.2.2.1 y11.2.2.2.1 y11.2.2.2.2.1 y11.2.2.2.2.2.1 y11.2.2.2.2.2.2.1 y11.2.2.2.2.2.2.2.1 y11.2.2.2.2.2.2.2.2.1 y11.2.2.2.2.2.2.2.2.2.1 y11.2.2.2.2.2.2.2.2.2.2.1 y11.2.2.2.2.2.2.2.2.2.2.2.1 y11.2.2.2.2.2.2.2.2.2.2.2.2) fun z12 => some ((Prod.fst z12, Prod.fst z12.2, Prod.fst z12.2.2), Prod.fst z12.2.2.2, Prod.fst z12.2.2.2.2, Prod.snd z12.2.2.2.2)) fun r11 => some r11
noncomputable def Z8N : FnDef := .of ZyC Z3N ((Int × Int × Int) × Int × Int × List (Int × Int)) (fun k x => ZiW k x.1 x.2.1 x.2.2.1 x.2.2.2.1) Zni ZmC ZoD
noncomputable def Z4F : Code := Tryz.f114.body.getD .skip
noncomputable def Z6 : Ctx (Tup Z3N × OutD) := { T := T, G := [(111, Z3A.E), (105, Z4D.E), (135, Z8K.E), (133, Z4M.E), (134, Z4J.E), (59, Z25.E)], mvs := [], no := 0, n := 111, res := resOf T ZyC Z3N Tryz.f114.results.toList, loops := [(2, Z8R.E), (0, Z8Y.E)], regs := [(9, Z7W.E), (11, Z71.E), (26, Z7a.E), (27, Z70.E)], conds := [(52, Z1w.E)], cuts := [] }
theorem Z8J (k : Nat) : EnvOK Tryz.prog k Z6.G := (EnvOK.cons (Zhe k) (EnvOK.cons (ZiR k) (EnvOK.cons (ZGg k) (EnvOK.cons (ZtO k) (EnvOK.cons (Ztk k) (EnvOK.cons (Z8I k) (EnvOK.nil mixed)))))))
noncomputable def ZgX : Array Oper := (findReg 9 Z4F).getD #[]
theorem ZBP (k : Nat) (x : ZoM.D) : execD Z6.T Z6.G Z6.mvs k ZgX (Z7W.inp.st Z6.n x) (outK Z6 Z7W) = Zdr k x.1.2.1.1 x.1.2.1.2.1 x.1.2.1.2.2.1 x.1.2.2.1.1 x.1.2.2.1.2.1 x.1.2.2.2.1 x.1.2.2.2.2.1.1 x.1.2.2.2.2.1.2.1 x.1.2.2.2.2.2.1 x.2.1 x.2.2.2.2.2.1 := by kernel_rfl
theorem Zzl (k : Nat) : EOK Tryz.prog Z6 k Z7W.E (.region 9 ZgX true) := Z5X (D := Z7W) (m := 2) T_ok (Z8J k) (fun x => (ZBP k x).trans (ZBK k x.1.2.1.1 x.1.2.1.2.1 x.1.2.1.2.2.1 x.1.2.2.1.1 x.1.2.2.1.2.1 x.1.2.2.2.1 x.1.2.2.2.2.1.1 x.1.2.2.2.2.1.2.1 x.1.2.2.2.2.2.1 x.2.1 x.2.2.2.2.2.1))
noncomputable def Zg0 : Array Oper := (findReg 11 Z4F).getD #[]
theorem ZB9 (k : Nat) (x : Zlu.D) : execD Z6.T Z6.G Z6.mvs k Zg0 (Z71.inp.st Z6.n x) (outK Z6 Z71) = ZbQ k x.1.2.1.1 x.1.2.1.2.1 x.1.2.1.2.2.1 x.1.2.2.1.1 x.1.2.2.1.2.1 x.1.2.2.2.1 x.1.2.2.2.2.1.1 x.1.2.2.2.2.1.2.1 x.1.2.2.2.2.2.1 x.2.1 x.2.2.2.2.2.1 := by kernel_rfl
theorem Zxq (k : Nat) : EOK Tryz.prog Z6 k Z71.E (.region 11 Zg0 true) := Z5X (D := Z71) (m := 2) T_ok (Z8J k) (fun x => (ZB9 k x).trans (Zzw k x.1.2.1.1 x.1.2.1.2.1 x.1.2.1.2.2.1 x.1.2.2.1.1 x.1.2.2.1.2.1 x.1.2.2.2.1 x.1.2.2.2.2.1.1 x.1.2.2.2.2.1.2.1 x.1.2.2.2.2.2.1 x.2.1 x.2.2.2.2.2.1))
noncomputable def ZfJ : Array Oper := (findReg 26 Z4F).getD #[]
theorem ZAJ (k : Nat) (x : ZmV.D) : execD Z6.T Z6.G Z6.mvs k ZfJ (Z7a.inp.st Z6.n x) (outK Z6 Z7a) = ZbX k x.1.2.1.1 x.1.2.1.2.1 x.1.2.1.2.2.1 x.1.2.2.1.1 x.1.2.2.1.2.1 x.1.2.2.2.1 x.1.2.2.2.2.1.1 x.1.2.2.2.2.1.2.1 x.1.2.2.2.2.2.1 x.2.1 x.2.2.2.2.2.1 := by kernel_rfl
theorem ZxS (k : Nat) : EOK Tryz.prog Z6 k Z7a.E (.region 26 ZfJ true) := Z5X (D := Z7a) (m := 2) T_ok (Z8J k) (fun x => (ZAJ k x).trans (ZB1 k x.1.2.1.1 x.1.2.1.2.1 x.1.2.1.2.2.1 x.1.2.2.1.1 x.1.2.2.1.2.1 x.1.2.2.2.1 x.1.2.2.2.2.1.1 x.1.2.2.2.2.1.2.1 x.1.2.2.2.2.2.1 x.2.1 x.2.2.2.2.2.1))
noncomputable def ZfF : Array Oper := (findReg 27 Z4F).getD #[]
theorem ZB0 (k : Nat) (x : ZmA.D) : execD Z6.T Z6.G Z6.mvs k ZfF (Z70.inp.st Z6.n x) (outK Z6 Z70) = Zcx k x.1.2.1.1 x.1.2.1.2.1 x.1.2.1.2.2.1 x.1.2.2.1.1 x.1.2.2.1.2.1 x.1.2.2.1.2.2.1 x.1.2.2.2.1.1 x.1.2.2.2.1.2.1 x.1.2.2.2.2.1 x.1.2.2.2.2.2.1.1 x.1.2.2.2.2.2.1.2.1 x.1.2.2.2.2.2.2.1 x.2.1 := by kernel_rfl
theorem Zxv (k : Nat) : EOK Tryz.prog Z6 k Z70.E (.region 27 ZfF true) := Z5X (D := Z70) (m := 2) T_ok (Z8J k) (fun x => (ZB0 k x).trans (ZzU k x.1.2.1.1 x.1.2.1.2.1 x.1.2.1.2.2.1 x.1.2.2.1.1 x.1.2.2.1.2.1 x.1.2.2.1.2.2.1 x.1.2.2.2.1.1 x.1.2.2.2.1.2.1 x.1.2.2.2.2.1 x.1.2.2.2.2.2.1.1 x.1.2.2.2.2.2.1.2.1 x.1.2.2.2.2.2.2.1 x.2.1))
noncomputable def ZcC : Code := ((findCond 52 Z4F).map (·.1)).getD .skip
noncomputable def ZcE : Code := ((findCond 52 Z4F).map (·.2)).getD .skip
theorem ZA3 (k : Nat) (i : Z1w.inp.D) : Z1w.lp k i = branch (Z1w.inp.st Z6.n i) (.tmp 52) (fun st => exec Z6 k ZcC st (outK Z6 Z1w) (fun _ _ => none) Z1w.mkB) (fun st => exec Z6 k ZcE st (outK Z6 Z1w) (fun _ _ => none) Z1w.mkB) := by kernel_rfl
theorem ZxV (k : Nat) : EOK Tryz.prog Z6 k Z1w.E (.cond (.tmp 52) ZcC ZcE) := Zlh (D := Z1w) T_ok (Z8J k) (ZA3 k) (@LOK.by _ _ _ _ ZcC [] (by kernel_rfl) AllOK.nil) (@LOK.by _ _ _ _ ZcE [] (by kernel_rfl) AllOK.nil)
noncomputable def Zec : Code := (findLoop 2 Z4F).getD .skip
theorem ZCO (k : Nat) (x : ZiA.D) : Z8R.lp (k + 1) x = loopK Z6 Z8R 2 Zec k x := by kernel_rfl
theorem ZCV (k : Nat) : LOK Tryz.prog Z6 k Zec := LOK.by [] (by kernel_rfl) AllOK.nil
theorem ZCG (x : ZiA.D) : Z8R.lp 0 x = none := by kernel_rfl
theorem ZC8 (k : Nat) : EOK Tryz.prog Z6 k Z8R.E (.block 2 (.loop Zec)) := Zb T_ok Z8J ZCG ZCO ZCV k
noncomputable def Zeg : Code := (findLoop 0 Z4F).getD .skip
theorem ZDJ (k : Nat) (x : Ziv.D) : Z8Y.lp (k + 1) x = loopK Z6 Z8Y 0 Zeg k x := by kernel_rfl
theorem ZCU (k : Nat) : LOK Tryz.prog Z6 k Zeg := LOK.by [(Z7W.E, .region 9 ZgX true), (Z71.E, .region 11 Zg0 true), (Z1w.E, .cond (.tmp 52) ZcC ZcE), (Z8R.E, .block 2 (.loop Zec)), (Z7a.E, .region 26 ZfJ true)] (by kernel_rfl) (AllOK.cons (Zzl k) (AllOK.cons (Zxq k) (AllOK.cons (ZxV k) (AllOK.cons (ZC8 k) (AllOK.cons (ZxS k) AllOK.nil)))))
theorem ZDD (x : Ziv.D) : Z8Y.lp 0 x = none := by kernel_rfl
theorem ZCa (k : Nat) : EOK Tryz.prog Z6 k Z8Y.E (.block 0 (.loop Zeg)) := Zb T_ok Z8J ZDD ZDJ ZCU k
theorem ZGi (k : Nat) (x : Tup Z8N.ps) : Z8N.f (k + 1) x = fnK Z8N Z6 Z4F k x := by kernel_rfl
theorem ZGx (x : Tup Z8N.ps) : Z8N.f 0 x = none := by kernel_rfl
theorem ZGP (k : Nat) : LOK Tryz.prog Z6 k Z4F := LOK.by [(Z8Y.E, .block 0 (.loop Zeg)), (Z70.E, .region 27 ZfF true)] (by kernel_rfl) (AllOK.cons (ZCa k) (AllOK.cons (Zxv k) AllOK.nil))
theorem ZGO (k : Nat) : SoundAt Tryz.prog k 114 Z8N.E := @Z3 Tryz.prog Z8N Z6 114 Tryz.f114 Z4F (by kernel_rfl) (by kernel_rfl) (by kernel_rfl) Tryz.func114 (by kernel_rfl) (by kernel_rfl) (by kernel_rfl) T_ok Z8J ZGP ZGx ZGi k
noncomputable def Z6b : List PK := [PK.mk (Ty.pair (Ty.int .i64) (Ty.pair (Ty.int .i64) (Ty.int .i64))) true none false none]
noncomputable def Zkg : List PK := [PK.mk (Ty.pair (Ty.int .i64) (Ty.pair (Ty.int .i64) (Ty.slice (122 : Nat) (Ty.pair (Ty.int .i64) (Ty.int .i64))))) true (some ((2 : Nat), (122 : Nat), Ty.pair (Ty.int .i64) (Ty.int .i64))) false none, PK.mk (Ty.slice (3 : Nat) (Ty.int .i64)) false none false none, PK.mk (Ty.slice (3 : Nat) (Ty.int .i64)) false none false none, PK.mk (Ty.int .i64) false none false none]
noncomputable def ZdZ (r : (Int × Int × Int) × List (Int × Int)) : Tup Z6b × OutD := ((r.1, ()), some ⟨Ty.pair (Ty.int .i64) (Ty.int .i64), r.2⟩)
noncomputable def ZaD : Tup Z6b × OutD → Option ((Int × Int × Int) × List (Int × Int))
 | (a, some ⟨u, ys⟩) => if h : u = Ty.pair (Ty.int .i64) (Ty.int .i64) then some (a.1, castU h ys) else none
 | _ => none
theorem Zgx : ∀ b r, ZaD b = some r → ZdZ r = b := by
 rintro ⟨a, o⟩ r h
 cases o with
 | none => cases h
 | some s =>
  obtain ⟨u, ys⟩ := s
  simp only [ZaD] at h
  split at h
  ·rename_i hu; subst hu; injection h with h; subst h; rfl
  ·cases h
noncomputable def ZK : Nat → List (Int × Int) → Int → Int → Int → Int → Int → List Int → List Int → Int → Int → Int → Option (LR (List (Int × Int) × Int × Int × Int × Int × Int × Int) ((Int × Int × Int) × List (Int × Int)))
 | 0, _, _, _, _, _, _, _, _, _, _, _ => none
 | k + 1, o1, b2_0, b2_1, b3_0, b3_1, b3_2, v1, v2, v3, v9, v10 =>
  if decide (v10 < b2_0) = true then if (0 : Int) ≤ wrap64 (wrap64 (v10 * b2_1) + v3) then if wrap64 (wrap64 (v10 * b2_1) + v3) < (↑(List.length v2) : Int) then if decide (List.getD v2 (Int.toNat (wrap64 (wrap64 (v10 * b2_1) + v3))) (0 : Int) = (2 : Int)) = true then some (LR.ret (((3 : Int), v10, v3), o1)) else if (0 : Int) ≤ wrap64 (wrap64 (v10 * b2_1) + v3) then if wrap64 (wrap64 (v10 * b2_1) + v3) < (↑(List.length o1) : Int) then Option.bind (ZcN k (Prod.fst (List.getD o1 (Int.toNat (wrap64 (wrap64 (v10 * b2_1) + v3))) ((0 : Int), (0 : Int))), Prod.snd (List.getD o1 (Int.toNat (wrap64 (wrap64 (v10 * b2_1) + v3))) ((0 : Int), (0 : Int)))) v9) fun z0 => if (!Prod.snd z0) = true then some (LR.ret (((2 : Int), v10, v3), o1)) else if (0 : Int) ≤ wrap64 (wrap64 (v10 * b2_1) + v3) then if wrap64 (wrap64 (v10 * b2_1) + v3) < (↑(List.length v2) : Int) then if decide (List.getD v2 (Int.toNat (wrap64 (wrap64 (v10 * b2_1) + v3))) (0 : Int) = (3 : Int)) = true then if (0 : Int) ≤ wrap64 (wrap64 (v10 * b2_1) + v3) then if wrap64 (wrap64 (v10 * b2_1) + v3) < (↑(List.length o1) : Int) then Option.bind (Z2P k (Prod.fst (List.getD o1 (Int.toNat (wrap64 (wrap64 (v10 * b2_1) + v3))) ((0 : Int), (0 : Int))), Prod.snd (List.getD o1 (Int.toNat (wrap64 (wrap64 (v10 * b2_1) + v3))) ((0 : Int), (0 : Int))))) fun z1 => if z1 = true then Option.bind (Z6d k (b2_0, b2_1, o1) v1 v2 (wrap64 (wrap64 (v10 * b2_1) + v3))) fun z2 => if decide (wrap64 (v3 + wrap64 ((0 : Int) - Prod.fst z0)) < (0 : Int)) = true then some (LR.ret (((3 : Int), v10, wrap64 (v3 + wrap64 ((0 : Int) - Prod.fst z0))), z2)) else if decide (wrap64 (v3 + wrap64 ((0 : Int) - Prod.fst z0)) ≥ b2_1) = true then some (LR.ret (((3 : Int), v10, wrap64 (v3 + wrap64 ((0 : Int) - Prod.fst z0))), z2)) else ZK k z2 b2_0 b2_1 b3_0 b3_1 b3_2 v1 v2 (wrap64 (v3 + wrap64 ((0 : Int) - Prod.fst z0))) (wrap64 ((0 : Int) - wrap64 ((0 : Int) - Prod.fst z0))) (wrap64 (v10 + (1 : Int))) else if decide (wrap64 (v3 + wrap64 ((0 : Int) - Prod.fst z0)) < (0 : Int)) = true then some (LR.ret (((3 : Int), v10, wrap64 (v3 + wrap64 ((0 : Int) - Prod.fst z0))), o1)) else if decide (wrap64 (v3 + wrap64 ((0 : Int) - Prod.fst z0)) ≥ b2_1) = true then some (LR.ret (((3 : Int), v10, wrap64 (v3 + wrap64 ((0 : Int) - Prod.fst z0))), o1)) else ZK k o1 b2_0 b2_1 b3_0 b3_1 b3_2 v1 v2 (wrap64 (v3 + wrap64 ((0 : Int) - Prod.fst z0))) (wrap64 ((0 : Int) - wrap64 ((0 : Int) - Prod.fst z0))) (wrap64 (v10 + (1 : Int))) else none else none else if (0 : Int) ≤ wrap64 (wrap64 (v10 * b2_1) + v3) then if wrap64 (wrap64 (v10 * b2_1) + v3) < (↑(List.length o1) : Int) then Option.bind (Z2P k (Prod.fst (List.getD o1 (Int.toNat (wrap64 (wrap64 (v10 * b2_1) + v3))) ((0 : Int), (0 : Int))), Prod.snd (List.getD o1 (Int.toNat (wrap64 (wrap64 (v10 * b2_1) + v3))) ((0 : Int), (0 : Int))))) fun z3 => if z3 = true then Option.bind (Z6d k (b2_0, b2_1, o1) v1 v2 (wrap64 (wrap64 (v10 * b2_1) + v3))) fun z4 => if decide (wrap64 (v3 + Prod.fst z0) < (0 : Int)) = true then some (LR.ret (((3 : Int), v10, wrap64 (v3 + Prod.fst z0)), z4)) else if decide (wrap64 (v3 + Prod.fst z0) ≥ b2_1) = true then some (LR.ret (((3 : Int), v10, wrap64 (v3 + Prod.fst z0)), z4)) else ZK k z4 b2_0 b2_1 b3_0 b3_1 b3_2 v1 v2 (wrap64 (v3 + Prod.fst z0)) (wrap64 ((0 : Int) - Prod.fst z0)) (wrap64 (v10 + (1 : Int))) else if decide (wrap64 (v3 + Prod.fst z0) < (0 : Int)) = true then some (LR.ret (((3 : Int), v10, wrap64 (v3 + Prod.fst z0)), o1)) else if decide (wrap64 (v3 + Prod.fst z0) ≥ b2_1) = true then some (LR.ret (((3 : Int), v10, wrap64 (v3 + Prod.fst z0)), o1)) else ZK k o1 b2_0 b2_1 b3_0 b3_1 b3_2 v1 v2 (wrap64 (v3 + Prod.fst z0)) (wrap64 ((0 : Int) - Prod.fst z0)) (wrap64 (v10 + (1 : Int))) else none else none else none else none else none else none else none else none else some (LR.go (o1, b2_0, b2_1, b3_0, b3_1, b3_2, v3))
noncomputable def Zch : Spec := Spec.mk [OSh.ro, OSh.row false (122 : Nat) (Ty.pair (Ty.int .i64) (Ty.int .i64)), OSh.box (26 : Nat) [Sh.int .i64, Sh.int .i64, Sh.sl (1 : Nat)], OSh.box (67 : Nat) [Sh.int .i64, Sh.int .i64, Sh.int .i64]] [((1 : Nat), TSh.at (Sh.snap (0 : Nat) (Ty.int .i64))), ((2 : Nat), TSh.at (Sh.snap (0 : Nat) (Ty.int .i64))), ((3 : Nat), TSh.at (Sh.int .i64)), ((4 : Nat), TSh.at (Sh.ptr (2 : Nat) (0 : Nat))), ((8 : Nat), TSh.at (Sh.ptr (3 : Nat) (0 : Nat))), ((9 : Nat), TSh.at (Sh.int .i64)), ((10 : Nat), TSh.at (Sh.int .i64))]
noncomputable def Zsq : Spec := Spec.mk [OSh.ro, OSh.row false (122 : Nat) (Ty.pair (Ty.int .i64) (Ty.int .i64)), OSh.box (26 : Nat) [Sh.int .i64, Sh.int .i64, Sh.sl (1 : Nat)], OSh.box (67 : Nat) [Sh.int .i64, Sh.int .i64, Sh.int .i64]] [((3 : Nat), TSh.at (Sh.int .i64)), ((4 : Nat), TSh.at (Sh.ptr (2 : Nat) (0 : Nat))), ((8 : Nat), TSh.at (Sh.ptr (3 : Nat) (0 : Nat)))]
noncomputable def Z41 : LoopDef (Tup Z6b × OutD) := .rets Zch Zsq (List (Int × Int) × Int × Int × Int × Int × Int × Int) ((Int × Int × Int) × List (Int × Int)) (fun k x => ZK k x.1.2.1 x.1.2.2.1.1 x.1.2.2.1.2.1 x.1.2.2.2.1.1 x.1.2.2.2.1.2.1 x.1.2.2.2.1.2.2.1 x.2.1 x.2.2.1 x.2.2.2.1 x.2.2.2.2.2.2.1 x.2.2.2.2.2.2.2.1) (fun z => (((), z.1, (z.2.1, z.2.2.1, (), ()), (z.2.2.2.1, z.2.2.2.2.1, z.2.2.2.2.2.1, ()), ()), (z.2.2.2.2.2.2, (), (), ()))) (fun y => (y.1.2.1, y.1.2.2.1.1, y.1.2.2.1.2.1, y.1.2.2.2.1.1, y.1.2.2.2.1.2.1, y.1.2.2.2.1.2.2.1, y.2.1)) (fun _ => rfl) ZdZ ZaD Zgx
noncomputable def Zb3 : Nat → Int × Int × List (Int × Int) → List Int → List Int → Int → Option ((Int × Int × Int) × List (Int × Int))
 | 0, _, _, _, _ => none
 | k + 1, p0, p1, p2, p3 =>
  Option.bind (ZK k p0.2.2 p0.1 p0.2.1 (0 : Int) (0 : Int) (0 : Int) p1 p2 p3 (0 : Int) (0 : Int)) fun z5 => LR.on z5 (fun y5 => some (((1 : Int), Prod.fst y5.2, Prod.snd y5.2.2.2.2.2), Prod.fst y5)) fun r5 => some r5
noncomputable def Z39 : FnDef := .of Zkg Z6b ((Int × Int × Int) × List (Int × Int)) (fun k x => Zb3 k x.1 x.2.1 x.2.2.1 x.2.2.2.1) ZdZ ZaD Zgx
noncomputable def Zb6 : Code := Tryz.f119.body.getD .skip
noncomputable def Z4b : Ctx (Tup Z6b × OutD) := { T := T, G := [(138, Z4H.E), (126, Z2Q.E), (139, Z3a.E)], mvs := [], no := 1, n := 87, res := resOf T Zkg Z6b Tryz.f119.results.toList, loops := [(0, Z41.E)], regs := [], conds := [], cuts := [] }
theorem ZjY (k : Nat) : EnvOK Tryz.prog k Z4b.G := (EnvOK.cons (Zu4 k) (EnvOK.cons (Zmj k) (EnvOK.cons (ZxB k) (EnvOK.nil mixed))))
noncomputable def Z8C : Code := (findLoop 0 Zb6).getD .skip
theorem Zsl (k : Nat) (x : Zch.D) : Z41.lp (k + 1) x = loopK Z4b Z41 0 Z8C k x := by kernel_rfl
theorem Zso (k : Nat) : LOK Tryz.prog Z4b k Z8C := LOK.by [] (by kernel_rfl) AllOK.nil
theorem ZsX (x : Zch.D) : Z41.lp 0 x = none := by kernel_rfl
theorem ZqK (k : Nat) : EOK Tryz.prog Z4b k Z41.E (.block 0 (.loop Z8C)) := Zb T_ok ZjY ZsX Zsl Zso k
theorem Zxi (k : Nat) (x : Tup Z39.ps) : Z39.f (k + 1) x = fnK Z39 Z4b Zb6 k x := by kernel_rfl
theorem ZxQ (x : Tup Z39.ps) : Z39.f 0 x = none := by kernel_rfl
theorem Zy0 (k : Nat) : LOK Tryz.prog Z4b k Zb6 := LOK.by [(Z41.E, .block 0 (.loop Z8C))] (by kernel_rfl) (AllOK.cons (ZqK k) AllOK.nil)
theorem ZxD (k : Nat) : SoundAt Tryz.prog k 119 Z39.E := @Z3 Tryz.prog Z39 Z4b 119 Tryz.f119 Zb6 (by kernel_rfl) (by kernel_rfl) (by kernel_rfl) Tryz.func119 (by kernel_rfl) (by kernel_rfl) (by kernel_rfl) T_ok ZjY Zy0 ZxQ Zxi k
noncomputable def Z8c : List PK := [PK.mk (Ty.pair (Ty.int .i64) (Ty.int .i64)) true none false none]
noncomputable def Zkk : List PK := [PK.mk (Ty.pair (Ty.slice (5 : Nat) (Ty.int .u8)) (Ty.pair (Ty.int .i64) (Ty.int .u64))) false none false (some (82 : Nat))]
noncomputable def Zja (r : (Int × Int) × Int × Int) : Tup Z8c × OutD := ((r.1, ()), some ⟨Ty.pair (Ty.slice (5 : Nat) (Ty.int .u8)) (Ty.pair (Ty.int .i64) (Ty.int .u64)), [([], r.2)]⟩)
noncomputable def ZdT : Tup Z8c × OutD → Option ((Int × Int) × Int × Int)
 | (a, some ⟨u, ys⟩) => if h : u = Ty.pair (Ty.slice (5 : Nat) (Ty.int .u8)) (Ty.pair (Ty.int .i64) (Ty.int .u64)) then (match castU h ys with
  | [([], y)] => some (a.1, y)
  | _ => none) else none
 | _ => none
theorem Zqu : ∀ b r, ZdT b = some r → Zja r = b := by
 rintro ⟨a, o⟩ r h
 cases o with
 | none => cases h
 | some s =>
  obtain ⟨u, ys⟩ := s
  simp only [ZdT] at h
  split at h
  ·rename_i hu
   subst hu
   match ys, h with
   | [], h => cases (show (none : Option _) = some r from h)
   | [([], y)], h => injection (show some _ = some r from h) with h; subst h; rfl
   | [(_ :: _, y)], h => cases (show (none : Option _) = some r from h)
   | (h1, _) :: _ :: _, h => cases h1 <;> cases (show (none : Option _) = some r from h)
  ·cases h
noncomputable def Z17 : Nat → List Int × Int × Int → Option ((Int × Int) × Int × Int)
 | 0, _ => none
 | k + 1, p0 =>
  Option.bind (Zh0 k) fun z0 => Option.bind (Z0 k (Prod.fst p0, Prod.fst p0.2, Prod.snd p0.2) (↑(List.length z0) : Int)) fun z1 => if (0 : Int) ≤ Prod.fst z1 then if Prod.fst z1 < (↑(List.length z0) : Int) then some ((Prod.fst (List.getD z0 (Int.toNat z1.1) ((0 : Int), (0 : Int))), Prod.snd (List.getD z0 (Int.toNat z1.1) ((0 : Int), (0 : Int)))), Prod.fst z1.2, Prod.snd z1.2) else none else none
noncomputable def Z1M : FnDef := .of Zkk Z8c ((Int × Int) × Int × Int) (fun k x => Z17 k x.1) Zja ZdT Zqu
noncomputable def ZeU : Code := Tryz.f121.body.getD .skip
noncomputable def Zbb : Ctx (Tup Z8c × OutD) := { T := T, G := [(144, Z7C.E), (73, Za.E)], mvs := [], no := 2, n := 12, res := resOf T Zkk Z8c Tryz.f121.results.toList, loops := [], regs := [], conds := [], cuts := [] }
theorem Zy1 (k : Nat) : EnvOK Tryz.prog k Zbb.G := (EnvOK.cons (ZFI k) (EnvOK.cons (ZA k) (EnvOK.nil mixed)))
theorem Zy6 (k : Nat) (x : Tup Z1M.ps) : Z1M.f (k + 1) x = fnK Z1M Zbb ZeU k x := by kernel_rfl
theorem Zyl (x : Tup Z1M.ps) : Z1M.f 0 x = none := by kernel_rfl
theorem Zy5 (k : Nat) : LOK Tryz.prog Zbb k ZeU := LOK.by [] (by kernel_rfl) AllOK.nil
theorem ZeY (k : Nat) : SoundAt Tryz.prog k 121 Z1M.E := @Z3 Tryz.prog Z1M Zbb 121 Tryz.f121 ZeU (by kernel_rfl) (by kernel_rfl) (by kernel_rfl) Tryz.func121 (by kernel_rfl) (by kernel_rfl) (by kernel_rfl) T_ok Zy1 Zy5 Zyl Zy6 k
noncomputable def Z5Y : List PK := [PK.mk (Ty.pair (Ty.int .i64) (Ty.pair (Ty.int .i64) (Ty.slice (122 : Nat) (Ty.pair (Ty.int .i64) (Ty.int .i64))))) true none false none]
noncomputable def Zo9 : List PK := [PK.mk (Ty.pair (Ty.int .i64) (Ty.pair (Ty.int .i64) (Ty.slice (122 : Nat) (Ty.pair (Ty.int .i64) (Ty.int .i64))))) true none false none]
noncomputable def Znl (r : Int × Int × List (Int × Int)) : Tup Z5Y × OutD := ((r, ()), none)
noncomputable def Zlj : Tup Z5Y × OutD → Option (Int × Int × List (Int × Int))
 | (a, none) => some (a.1)
 | _ => none
theorem Zvc : ∀ b r, Zlj b = some r → Znl r = b := by
 rintro ⟨a, o⟩ r h
 cases o with
 | none => injection h with h; subst h; rfl
 | some _ => cases h
noncomputable def Z6c : Nat → Int → Int → List (Int × Int) → Int → Int → List (Int × Int) → Int → Int → List (Int × Int) → Int → Int → Option (Int × Int × List (Int × Int) × Int × Int × List (Int × Int) × Int × Int × List (Int × Int) × Int)
 | 0, _, _, _, _, _, _, _, _, _, _, _ => none
 | k + 1, b1_0, b1_1, b1_2, b2_0, b2_1, o3, b4_0, b4_1, o5, v4, v5 =>
  if decide (v5 ≥ (0 : Int)) = true then Option.bind (Z4E k (b1_0, b1_1, b1_2) v4 v5) fun z0 => Option.bind (Zdx k (Prod.fst z0, Prod.snd z0)) fun z1 => if List.length o5 + List.length [(Prod.fst z1, Prod.snd z1)] ≤ (140737488355328 / 16 : Nat) then Z6c k b1_0 b1_1 b1_2 b2_0 b2_1 o3 b4_0 b4_1 (o5 ++ [(Prod.fst z1, Prod.snd z1)]) v4 (wrap64 (v5 - (1 : Int))) else none else some (b1_0, b1_1, b1_2, b2_0, b2_1, o3, b4_0, b4_1, o5, v4)
noncomputable def ZdF : Spec := Spec.mk [OSh.ro, OSh.box (26 : Nat) [Sh.int .i64, Sh.int .i64, Sh.snap (0 : Nat) (Ty.pair (Ty.int .i64) (Ty.int .i64))], OSh.box (26 : Nat) [Sh.int .i64, Sh.int .i64, Sh.sl (3 : Nat)], OSh.row true (122 : Nat) (Ty.pair (Ty.int .i64) (Ty.int .i64)), OSh.box (26 : Nat) [Sh.int .i64, Sh.int .i64, Sh.sl (5 : Nat)], OSh.row true (122 : Nat) (Ty.pair (Ty.int .i64) (Ty.int .i64))] [((1 : Nat), TSh.at (Sh.ptr (1 : Nat) (0 : Nat))), ((2 : Nat), TSh.at (Sh.ptr (2 : Nat) (0 : Nat))), ((3 : Nat), TSh.at (Sh.ptr (4 : Nat) (0 : Nat))), ((4 : Nat), TSh.at (Sh.int .i64)), ((5 : Nat), TSh.at (Sh.int .i64))]
noncomputable def Zws : Spec := Spec.mk [OSh.ro, OSh.box (26 : Nat) [Sh.int .i64, Sh.int .i64, Sh.snap (0 : Nat) (Ty.pair (Ty.int .i64) (Ty.int .i64))], OSh.box (26 : Nat) [Sh.int .i64, Sh.int .i64, Sh.sl (3 : Nat)], OSh.row true (122 : Nat) (Ty.pair (Ty.int .i64) (Ty.int .i64)), OSh.box (26 : Nat) [Sh.int .i64, Sh.int .i64, Sh.sl (5 : Nat)], OSh.row true (122 : Nat) (Ty.pair (Ty.int .i64) (Ty.int .i64))] [((1 : Nat), TSh.at (Sh.ptr (1 : Nat) (0 : Nat))), ((2 : Nat), TSh.at (Sh.ptr (2 : Nat) (0 : Nat))), ((3 : Nat), TSh.at (Sh.ptr (4 : Nat) (0 : Nat))), ((4 : Nat), TSh.at (Sh.int .i64))]
noncomputable def Z54 : LoopDef (Tup Z5Y × OutD) := .plain ZdF Zws (Int × Int × List (Int × Int) × Int × Int × List (Int × Int) × Int × Int × List (Int × Int) × Int) (fun k x => Z6c k x.1.2.1.1 x.1.2.1.2.1 x.1.2.1.2.2.1 x.1.2.2.1.1 x.1.2.2.1.2.1 x.1.2.2.2.1 x.1.2.2.2.2.1.1 x.1.2.2.2.2.1.2.1 x.1.2.2.2.2.2.1 x.2.2.2.2.1 x.2.2.2.2.2.1) (fun z => (((), (z.1, z.2.1, z.2.2.1, ()), (z.2.2.2.1, z.2.2.2.2.1, (), ()), z.2.2.2.2.2.1, (z.2.2.2.2.2.2.1, z.2.2.2.2.2.2.2.1, (), ()), z.2.2.2.2.2.2.2.2.1, ()), ((), (), (), z.2.2.2.2.2.2.2.2.2, ()))) (fun y => (y.1.2.1.1, y.1.2.1.2.1, y.1.2.1.2.2.1, y.1.2.2.1.1, y.1.2.2.1.2.1, y.1.2.2.2.1, y.1.2.2.2.2.1.1, y.1.2.2.2.2.1.2.1, y.1.2.2.2.2.2.1, y.2.2.2.2.1)) (fun _ => rfl)
noncomputable def Z68 : Nat → Int → Int → List (Int × Int) → Int → Int → List (Int × Int) → Int → Int → List (Int × Int) → Int → Option (Int × Int × List (Int × Int) × Int × Int × List (Int × Int))
 | 0, _, _, _, _, _, _, _, _, _, _ => none
 | k + 1, b1_0, b1_1, b1_2, b2_0, b2_1, o3, b4_0, b4_1, o5, v4 =>
  if decide (v4 < b1_0) = true then Option.bind (Z6c k b1_0 b1_1 b1_2 b2_0 b2_1 o3 b4_0 b4_1 o5 v4 (wrap64 (b1_1 - (1 : Int)))) fun z2 => Z68 k z2.1 z2.2.1 z2.2.2.1 z2.2.2.2.1 z2.2.2.2.2.1 z2.2.2.2.2.2.1 z2.2.2.2.2.2.2.1 z2.2.2.2.2.2.2.2.1 z2.2.2.2.2.2.2.2.2.1 (wrap64 (Prod.snd z2.2.2.2.2.2.2.2.2 + (1 : Int))) else some (b2_0, b2_1, o3, b4_0, b4_1, o5)
noncomputable def ZdI : Spec := Spec.mk [OSh.ro, OSh.box (26 : Nat) [Sh.int .i64, Sh.int .i64, Sh.snap (0 : Nat) (Ty.pair (Ty.int .i64) (Ty.int .i64))], OSh.box (26 : Nat) [Sh.int .i64, Sh.int .i64, Sh.sl (3 : Nat)], OSh.row true (122 : Nat) (Ty.pair (Ty.int .i64) (Ty.int .i64)), OSh.box (26 : Nat) [Sh.int .i64, Sh.int .i64, Sh.sl (5 : Nat)], OSh.row true (122 : Nat) (Ty.pair (Ty.int .i64) (Ty.int .i64))] [((1 : Nat), TSh.at (Sh.ptr (1 : Nat) (0 : Nat))), ((2 : Nat), TSh.at (Sh.ptr (2 : Nat) (0 : Nat))), ((3 : Nat), TSh.at (Sh.ptr (4 : Nat) (0 : Nat))), ((4 : Nat), TSh.at (Sh.int .i64))]
noncomputable def Zx5 : Spec := Spec.mk [OSh.ro, OSh.box (26 : Nat) [Sh.int .i64, Sh.int .i64, Sh.sl (2 : Nat)], OSh.row true (122 : Nat) (Ty.pair (Ty.int .i64) (Ty.int .i64)), OSh.box (26 : Nat) [Sh.int .i64, Sh.int .i64, Sh.sl (4 : Nat)], OSh.row true (122 : Nat) (Ty.pair (Ty.int .i64) (Ty.int .i64))] [((2 : Nat), TSh.at (Sh.ptr (1 : Nat) (0 : Nat))), ((3 : Nat), TSh.at (Sh.ptr (3 : Nat) (0 : Nat)))]
noncomputable def Z5m : LoopDef (Tup Z5Y × OutD) := .plain ZdI Zx5 (Int × Int × List (Int × Int) × Int × Int × List (Int × Int)) (fun k x => Z68 k x.1.2.1.1 x.1.2.1.2.1 x.1.2.1.2.2.1 x.1.2.2.1.1 x.1.2.2.1.2.1 x.1.2.2.2.1 x.1.2.2.2.2.1.1 x.1.2.2.2.2.1.2.1 x.1.2.2.2.2.2.1 x.2.2.2.2.1) (fun z => (((), (z.1, z.2.1, (), ()), z.2.2.1, (z.2.2.2.1, z.2.2.2.2.1, (), ()), z.2.2.2.2.2, ()), ((), (), ()))) (fun y => (y.1.2.1.1, y.1.2.1.2.1, y.1.2.2.1, y.1.2.2.2.1.1, y.1.2.2.2.1.2.1, y.1.2.2.2.2.1)) (fun _ => rfl)
noncomputable def Zdj : Nat → Int × Int × List (Int × Int) → Option (Int × Int × List (Int × Int))
 | 0, _ => none
 | k + 1, p0 =>
  Option.bind (Z68 k p0.1 p0.2.1 p0.2.2 (0 : Int) (0 : Int) [] p0.1 p0.2.1 [] (0 : Int)) fun z3 => some (Prod.fst z3.2.2.2, Prod.fst z3.2.2.2.2, Prod.snd z3.2.2.2.2)
noncomputable def Z4m : FnDef := .of Zo9 Z5Y (Int × Int × List (Int × Int)) (fun k x => Zdj k x.1) Znl Zlj Zvc
noncomputable def Zap : Code := Tryz.f125.body.getD .skip
noncomputable def Z2v : Ctx (Tup Z5Y × OutD) := { T := T, G := [(105, Z4D.E), (146, Z4g.E)], mvs := [], no := 0, n := 35, res := resOf T Zo9 Z5Y Tryz.f125.results.toList, loops := [(2, Z54.E), (0, Z5m.E)], regs := [], conds := [], cuts := [] }
theorem ZhA (k : Nat) : EnvOK Tryz.prog k Z2v.G := (EnvOK.cons (ZiR k) (EnvOK.cons (ZCi k) (EnvOK.nil mixed)))
noncomputable def Zao : Code := (findLoop 2 Zap).getD .skip
theorem ZvD (k : Nat) (x : ZdF.D) : Z54.lp (k + 1) x = loopK Z2v Z54 2 Zao k x := by kernel_rfl
theorem Zww (k : Nat) : LOK Tryz.prog Z2v k Zao := LOK.by [] (by kernel_rfl) AllOK.nil
theorem ZwA (x : ZdF.D) : Z54.lp 0 x = none := by kernel_rfl
theorem Zv5 (k : Nat) : EOK Tryz.prog Z2v k Z54.E (.block 2 (.loop Zao)) := Zb T_ok ZhA ZwA ZvD Zww k
noncomputable def ZaA : Code := (findLoop 0 Zap).getD .skip
theorem Zwn (k : Nat) (x : ZdI.D) : Z5m.lp (k + 1) x = loopK Z2v Z5m 0 ZaA k x := by kernel_rfl
theorem Zw5 (k : Nat) : LOK Tryz.prog Z2v k ZaA := LOK.by [(Z54.E, .block 2 (.loop Zao))] (by kernel_rfl) (AllOK.cons (Zv5 k) AllOK.nil)
theorem Zwg (x : ZdI.D) : Z5m.lp 0 x = none := by kernel_rfl
theorem Zv7 (k : Nat) : EOK Tryz.prog Z2v k Z5m.E (.block 0 (.loop ZaA)) := Zb T_ok ZhA Zwg Zwn Zw5 k
theorem ZBY (k : Nat) (x : Tup Z4m.ps) : Z4m.f (k + 1) x = fnK Z4m Z2v Zap k x := by kernel_rfl
theorem ZCb (x : Tup Z4m.ps) : Z4m.f 0 x = none := by kernel_rfl
theorem ZCv (k : Nat) : LOK Tryz.prog Z2v k Zap := LOK.by [(Z5m.E, .block 0 (.loop ZaA))] (by kernel_rfl) (AllOK.cons (Zv7 k) AllOK.nil)
theorem ZBi (k : Nat) : SoundAt Tryz.prog k 125 Z4m.E := @Z3 Tryz.prog Z4m Z2v 125 Tryz.f125 Zap (by kernel_rfl) (by kernel_rfl) (by kernel_rfl) Tryz.func125 (by kernel_rfl) (by kernel_rfl) (by kernel_rfl) T_ok ZhA ZCv ZCb ZBY k
noncomputable def ZcZ : List PK := [PK.mk (Ty.pair (Ty.int .i64) (Ty.pair (Ty.int .i64) (Ty.int .i64))) true none false none, PK.mk (Ty.slice (3 : Nat) (Ty.int .i64)) false none false none]
noncomputable def ZyL : List PK := [PK.mk (Ty.pair (Ty.int .i64) (Ty.pair (Ty.int .i64) (Ty.slice (122 : Nat) (Ty.pair (Ty.int .i64) (Ty.int .i64))))) true (some ((2 : Nat), (122 : Nat), Ty.pair (Ty.int .i64) (Ty.int .i64))) false none, PK.mk (Ty.slice (3 : Nat) (Ty.int .i64)) false none false none, PK.mk (Ty.int .i64) false none false none]
noncomputable def ZlC (r : (Int × Int × Int) × List Int × List (Int × Int)) : Tup ZcZ × OutD := ((r.1, r.2.1, ()), some ⟨Ty.pair (Ty.int .i64) (Ty.int .i64), r.2.2⟩)
noncomputable def ZhG : Tup ZcZ × OutD → Option ((Int × Int × Int) × List Int × List (Int × Int))
 | (a, some ⟨u, ys⟩) => if h : u = Ty.pair (Ty.int .i64) (Ty.int .i64) then some (a.1, a.2.1, castU h ys) else none
 | _ => none
theorem ZoE : ∀ b r, ZhG b = some r → ZlC r = b := by
 rintro ⟨a, o⟩ r h
 cases o with
 | none => cases h
 | some s =>
  obtain ⟨u, ys⟩ := s
  simp only [ZhG] at h
  split at h
  ·rename_i hu; subst hu; injection h with h; subst h; rfl
  ·cases h
noncomputable def Z2R : Nat → List (Int × Int) → Int → Int → Int → Int → Int → List Int → List Int → Int → Int → Int → Option (LR (List (Int × Int) × Int × Int × Int × Int × Int × List Int × Int) ((Int × Int × Int) × List Int × List (Int × Int)))
 | 0, _, _, _, _, _, _, _, _, _, _, _ => none
 | k + 1, o1, b2_0, b2_1, b3_0, b3_1, b3_2, o4, v1, v2, v9, v10 =>
  if decide (v10 < b2_0) = true then if List.length o4 + List.length [wrap64 (wrap64 (v10 * b2_1) + v2)] ≤ (140737488355328 / 8 : Nat) then if (0 : Int) ≤ wrap64 (wrap64 (v10 * b2_1) + v2) then if wrap64 (wrap64 (v10 * b2_1) + v2) < (↑(List.length o1) : Int) then Option.bind (ZcN k (Prod.fst (List.getD o1 (Int.toNat (wrap64 (wrap64 (v10 * b2_1) + v2))) ((0 : Int), (0 : Int))), Prod.snd (List.getD o1 (Int.toNat (wrap64 (wrap64 (v10 * b2_1) + v2))) ((0 : Int), (0 : Int)))) v9) fun z0 => if (!Prod.snd z0) = true then some (LR.ret (((2 : Int), v10, v2), o4 ++ [wrap64 (wrap64 (v10 * b2_1) + v2)], o1)) else if decide (Prod.fst (List.getD o1 (Int.toNat (wrap64 (wrap64 (v10 * b2_1) + v2))) ((0 : Int), (0 : Int))) = (3 : Int)) = true then if (0 : Int) ≤ wrap64 (wrap64 (v10 * b2_1) + v2) then if wrap64 (wrap64 (v10 * b2_1) + v2) < (↑(List.length o1) : Int) then if decide (Prod.fst (List.getD o1 (Int.toNat (wrap64 (wrap64 (v10 * b2_1) + v2))) ((0 : Int), (0 : Int))) = (6 : Int)) = true then Option.bind (Z9z k (b2_0, b2_1, List.set o1 (Int.toNat (wrap64 (wrap64 (v10 * b2_1) + v2))) (Prod.fst (List.getD o1 (Int.toNat (wrap64 (wrap64 (v10 * b2_1) + v2))) ((0 : Int), (0 : Int))), wrap64 ((1 : Int) - Prod.snd (List.getD o1 (Int.toNat (wrap64 (wrap64 (v10 * b2_1) + v2))) ((0 : Int), (0 : Int)))))) v1 (wrap64 (wrap64 (v10 * b2_1) + v2))) fun z1 => if decide (wrap64 (v2 + Prod.fst z0) < (0 : Int)) = true then some (LR.ret (((3 : Int), v10, wrap64 (v2 + Prod.fst z0)), o4 ++ [wrap64 (wrap64 (v10 * b2_1) + v2)], z1)) else if decide (wrap64 (v2 + Prod.fst z0) ≥ b2_1) = true then some (LR.ret (((3 : Int), v10, wrap64 (v2 + Prod.fst z0)), o4 ++ [wrap64 (wrap64 (v10 * b2_1) + v2)], z1)) else Z2R k z1 b2_0 b2_1 b3_0 b3_1 b3_2 (o4 ++ [wrap64 (wrap64 (v10 * b2_1) + v2)]) v1 (wrap64 (v2 + Prod.fst z0)) (wrap64 ((0 : Int) - Prod.fst z0)) (wrap64 (v10 + (1 : Int))) else if decide (wrap64 (v2 + Prod.fst z0) < (0 : Int)) = true then some (LR.ret (((3 : Int), v10, wrap64 (v2 + Prod.fst z0)), o4 ++ [wrap64 (wrap64 (v10 * b2_1) + v2)], List.set o1 (Int.toNat (wrap64 (wrap64 (v10 * b2_1) + v2))) (Prod.fst (List.getD o1 (Int.toNat (wrap64 (wrap64 (v10 * b2_1) + v2))) ((0 : Int), (0 : Int))), wrap64 ((1 : Int) - Prod.snd (List.getD o1 (Int.toNat (wrap64 (wrap64 (v10 * b2_1) + v2))) ((0 : Int), (0 : Int))))))) else if decide (wrap64 (v2 + Prod.fst z0) ≥ b2_1) = true then some (LR.ret (((3 : Int), v10, wrap64 (v2 + Prod.fst z0)), o4 ++ [wrap64 (wrap64 (v10 * b2_1) + v2)], List.set o1 (Int.toNat (wrap64 (wrap64 (v10 * b2_1) + v2))) (Prod.fst (List.getD o1 (Int.toNat (wrap64 (wrap64 (v10 * b2_1) + v2))) ((0 : Int), (0 : Int))), wrap64 ((1 : Int) - Prod.snd (List.getD o1 (Int.toNat (wrap64 (wrap64 (v10 * b2_1) + v2))) ((0 : Int), (0 : Int))))))) else Z2R k (List.set o1 (Int.toNat (wrap64 (wrap64 (v10 * b2_1) + v2))) (Prod.fst (List.getD o1 (Int.toNat (wrap64 (wrap64 (v10 * b2_1) + v2))) ((0 : Int), (0 : Int))), wrap64 ((1 : Int) - Prod.snd (List.getD o1 (Int.toNat (wrap64 (wrap64 (v10 * b2_1) + v2))) ((0 : Int), (0 : Int)))))) b2_0 b2_1 b3_0 b3_1 b3_2 (o4 ++ [wrap64 (wrap64 (v10 * b2_1) + v2)]) v1 (wrap64 (v2 + Prod.fst z0)) (wrap64 ((0 : Int) - Prod.fst z0)) (wrap64 (v10 + (1 : Int))) else none else none else if decide (Prod.fst (List.getD o1 (Int.toNat (wrap64 (wrap64 (v10 * b2_1) + v2))) ((0 : Int), (0 : Int))) = (6 : Int)) = true then Option.bind (Z9z k (b2_0, b2_1, o1) v1 (wrap64 (wrap64 (v10 * b2_1) + v2))) fun z2 => if decide (wrap64 (v2 + Prod.fst z0) < (0 : Int)) = true then some (LR.ret (((3 : Int), v10, wrap64 (v2 + Prod.fst z0)), o4 ++ [wrap64 (wrap64 (v10 * b2_1) + v2)], z2)) else if decide (wrap64 (v2 + Prod.fst z0) ≥ b2_1) = true then some (LR.ret (((3 : Int), v10, wrap64 (v2 + Prod.fst z0)), o4 ++ [wrap64 (wrap64 (v10 * b2_1) + v2)], z2)) else Z2R k z2 b2_0 b2_1 b3_0 b3_1 b3_2 (o4 ++ [wrap64 (wrap64 (v10 * b2_1) + v2)]) v1 (wrap64 (v2 + Prod.fst z0)) (wrap64 ((0 : Int) - Prod.fst z0)) (wrap64 (v10 + (1 : Int))) else if decide (wrap64 (v2 + Prod.fst z0) < (0 : Int)) = true then some (LR.ret (((3 : Int), v10, wrap64 (v2 + Prod.fst z0)), o4 ++ [wrap64 (wrap64 (v10 * b2_1) + v2)], o1)) else if decide (wrap64 (v2 + Prod.fst z0) ≥ b2_1) = true then some (LR.ret (((3 : Int), v10, wrap64 (v2 + Prod.fst z0)), o4 ++ [wrap64 (wrap64 (v10 * b2_1) + v2)], o1)) else Z2R k o1 b2_0 b2_1 b3_0 b3_1 b3_2 (o4 ++ [wrap64 (wrap64 (v10 * b2_1) + v2)]) v1 (wrap64 (v2 + Prod.fst z0)) (wrap64 ((0 : Int) - Prod.fst z0)) (wrap64 (v10 + (1 : Int))) else none else none else none else some (LR.go (o1, b2_0, b2_1, b3_0, b3_1, b3_2, o4, v2))
noncomputable def Zik : Spec := Spec.mk [OSh.ro, OSh.row false (122 : Nat) (Ty.pair (Ty.int .i64) (Ty.int .i64)), OSh.box (26 : Nat) [Sh.int .i64, Sh.int .i64, Sh.sl (1 : Nat)], OSh.box (67 : Nat) [Sh.int .i64, Sh.int .i64, Sh.int .i64], OSh.row true (3 : Nat) (Ty.int .i64)] [((1 : Nat), TSh.at (Sh.snap (0 : Nat) (Ty.int .i64))), ((2 : Nat), TSh.at (Sh.int .i64)), ((3 : Nat), TSh.at (Sh.ptr (2 : Nat) (0 : Nat))), ((6 : Nat), TSh.at (Sh.ptr (3 : Nat) (0 : Nat))), ((8 : Nat), TSh.at (Sh.sl (4 : Nat))), ((9 : Nat), TSh.at (Sh.int .i64)), ((10 : Nat), TSh.at (Sh.int .i64))]
noncomputable def ZD9 : Spec := Spec.mk [OSh.ro, OSh.row false (122 : Nat) (Ty.pair (Ty.int .i64) (Ty.int .i64)), OSh.box (26 : Nat) [Sh.int .i64, Sh.int .i64, Sh.sl (1 : Nat)], OSh.box (67 : Nat) [Sh.int .i64, Sh.int .i64, Sh.int .i64], OSh.row true (3 : Nat) (Ty.int .i64)] [((2 : Nat), TSh.at (Sh.int .i64)), ((3 : Nat), TSh.at (Sh.ptr (2 : Nat) (0 : Nat))), ((6 : Nat), TSh.at (Sh.ptr (3 : Nat) (0 : Nat))), ((8 : Nat), TSh.at (Sh.sl (4 : Nat)))]
noncomputable def Z8X : LoopDef (Tup ZcZ × OutD) := .rets Zik ZD9 (List (Int × Int) × Int × Int × Int × Int × Int × List Int × Int) ((Int × Int × Int) × List Int × List (Int × Int)) (fun k x => Z2R k x.1.2.1 x.1.2.2.1.1 x.1.2.2.1.2.1 x.1.2.2.2.1.1 x.1.2.2.2.1.2.1 x.1.2.2.2.1.2.2.1 x.1.2.2.2.2.1 x.2.1 x.2.2.1 x.2.2.2.2.2.2.1 x.2.2.2.2.2.2.2.1) (fun z => (((), z.1, (z.2.1, z.2.2.1, (), ()), (z.2.2.2.1, z.2.2.2.2.1, z.2.2.2.2.2.1, ()), z.2.2.2.2.2.2.1, ()), (z.2.2.2.2.2.2.2, (), (), (), ()))) (fun y => (y.1.2.1, y.1.2.2.1.1, y.1.2.2.1.2.1, y.1.2.2.2.1.1, y.1.2.2.2.1.2.1, y.1.2.2.2.1.2.2.1, y.1.2.2.2.2.1, y.2.1)) (fun _ => rfl) ZlC ZhG ZoE
noncomputable def ZiT : Nat → Int × Int × List (Int × Int) → List Int → Int → Option ((Int × Int × Int) × List Int × List (Int × Int))
 | 0, _, _, _ => none
 | k + 1, p0, p1, p2 =>
  Option.bind (Z2R k p0.2.2 p0.1 p0.2.1 (0 : Int) (0 : Int) (0 : Int) [] p1 p2 (0 : Int) (0 : Int)) fun z3 => LR.on z3 (fun y3 => some (((1 : Int), Prod.fst y3.2, Prod.snd y3.2.2.2.2.2.2), Prod.fst y3.2.2.2.2.2.2, Prod.fst y3)) fun r3 => some r3
noncomputable def Z8M : FnDef := .of ZyL ZcZ ((Int × Int × Int) × List Int × List (Int × Int)) (fun k x => ZiT k x.1 x.2.1 x.2.2.1) ZlC ZhG ZoE
noncomputable def ZiV : Code := Tryz.f127.body.getD .skip
noncomputable def ZaR : Ctx (Tup ZcZ × OutD) := { T := T, G := [(138, Z4H.E), (147, Z3H.E)], mvs := [], no := 1, n := 89, res := resOf T ZyL ZcZ Tryz.f127.results.toList, loops := [(0, Z8X.E)], regs := [], conds := [], cuts := [] }
theorem ZyE (k : Nat) : EnvOK Tryz.prog k ZaR.G := (EnvOK.cons (Zu4 k) (EnvOK.cons (ZAP k) (EnvOK.nil mixed)))
noncomputable def Zeo : Code := (findLoop 0 ZiV).getD .skip
theorem ZCZ (k : Nat) (x : Zik.D) : Z8X.lp (k + 1) x = loopK ZaR Z8X 0 Zeo k x := by kernel_rfl
theorem ZD2 (k : Nat) : LOK Tryz.prog ZaR k Zeo := LOK.by [] (by kernel_rfl) AllOK.nil
theorem ZCW (x : Zik.D) : Z8X.lp 0 x = none := by kernel_rfl
theorem ZBw (k : Nat) : EOK Tryz.prog ZaR k Z8X.E (.block 0 (.loop Zeo)) := Zb T_ok ZyE ZCW ZCZ ZD2 k
theorem ZGH (k : Nat) (x : Tup Z8M.ps) : Z8M.f (k + 1) x = fnK Z8M ZaR ZiV k x := by kernel_rfl
theorem ZGJ (x : Tup Z8M.ps) : Z8M.f 0 x = none := by kernel_rfl
theorem ZGt (k : Nat) : LOK Tryz.prog ZaR k ZiV := LOK.by [(Z8X.E, .block 0 (.loop Zeo))] (by kernel_rfl) (AllOK.cons (ZBw k) AllOK.nil)
theorem ZGM (k : Nat) : SoundAt Tryz.prog k 127 Z8M.E := @Z3 Tryz.prog Z8M ZaR 127 Tryz.f127 ZiV (by kernel_rfl) (by kernel_rfl) (by kernel_rfl) Tryz.func127 (by kernel_rfl) (by kernel_rfl) (by kernel_rfl) T_ok ZyE ZGt ZGJ ZGH k
end
end Go.Proofs.YtglkedenkcpcbaaGreatDoor.Vs
