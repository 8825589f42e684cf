/- The proof, part 7. -/
import Derived.Test.YtglkedenkcpcbaaqCm5
set_option maxRecDepth 100000
set_option maxHeartbeats 2000000
set_option linter.unusedVariables false
set_option linter.unusedSimpArgs false
namespace Go.Proofs.Ytglkedenkcpcbaa.Vs
open Go.RowKit
noncomputable section
noncomputable def Z8u : List PK := [PK.mk (Ty.slice (3 : Nat) (Ty.int .i64)) false none false none]
noncomputable def Zpz : List PK := [PK.mk (Ty.pair (Ty.int .i64) (Ty.pair (Ty.int .i64) (Ty.slice (71 : Nat) (Ty.pair (Ty.int .i64) (Ty.int .i64))))) true none false none]
noncomputable def Zo8 (r : List Int) : Tup Z8u × OutD := ((r, ()), none)
noncomputable def ZmN : Tup Z8u × OutD → Option (List Int)
 | (a, none) => some (a.1)
 | _ => none
theorem Ztq : ∀ b r, ZmN b = some r → Zo8 r = b := by
 rintro ⟨a, o⟩ r h
 cases o with
 | none => injection h with h; subst h; rfl
 | some _ => cases h
noncomputable def Z6V : Nat → Int → Int → List (Int × Int) → List Int → List (List Int) → Int → Int → Option (List Int)
 | 0, _, _, _, _, _, _, _ => none
 | k + 1, b1_0, b1_1, b1_2, o2, o3, v9, v10 =>
  if decide (v10 < v9) = true then if (0 : Int) ≤ v10 then if v10 < (↑(List.length o3) : Int) then if (0 : Int) < (↑(List.length (List.getD o3 (Int.toNat v10) [])) : Int) then if (0 : Int) ≤ List.getD (List.getD o3 (Int.toNat v10) []) (Int.toNat (0 : Int)) (0 : Int) then if List.getD (List.getD o3 (Int.toNat v10) []) (Int.toNat (0 : Int)) (0 : Int) < (↑(List.length b1_2) : Int) then if List.length o2 + List.length [Prod.snd (List.getD b1_2 (Int.toNat (List.getD (List.getD o3 (Int.toNat v10) []) (Int.toNat (0 : Int)) (0 : Int))) ((0 : Int), (0 : Int)))] ≤ (140737488355328 / 8 : Nat) then Z6V k b1_0 b1_1 b1_2 (o2 ++ [Prod.snd (List.getD b1_2 (Int.toNat (List.getD (List.getD o3 (Int.toNat v10) []) (Int.toNat (0 : Int)) (0 : Int))) ((0 : Int), (0 : Int)))]) o3 v9 (wrap64 (v10 + (1 : Int))) else none else none else none else none else none else none else some o2
noncomputable def Zef : Spec := Spec.mk [OSh.ro, OSh.box (26 : Nat) [Sh.int .i64, Sh.int .i64, Sh.snap (0 : Nat) (Ty.pair (Ty.int .i64) (Ty.int .i64))], OSh.row true (3 : Nat) (Ty.int .i64), OSh.row true (36 : Nat) (Ty.slice (3 : Nat) (Ty.int .i64))] [((1 : Nat), TSh.at (Sh.ptr (1 : Nat) (0 : Nat))), ((3 : Nat), TSh.at (Sh.sl (2 : Nat))), ((8 : Nat), TSh.at (Sh.sl (3 : Nat))), ((9 : Nat), TSh.at (Sh.int .i64)), ((10 : Nat), TSh.at (Sh.int .i64))]
noncomputable def ZvA : Spec := Spec.mk [OSh.ro, OSh.row true (3 : Nat) (Ty.int .i64)] [((3 : Nat), TSh.at (Sh.sl (1 : Nat)))]
noncomputable def Z5N : LoopDef (Tup Z8u × OutD) := .plain Zef ZvA (List Int) (fun k x => Z6V k x.1.2.1.1 x.1.2.1.2.1 x.1.2.1.2.2.1 x.1.2.2.1 x.1.2.2.2.1 x.2.2.2.2.1 x.2.2.2.2.2.1) (fun z => (((), z, ()), ((), ()))) (fun y => (y.1.2.1)) (fun _ => rfl)
noncomputable def Z7i : Nat → Int × Int × List (Int × Int) → Option (List Int)
 | 0, _ => none
 | k + 1, p0 =>
  Option.bind (Z4i k (Prod.fst p0, Prod.fst p0.2, Prod.snd p0.2)) fun z0 => Option.bind (Z6V k p0.1 p0.2.1 p0.2.2 [] z0 (↑(List.length z0) : Int) (0 : Int)) fun z1 => some z1
noncomputable def Z3u : FnDef := .of Zpz Z8u (List Int) (fun k x => Z7i k x.1) Zo8 ZmN Ztq
noncomputable def ZdM : Code := Try.f41.body.getD .skip
noncomputable def Z7n : Ctx (Tup Z8u × OutD) := { T := T, G := [(63, Z1A.E)], mvs := [], no := 0, n := 27, res := resOf T Zpz Z8u Try.f41.results.toList, loops := [(0, Z5N.E)], regs := [], conds := [], cuts := [] }
theorem ZpI (k : Nat) : EnvOK Try.prog k Z7n.G := (EnvOK.cons (Za3 k) (EnvOK.nil mixed))
noncomputable def ZaO : Code := (findLoop 0 ZdM).getD .skip
theorem Zwk (k : Nat) (x : Zef.D) : Z5N.lp (k + 1) x = loopK Z7n Z5N 0 ZaO k x := by kernel_rfl
theorem Zv4 (k : Nat) : LOK Try.prog Z7n k ZaO := LOK.by [] (by kernel_rfl) AllOK.nil
theorem Zwj (x : Zef.D) : Z5N.lp 0 x = none := by kernel_rfl
theorem Zu9 (k : Nat) : EOK Try.prog Z7n k Z5N.E (.block 0 (.loop ZaO)) := Z8 T_ok ZpI Zwj Zwk Zv4 k
theorem Zzy (k : Nat) (x : Tup Z3u.ps) : Z3u.f (k + 1) x = fnK Z3u Z7n ZdM k x := by kernel_rfl
theorem Zzj (x : Tup Z3u.ps) : Z3u.f 0 x = none := by kernel_rfl
theorem ZzS (k : Nat) : LOK Try.prog Z7n k ZdM := LOK.by [(Z5N.E, .block 0 (.loop ZaO))] (by kernel_rfl) (AllOK.cons (Zu9 k) AllOK.nil)
theorem Zhj (k : Nat) : SoundAt Try.prog k 41 Z3u.E := @Z4 Try.prog Z3u Z7n 41 Try.f41 ZdM (by kernel_rfl) (by kernel_rfl) (by kernel_rfl) Try.func41 (by kernel_rfl) (by kernel_rfl) (by kernel_rfl) T_ok ZpI ZzS Zzj Zzy k
noncomputable def Z1Y : List PK := [PK.mk (Ty.slice (36 : Nat) (Ty.slice (3 : Nat) (Ty.int .i64))) false none false none]
noncomputable def ZfJ : List PK := [PK.mk (Ty.pair (Ty.int .i64) (Ty.pair (Ty.int .i64) (Ty.slice (71 : Nat) (Ty.pair (Ty.int .i64) (Ty.int .i64))))) true none false none, PK.mk (Ty.slice (3 : Nat) (Ty.int .i64)) false none false none]
noncomputable def Zf0 (r : List (List Int)) : Tup Z1Y × OutD := ((r, ()), none)
noncomputable def Zf4 : Tup Z1Y × OutD → Option (List (List Int))
 | (a, none) => some (a.1)
 | _ => none
theorem ZkD : ∀ b r, Zf4 b = some r → Zf0 r = b := by
 rintro ⟨a, o⟩ r h
 cases o with
 | none => injection h with h; subst h; rfl
 | some _ => cases h
noncomputable def Z38 : Nat → Int → Int → List (Int × Int) → List (List Int) → List Int → List (List Int) → Int → Int → List (Int × Int) → List Int → Int → Int → Int → List Int → Int → Int → Int → Int → Int → Int → Option (Int × Int × List (Int × Int) × List (List Int) × List Int × List (List Int) × List Int × Int × Int × Int × List Int × Int × Int × Int × Int)
 | 0, _, _, _, _, _, _, _, _, _, _, _, _, _, _, _, _, _, _, _, _ => none
 | k + 1, b1_0, b1_1, b1_2, o2, o3, o4, b5_0, b5_1, o6, o7, v8, v9, v10, v21, v22, v23, v39, v40, v60, v61 =>
  if decide (v61 < v60) = true then if (0 : Int) ≤ v61 then if v61 < (↑(List.length o2) : Int) then if (0 : Int) < (↑(List.length (List.getD o2 (Int.toNat v61) [])) : Int) then if (0 : Int) ≤ List.getD (List.getD o2 (Int.toNat v61) []) (Int.toNat (0 : Int)) (0 : Int) then if List.getD (List.getD o2 (Int.toNat v61) []) (Int.toNat (0 : Int)) (0 : Int) < (↑(List.length o6) : Int) then if (0 : Int) ≤ v61 then if v61 < (↑(List.length o7) : Int) then Z38 k b1_0 b1_1 b1_2 o2 o3 o4 b5_0 b5_1 o6 (List.set o7 (Int.toNat v61) (Prod.snd (List.getD o6 (Int.toNat (List.getD (List.getD o2 (Int.toNat v61) []) (Int.toNat (0 : Int)) (0 : Int))) ((0 : Int), (0 : Int))))) v8 v9 v10 v21 v22 v23 v39 v40 v60 (wrap64 (v61 + (1 : Int))) else none else none else none else none else none else none else none else some (b1_0, b1_1, b1_2, o2, o3, o4, o7, v8, v9, v10, v21, v22, v23, v39, v40)
noncomputable def Z99 : Spec := Spec.mk [OSh.ro, OSh.box (26 : Nat) [Sh.int .i64, Sh.int .i64, Sh.snap (0 : Nat) (Ty.pair (Ty.int .i64) (Ty.int .i64))], OSh.row true (36 : Nat) (Ty.slice (3 : Nat) (Ty.int .i64)), OSh.row true (3 : Nat) (Ty.int .i64), OSh.row true (36 : Nat) (Ty.slice (3 : Nat) (Ty.int .i64)), OSh.box (26 : Nat) [Sh.int .i64, Sh.int .i64, Sh.sl (6 : Nat)], OSh.row true (71 : Nat) (Ty.pair (Ty.int .i64) (Ty.int .i64)), OSh.row true (3 : Nat) (Ty.int .i64)] [((2 : Nat), TSh.at (Sh.ptr (1 : Nat) (0 : Nat))), ((5 : Nat), TSh.at (Sh.sl (2 : Nat))), ((6 : Nat), TSh.at (Sh.sl (3 : Nat))), ((7 : Nat), TSh.at (Sh.sl (4 : Nat))), ((8 : Nat), TSh.at (Sh.int .i64)), ((9 : Nat), TSh.at (Sh.int .i64)), ((10 : Nat), TSh.at (Sh.int .i64)), ((11 : Nat), TSh.at (Sh.ptr (5 : Nat) (0 : Nat))), ((12 : Nat), TSh.at (Sh.sl (7 : Nat))), ((21 : Nat), TSh.at (Sh.snap (0 : Nat) (Ty.int .i64))), ((22 : Nat), TSh.at (Sh.int .i64)), ((23 : Nat), TSh.at (Sh.int .i64)), ((39 : Nat), TSh.at (Sh.int .i64)), ((40 : Nat), TSh.at (Sh.int .i64)), ((60 : Nat), TSh.at (Sh.int .i64)), ((61 : Nat), TSh.at (Sh.int .i64))]
noncomputable def ZlZ : Spec := Spec.mk [OSh.ro, OSh.box (26 : Nat) [Sh.int .i64, Sh.int .i64, Sh.snap (0 : Nat) (Ty.pair (Ty.int .i64) (Ty.int .i64))], OSh.row true (36 : Nat) (Ty.slice (3 : Nat) (Ty.int .i64)), OSh.row true (3 : Nat) (Ty.int .i64), OSh.row true (36 : Nat) (Ty.slice (3 : Nat) (Ty.int .i64)), OSh.row true (3 : Nat) (Ty.int .i64)] [((2 : Nat), TSh.at (Sh.ptr (1 : Nat) (0 : Nat))), ((5 : Nat), TSh.at (Sh.sl (2 : Nat))), ((6 : Nat), TSh.at (Sh.sl (3 : Nat))), ((7 : Nat), TSh.at (Sh.sl (4 : Nat))), ((8 : Nat), TSh.at (Sh.int .i64)), ((9 : Nat), TSh.at (Sh.int .i64)), ((10 : Nat), TSh.at (Sh.int .i64)), ((12 : Nat), TSh.at (Sh.sl (5 : Nat))), ((21 : Nat), TSh.at (Sh.snap (0 : Nat) (Ty.int .i64))), ((22 : Nat), TSh.at (Sh.int .i64)), ((23 : Nat), TSh.at (Sh.int .i64)), ((39 : Nat), TSh.at (Sh.int .i64)), ((40 : Nat), TSh.at (Sh.int .i64))]
noncomputable def Z2N : LoopDef (Tup Z1Y × OutD) := .plain Z99 ZlZ (Int × Int × List (Int × Int) × List (List Int) × List Int × List (List Int) × List Int × Int × Int × Int × List Int × Int × Int × Int × Int) (fun k x => Z38 k x.1.2.1.1 x.1.2.1.2.1 x.1.2.1.2.2.1 x.1.2.2.1 x.1.2.2.2.1 x.1.2.2.2.2.1 x.1.2.2.2.2.2.1.1 x.1.2.2.2.2.2.1.2.1 x.1.2.2.2.2.2.2.1 x.1.2.2.2.2.2.2.2.1 x.2.2.2.2.2.1 x.2.2.2.2.2.2.1 x.2.2.2.2.2.2.2.1 x.2.2.2.2.2.2.2.2.2.2.1 x.2.2.2.2.2.2.2.2.2.2.2.1 x.2.2.2.2.2.2.2.2.2.2.2.2.1 x.2.2.2.2.2.2.2.2.2.2.2.2.2.1 x.2.2.2.2.2.2.2.2.2.2.2.2.2.2.1 x.2.2.2.2.2.2.2.2.2.2.2.2.2.2.2.1 x.2.2.2.2.2.2.2.2.2.2.2.2.2.2.2.2.1) (fun z => (((), (z.1, z.2.1, z.2.2.1, ()), z.2.2.2.1, z.2.2.2.2.1, z.2.2.2.2.2.1, z.2.2.2.2.2.2.1, ()), ((), (), (), (), z.2.2.2.2.2.2.2.1, z.2.2.2.2.2.2.2.2.1, z.2.2.2.2.2.2.2.2.2.1, (), z.2.2.2.2.2.2.2.2.2.2.1, z.2.2.2.2.2.2.2.2.2.2.2.1, z.2.2.2.2.2.2.2.2.2.2.2.2.1, z.2.2.2.2.2.2.2.2.2.2.2.2.2.1, z.2.2.2.2.2.2.2.2.2.2.2.2.2.2, ()))) (fun y => (y.1.2.1.1, y.1.2.1.2.1, y.1.2.1.2.2.1, y.1.2.2.1, y.1.2.2.2.1, y.1.2.2.2.2.1, y.1.2.2.2.2.2.1, y.2.2.2.2.2.1, y.2.2.2.2.2.2.1, y.2.2.2.2.2.2.2.1, y.2.2.2.2.2.2.2.2.2.1, y.2.2.2.2.2.2.2.2.2.2.1, y.2.2.2.2.2.2.2.2.2.2.2.1, y.2.2.2.2.2.2.2.2.2.2.2.2.1, y.2.2.2.2.2.2.2.2.2.2.2.2.2.1)) (fun _ => rfl)
noncomputable def Z39 : Nat → Int → Int → List (Int × Int) → List (List Int) → List Int → List (List Int) → Int → Int → List Int → Int → Int → Int → Int → Option (Int × Int × List (Int × Int) × List (List Int) × List Int × List (List Int) × List Int × Int × Int)
 | 0, _, _, _, _, _, _, _, _, _, _, _, _, _ => none
 | k + 1, b1_0, b1_1, b1_2, o2, o3, o4, v8, v9, v21, v22, v23, v39, v40 =>
  if decide (v40 < v39) = true then Option.bind (Z68 k (b1_0, b1_1, b1_2)) fun z2 => Option.bind (Zcw k v40 (↑(List.length o2) : Int)) fun z3 => Option.bind (Zcq k (Prod.fst z2, Prod.fst z2.2, Prod.snd z2.2) o2 z3) fun z4 => Option.bind (Zdp k (Prod.fst z2, Prod.fst z2.2, z4) o3 v9) fun z5 => if Int.toNat (↑(List.length o2) : Int) * (8 : Nat) ≤ (281474976710656 : Nat) then Option.bind (Z38 k b1_0 b1_1 b1_2 o2 o3 o4 z2.1 z2.2.1 z5.2.2 (List.replicate (Int.toNat (↑(List.length o2) : Int)) (0 : Int)) v8 v9 v40 v21 v22 v23 v39 v40 (↑(List.length o2) : Int) (0 : Int)) fun z6 => if (0 : Int) ≤ Prod.fst z6.2.2.2.2.2.2.2 then if Prod.fst z6.2.2.2.2.2.2.2 < (↑(List.length z6.2.2.2.2.2.1) : Int) then Option.bind (Z3R k z6.2.2.2.2.2.2.1) fun z7 => if (0 : Int) ≤ Prod.fst z6.2.2.2.2.2.2.2.2.2 then if Prod.fst z6.2.2.2.2.2.2.2.2.2 < (↑(List.length (List.getD z6.2.2.2.2.2.1 (Int.toNat z6.2.2.2.2.2.2.2.1) [])) : Int) then Z39 k z6.1 z6.2.1 z6.2.2.1 z6.2.2.2.1 z6.2.2.2.2.1 (List.set z6.2.2.2.2.2.1 (Int.toNat z6.2.2.2.2.2.2.2.1) (List.set (List.getD z6.2.2.2.2.2.1 (Int.toNat z6.2.2.2.2.2.2.2.1) []) (Int.toNat z6.2.2.2.2.2.2.2.2.2.1) z7)) z6.2.2.2.2.2.2.2.1 z6.2.2.2.2.2.2.2.2.1 z6.2.2.2.2.2.2.2.2.2.2.1 z6.2.2.2.2.2.2.2.2.2.2.2.1 z6.2.2.2.2.2.2.2.2.2.2.2.2.1 z6.2.2.2.2.2.2.2.2.2.2.2.2.2.1 (wrap64 (Prod.snd z6.2.2.2.2.2.2.2.2.2.2.2.2.2 + (1 : Int))) else none else none else none else none else none else some (b1_0, b1_1, b1_2, o2, o3, o4, v21, v22, v23)
noncomputable def Z9l : Spec := Spec.mk [OSh.ro, OSh.box (26 : Nat) [Sh.int .i64, Sh.int .i64, Sh.snap (0 : Nat) (Ty.pair (Ty.int .i64) (Ty.int .i64))], OSh.row true (36 : Nat) (Ty.slice (3 : Nat) (Ty.int .i64)), OSh.row true (3 : Nat) (Ty.int .i64), OSh.row true (36 : Nat) (Ty.slice (3 : Nat) (Ty.int .i64))] [((2 : Nat), TSh.at (Sh.ptr (1 : Nat) (0 : Nat))), ((5 : Nat), TSh.at (Sh.sl (2 : Nat))), ((6 : Nat), TSh.at (Sh.sl (3 : Nat))), ((7 : Nat), TSh.at (Sh.sl (4 : Nat))), ((8 : Nat), TSh.at (Sh.int .i64)), ((9 : Nat), TSh.at (Sh.int .i64)), ((21 : Nat), TSh.at (Sh.snap (0 : Nat) (Ty.int .i64))), ((22 : Nat), TSh.at (Sh.int .i64)), ((23 : Nat), TSh.at (Sh.int .i64)), ((39 : Nat), TSh.at (Sh.int .i64)), ((40 : Nat), TSh.at (Sh.int .i64))]
noncomputable def Zmi : Spec := Spec.mk [OSh.ro, OSh.box (26 : Nat) [Sh.int .i64, Sh.int .i64, Sh.snap (0 : Nat) (Ty.pair (Ty.int .i64) (Ty.int .i64))], OSh.row true (36 : Nat) (Ty.slice (3 : Nat) (Ty.int .i64)), OSh.row true (3 : Nat) (Ty.int .i64), OSh.row true (36 : Nat) (Ty.slice (3 : Nat) (Ty.int .i64))] [((2 : Nat), TSh.at (Sh.ptr (1 : Nat) (0 : Nat))), ((5 : Nat), TSh.at (Sh.sl (2 : Nat))), ((6 : Nat), TSh.at (Sh.sl (3 : Nat))), ((7 : Nat), TSh.at (Sh.sl (4 : Nat))), ((21 : Nat), TSh.at (Sh.snap (0 : Nat) (Ty.int .i64))), ((22 : Nat), TSh.at (Sh.int .i64)), ((23 : Nat), TSh.at (Sh.int .i64))]
noncomputable def Z2J : LoopDef (Tup Z1Y × OutD) := .plain Z9l Zmi (Int × Int × List (Int × Int) × List (List Int) × List Int × List (List Int) × List Int × Int × Int) (fun k x => Z39 k x.1.2.1.1 x.1.2.1.2.1 x.1.2.1.2.2.1 x.1.2.2.1 x.1.2.2.2.1 x.1.2.2.2.2.1 x.2.2.2.2.2.1 x.2.2.2.2.2.2.1 x.2.2.2.2.2.2.2.1 x.2.2.2.2.2.2.2.2.1 x.2.2.2.2.2.2.2.2.2.1 x.2.2.2.2.2.2.2.2.2.2.1 x.2.2.2.2.2.2.2.2.2.2.2.1) (fun z => (((), (z.1, z.2.1, z.2.2.1, ()), z.2.2.2.1, z.2.2.2.2.1, z.2.2.2.2.2.1, ()), ((), (), (), (), z.2.2.2.2.2.2.1, z.2.2.2.2.2.2.2.1, z.2.2.2.2.2.2.2.2, ()))) (fun y => (y.1.2.1.1, y.1.2.1.2.1, y.1.2.1.2.2.1, y.1.2.2.1, y.1.2.2.2.1, y.1.2.2.2.2.1, y.2.2.2.2.2.1, y.2.2.2.2.2.2.1, y.2.2.2.2.2.2.2.1)) (fun _ => rfl)
noncomputable def Z3d : Nat → Int → Int → List (Int × Int) → List (List Int) → List Int → List (List Int) → List Int → Int → Int → Option (List (List Int))
 | 0, _, _, _, _, _, _, _, _, _ => none
 | k + 1, b1_0, b1_1, b1_2, o2, o3, o4, v21, v22, v23 =>
  if decide (v23 < v22) = true then if (0 : Int) ≤ v23 then if v23 < (↑(List.length v21) : Int) then if (0 : Int) ≤ shlS (1 : Int) (↑(List.length o2) : Int) then if Int.toNat (shlS (1 : Int) (↑(List.length o2) : Int)) * (8 : Nat) ≤ (281474976710656 : Nat) then if (0 : Int) ≤ v23 then if v23 < (↑(List.length o4) : Int) then if (0 : Int) ≤ v23 then if v23 < (↑(List.length (List.set o4 (Int.toNat v23) (List.replicate (Int.toNat (shlS (1 : Int) (↑(List.length o2) : Int))) (0 : Int)))) : Int) then Option.bind (Z39 k b1_0 b1_1 b1_2 o2 o3 (List.set o4 (Int.toNat v23) (List.replicate (Int.toNat (shlS (1 : Int) (↑(List.length o2) : Int))) (0 : Int))) v23 (List.getD v21 (Int.toNat v23) (0 : Int)) v21 v22 v23 (↑(List.length (List.getD (List.set o4 (Int.toNat v23) (List.replicate (Int.toNat (shlS (1 : Int) (↑(List.length o2) : Int))) (0 : Int))) (Int.toNat v23) [])) : Int) (0 : Int)) fun z8 => Z3d k z8.1 z8.2.1 z8.2.2.1 z8.2.2.2.1 z8.2.2.2.2.1 z8.2.2.2.2.2.1 z8.2.2.2.2.2.2.1 z8.2.2.2.2.2.2.2.1 (wrap64 (Prod.snd z8.2.2.2.2.2.2.2 + (1 : Int))) else none else none else none else none else none else none else none else none else some o4
noncomputable def Z9o : Spec := Spec.mk [OSh.ro, OSh.box (26 : Nat) [Sh.int .i64, Sh.int .i64, Sh.snap (0 : Nat) (Ty.pair (Ty.int .i64) (Ty.int .i64))], OSh.row true (36 : Nat) (Ty.slice (3 : Nat) (Ty.int .i64)), OSh.row true (3 : Nat) (Ty.int .i64), OSh.row true (36 : Nat) (Ty.slice (3 : Nat) (Ty.int .i64))] [((2 : Nat), TSh.at (Sh.ptr (1 : Nat) (0 : Nat))), ((5 : Nat), TSh.at (Sh.sl (2 : Nat))), ((6 : Nat), TSh.at (Sh.sl (3 : Nat))), ((7 : Nat), TSh.at (Sh.sl (4 : Nat))), ((21 : Nat), TSh.at (Sh.snap (0 : Nat) (Ty.int .i64))), ((22 : Nat), TSh.at (Sh.int .i64)), ((23 : Nat), TSh.at (Sh.int .i64))]
noncomputable def ZlL : Spec := Spec.mk [OSh.ro, OSh.row true (36 : Nat) (Ty.slice (3 : Nat) (Ty.int .i64))] [((7 : Nat), TSh.at (Sh.sl (1 : Nat)))]
noncomputable def Z2M : LoopDef (Tup Z1Y × OutD) := .plain Z9o ZlL (List (List Int)) (fun k x => Z3d k x.1.2.1.1 x.1.2.1.2.1 x.1.2.1.2.2.1 x.1.2.2.1 x.1.2.2.2.1 x.1.2.2.2.2.1 x.2.2.2.2.2.1 x.2.2.2.2.2.2.1 x.2.2.2.2.2.2.2.1) (fun z => (((), z, ()), ((), ()))) (fun y => (y.1.2.1)) (fun _ => rfl)
noncomputable def Z2Z : Nat → Int × Int × List (Int × Int) → List Int → Option (List (List Int))
 | 0, _, _ => none
 | k + 1, p0, p1 =>
  Option.bind (Z4i k (Prod.fst p0, Prod.fst p0.2, Prod.snd p0.2)) fun z0 => Option.bind (Z3X k (Prod.fst p0, Prod.fst p0.2, Prod.snd p0.2)) fun z1 => if Int.toNat (↑(List.length p1) : Int) * (24 : Nat) ≤ (281474976710656 : Nat) then Option.bind (Z3d k p0.1 p0.2.1 p0.2.2 z0 z1 (List.replicate (Int.toNat (↑(List.length p1) : Int)) []) p1 (↑(List.length p1) : Int) (0 : Int)) fun z9 => some z9 else none
noncomputable def ZH : FnDef := .of ZfJ Z1Y (List (List Int)) (fun k x => Z2Z k x.1 x.2.1) Zf0 Zf4 ZkD
noncomputable def Z3Y : Code := Try.f42.body.getD .skip
noncomputable def Zp : Ctx (Tup Z1Y × OutD) := { T := T, G := [(63, Z1A.E), (56, ZX.E), (54, Z1P.E), (80, Z4j.E), (79, Z4k.E), (55, Z6r.E), (40, Z1G.E)], mvs := [86], no := 0, n := 90, res := resOf T ZfJ Z1Y Try.f42.results.toList, loops := [(4, Z2N.E), (2, Z2J.E), (0, Z2M.E)], regs := [], conds := [], cuts := [] }
theorem Z8d (k : Nat) : EnvOK Try.prog k Zp.G := (EnvOK.cons (Za3 k) (EnvOK.cons (Zbj k) (EnvOK.cons (Ze7 k) (EnvOK.cons (Zyr k) (EnvOK.cons (Zy9 k) (EnvOK.cons (ZuB k) (EnvOK.cons (Zbn k) (EnvOK.nil mixed))))))))
noncomputable def Z6t : Code := (findLoop 4 Z3Y).getD .skip
theorem ZlQ (k : Nat) (x : Z99.D) : Z2N.lp (k + 1) x = loopK Zp Z2N 4 Z6t k x := by kernel_rfl
theorem Zmw (k : Nat) : LOK Try.prog Zp k Z6t := LOK.by [] (by kernel_rfl) AllOK.nil
theorem Zm3 (x : Z99.D) : Z2N.lp 0 x = none := by kernel_rfl
theorem Zkz (k : Nat) : EOK Try.prog Zp k Z2N.E (.block 4 (.loop Z6t)) := Z8 T_ok Z8d Zm3 ZlQ Zmw k
noncomputable def Z6o : Code := (findLoop 2 Z3Y).getD .skip
theorem ZlW (k : Nat) (x : Z9l.D) : Z2J.lp (k + 1) x = loopK Zp Z2J 2 Z6o k x := by kernel_rfl
theorem ZlU (k : Nat) : LOK Try.prog Zp k Z6o := LOK.by [(Z2N.E, .block 4 (.loop Z6t))] (by kernel_rfl) (AllOK.cons (Zkz k) AllOK.nil)
theorem Zmd (x : Z9l.D) : Z2J.lp 0 x = none := by kernel_rfl
theorem Zku (k : Nat) : EOK Try.prog Zp k Z2J.E (.block 2 (.loop Z6o)) := Z8 T_ok Z8d Zmd ZlW ZlU k
noncomputable def Z6q : Code := (findLoop 0 Z3Y).getD .skip
theorem Zmm (k : Nat) (x : Z9o.D) : Z2M.lp (k + 1) x = loopK Zp Z2M 0 Z6q k x := by kernel_rfl
theorem ZlC (k : Nat) : LOK Try.prog Zp k Z6q := LOK.by [(Z2J.E, .block 2 (.loop Z6o))] (by kernel_rfl) (AllOK.cons (Zku k) AllOK.nil)
theorem Zmn (x : Z9o.D) : Z2M.lp 0 x = none := by kernel_rfl
theorem ZkK (k : Nat) : EOK Try.prog Zp k Z2M.E (.block 0 (.loop Z6q)) := Z8 T_ok Z8d Zmn Zmm ZlC k
theorem Zq5 (k : Nat) (x : Tup ZH.ps) : ZH.f (k + 1) x = fnK ZH Zp Z3Y k x := by kernel_rfl
theorem ZqF (x : Tup ZH.ps) : ZH.f 0 x = none := by kernel_rfl
theorem ZqA (k : Nat) : LOK Try.prog Zp k Z3Y := LOK.by [(Z2M.E, .block 0 (.loop Z6q))] (by kernel_rfl) (AllOK.cons (ZkK k) AllOK.nil)
theorem Z8k (k : Nat) : SoundAt Try.prog k 42 ZH.E := @Z4 Try.prog ZH Zp 42 Try.f42 Z3Y (by kernel_rfl) (by kernel_rfl) (by kernel_rfl) Try.func42 (by kernel_rfl) (by kernel_rfl) (by kernel_rfl) T_ok Z8d ZqA ZqF Zq5 k
noncomputable def Za8 : List PK := [PK.mk Ty.bool false none false none]
noncomputable def ZnF : List PK := [PK.mk (Ty.pair (Ty.int .i64) (Ty.pair (Ty.int .i64) (Ty.slice (71 : Nat) (Ty.pair (Ty.int .i64) (Ty.int .i64))))) true none false none]
noncomputable def Zln (r : Bool) : Tup Za8 × OutD := ((r, ()), none)
noncomputable def ZkR : Tup Za8 × OutD → Option (Bool)
 | (a, none) => some (a.1)
 | _ => none
theorem Zrm : ∀ b r, ZkR b = some r → Zln r = b := by
 rintro ⟨a, o⟩ r h
 cases o with
 | none => injection h with h; subst h; rfl
 | some _ => cases h
noncomputable def Zcl : Nat → Int × Int × List (Int × Int) → Option Bool
 | 0, _ => none
 | k + 1, p0 =>
  Option.bind (Z7f k (Prod.fst p0, Prod.fst p0.2, Prod.snd p0.2)) fun z0 => if z0 = true then Option.bind (Z2z k (Prod.fst p0, Prod.fst p0.2, Prod.snd p0.2)) fun z1 => some (decide ((↑(List.length z1) : Int) ≤ (16 : Int))) else some false
noncomputable def Z4q : FnDef := .of ZnF Za8 (Bool) (fun k x => Zcl k x.1) Zln ZkR Zrm
noncomputable def Zgb : Code := Try.f52.body.getD .skip
noncomputable def Zcj : Ctx (Tup Za8 × OutD) := { T := T, G := [(86, Z3v.E), (81, ZV.E)], mvs := [], no := 0, n := 11, res := resOf T ZnF Za8 Try.f52.results.toList, loops := [], regs := [], conds := [], cuts := [] }
theorem ZxN (k : Nat) : EnvOK Try.prog k Zcj.G := (EnvOK.cons (Zhh k) (EnvOK.cons (Z5Z k) (EnvOK.nil mixed)))
theorem Zyl (k : Nat) (x : Tup Z4q.ps) : Z4q.f (k + 1) x = fnK Z4q Zcj Zgb k x := by kernel_rfl
theorem Zyn (x : Tup Z4q.ps) : Z4q.f 0 x = none := by kernel_rfl
theorem Zyd (k : Nat) : LOK Try.prog Zcj k Zgb := LOK.by [] (by kernel_rfl) AllOK.nil
theorem Zyc (k : Nat) : SoundAt Try.prog k 52 Z4q.E := @Z4 Try.prog Z4q Zcj 52 Try.f52 Zgb (by kernel_rfl) (by kernel_rfl) (by kernel_rfl) Try.func52 (by kernel_rfl) (by kernel_rfl) (by kernel_rfl) T_ok ZxN Zyd Zyn Zyl k
noncomputable def Z7o : List PK := [PK.mk Ty.bool false none false none]
noncomputable def ZhE : List PK := [PK.mk (Ty.pair (Ty.int .i64) (Ty.pair (Ty.int .i64) (Ty.slice (71 : Nat) (Ty.pair (Ty.int .i64) (Ty.int .i64))))) true none false none, PK.mk (Ty.int .i64) false none false none]
noncomputable def ZgQ (r : Bool) : Tup Z7o × OutD := ((r, ()), none)
noncomputable def ZgC : Tup Z7o × OutD → Option (Bool)
 | (a, none) => some (a.1)
 | _ => none
theorem ZmY : ∀ b r, ZgC b = some r → ZgQ r = b := by
 rintro ⟨a, o⟩ r h
 cases o with
 | none => injection h with h; subst h; rfl
 | some _ => cases h
noncomputable def Z7q : Nat → Int × Int × List (Int × Int) → Int → Option Bool
 | 0, _, _ => none
 | k + 1, p0, p1 =>
  Option.bind (Z7U k (Prod.fst p0, Prod.fst p0.2, Prod.snd p0.2)) fun z0 => if z0 = true then if decide (p1 ≥ (0 : Int)) = true then some (decide (p1 < Prod.fst p0.2)) else some false else some false
noncomputable def Z23 : FnDef := .of ZhE Z7o (Bool) (fun k x => Z7q k x.1 x.2.1) ZgQ ZgC ZmY
noncomputable def ZcX : Code := Try.f53.body.getD .skip
noncomputable def Z9I : Ctx (Tup Z7o × OutD) := { T := T, G := [(51, Z2D.E)], mvs := [], no := 0, n := 17, res := resOf T ZhE Z7o Try.f53.results.toList, loops := [], regs := [], conds := [], cuts := [] }
theorem Zuk (k : Nat) : EnvOK Try.prog k Z9I.G := (EnvOK.cons (Zga k) (EnvOK.nil mixed))
theorem Ztt (k : Nat) (x : Tup Z23.ps) : Z23.f (k + 1) x = fnK Z23 Z9I ZcX k x := by kernel_rfl
theorem ZtI (x : Tup Z23.ps) : Z23.f 0 x = none := by kernel_rfl
theorem Ztp (k : Nat) : LOK Try.prog Z9I k ZcX := LOK.by [] (by kernel_rfl) AllOK.nil
theorem ZhG (k : Nat) : SoundAt Try.prog k 53 Z23.E := @Z4 Try.prog Z23 Z9I 53 Try.f53 ZcX (by kernel_rfl) (by kernel_rfl) (by kernel_rfl) Try.func53 (by kernel_rfl) (by kernel_rfl) (by kernel_rfl) T_ok Zuk Ztp ZtI Ztt k
noncomputable def ZbO : List PK := [PK.mk Ty.bool false none false none]
noncomputable def Zsy : List PK := [PK.mk (Ty.pair (Ty.int .i64) (Ty.pair (Ty.int .i64) (Ty.slice (71 : Nat) (Ty.pair (Ty.int .i64) (Ty.int .i64))))) true none false none, PK.mk (Ty.int .i64) false none false none]
noncomputable def Zpr (r : Bool) : Tup ZbO × OutD := ((r, ()), none)
noncomputable def Zp8 : Tup ZbO × OutD → Option (Bool)
 | (a, none) => some (a.1)
 | _ => none
theorem Zwd : ∀ b r, Zp8 b = some r → Zpr r = b := by
 rintro ⟨a, o⟩ r h
 cases o with
 | none => injection h with h; subst h; rfl
 | some _ => cases h
noncomputable def Z9P : Nat → Int × Int × List (Int × Int) → Int → Option Bool
 | 0, _, _ => none
 | k + 1, p0, p1 =>
  Option.bind (Z7f k (Prod.fst p0, Prod.fst p0.2, Prod.snd p0.2)) fun z0 => if z0 = true then Option.bind (Z6g k p1 (0 : Int) (wrap64 (Prod.fst p0.2 - (1 : Int)))) fun z1 => some z1 else some false
noncomputable def Z44 : FnDef := .of Zsy ZbO (Bool) (fun k x => Z9P k x.1 x.2.1) Zpr Zp8 Zwd
noncomputable def Zjl : Code := Try.f70.body.getD .skip
noncomputable def ZeT : Ctx (Tup ZbO × OutD) := { T := T, G := [(86, Z3v.E), (94, Z47.E)], mvs := [], no := 0, n := 14, res := resOf T Zsy ZbO Try.f70.results.toList, loops := [], regs := [], conds := [], cuts := [] }
theorem ZAI (k : Nat) : EnvOK Try.prog k ZeT.G := (EnvOK.cons (Zhh k) (EnvOK.cons (Zgo k) (EnvOK.nil mixed)))
theorem ZAi (k : Nat) (x : Tup Z44.ps) : Z44.f (k + 1) x = fnK Z44 ZeT Zjl k x := by kernel_rfl
theorem ZAu (x : Tup Z44.ps) : Z44.f 0 x = none := by kernel_rfl
theorem ZAC (k : Nat) : LOK Try.prog ZeT k Zjl := LOK.by [] (by kernel_rfl) AllOK.nil
theorem Zkg (k : Nat) : SoundAt Try.prog k 70 Z44.E := @Z4 Try.prog Z44 ZeT 70 Try.f70 Zjl (by kernel_rfl) (by kernel_rfl) (by kernel_rfl) Try.func70 (by kernel_rfl) (by kernel_rfl) (by kernel_rfl) T_ok ZAI ZAC ZAu ZAi k
noncomputable def Z86 : List PK := [PK.mk (Ty.pair (Ty.int .i64) (Ty.pair (Ty.int .i64) (Ty.int .i64))) true none false none, PK.mk (Ty.pair (Ty.int .i64) (Ty.pair (Ty.int .i64) (Ty.slice (71 : Nat) (Ty.pair (Ty.int .i64) (Ty.int .i64))))) true none false none]
noncomputable def Zss : List PK := [PK.mk (Ty.pair (Ty.int .i64) (Ty.pair (Ty.int .i64) (Ty.slice (71 : Nat) (Ty.pair (Ty.int .i64) (Ty.int .i64))))) true none false none, PK.mk (Ty.int .i64) false none false none]
noncomputable def Zpa (r : (Int × Int × Int) × Int × Int × List (Int × Int)) : Tup Z86 × OutD := ((r.1, r.2, ()), none)
noncomputable def Zpg : Tup Z86 × OutD → Option ((Int × Int × Int) × Int × Int × List (Int × Int))
 | (a, none) => some (a.1, a.2.1)
 | _ => none
theorem ZvB : ∀ b r, Zpg b = some r → Zpa r = b := by
 rintro ⟨a, o⟩ r h
 cases o with
 | none => injection h with h; subst h; rfl
 | some _ => cases h
noncomputable def Z6O : Nat → Int → Int → List (Int × Int) → Int → Int → Int → Int → Int → List (Int × Int) → Int → Option (Int × Int × Int × Int × Int × List (Int × Int) × Int × Int × Int × Int × Int × List (Int × Int)) := fun k b1_0 b1_1 b1_2 b2_0 b2_1 b2_2 b3_0 b3_1 o4 v1 =>
    Option.bind (Z2f k (b1_0, b1_1, b1_2)) fun z0 => Option.bind (Z1R k (b1_0, b1_1, b1_2) z0 v1) fun z1 => some (b2_0, b2_1, b2_2, b3_0, b3_1, o4, Prod.fst z1.1, Prod.fst z1.1.2, Prod.snd z1.1.2, Prod.fst z1.2.1, Prod.fst z1.2.1.2, Prod.snd z1.2.1.2)
noncomputable def Zar : Nat → Int → Int → List (Int × Int) → Int → Int → Int → Int → Int → List (Int × Int) → Int → Option (List (Int × Int × Int × Int × Int × List (Int × Int) × Int × Int × Int × Int × Int × List (Int × Int))) := fun k b1_0 b1_1 b1_2 b2_0 b2_1 b2_2 b3_0 b3_1 o4 v1 =>
    joinL (Option.bind (Z2f k (b1_0, b1_1, b1_2)) fun z2 => joinL (Option.bind (Z1R k (b1_0, b1_1, b1_2) z2 v1) fun z3 => joinL (some [(b2_0, b2_1, b2_2, b3_0, b3_1, o4, Prod.fst z3.1, Prod.fst z3.1.2, Prod.snd z3.1.2, Prod.fst z3.2.1, Prod.fst z3.2.1.2, Prod.snd z3.2.1.2)]) (some [(b2_0, b2_1, b2_2, b3_0, b3_1, o4, Prod.fst z3.1, Prod.fst z3.1.2, Prod.snd z3.1.2, Prod.fst z3.2.1, Prod.fst z3.2.1.2, Prod.snd z3.2.1.2)])) (joinL (joinL (Option.bind (Z1R k (b1_0, b1_1, b1_2) z2 v1) fun z4 => some [(b2_0, b2_1, b2_2, b3_0, b3_1, o4, Prod.fst z4.1, Prod.fst z4.1.2, Prod.snd z4.1.2, Prod.fst z4.2.1, Prod.fst z4.2.1.2, Prod.snd z4.2.1.2)]) (Option.bind (Z1R k (b1_0, b1_1, b1_2) z2 v1) fun z5 => some [(b2_0, b2_1, b2_2, b3_0, b3_1, o4, Prod.fst z5.1, Prod.fst z5.1.2, Prod.snd z5.1.2, Prod.fst z5.2.1, Prod.fst z5.2.1.2, Prod.snd z5.2.1.2)])) (joinL (Option.bind (Z1R k (b1_0, b1_1, b1_2) z2 v1) fun z6 => some [(b2_0, b2_1, b2_2, b3_0, b3_1, o4, Prod.fst z6.1, Prod.fst z6.1.2, Prod.snd z6.1.2, Prod.fst z6.2.1, Prod.fst z6.2.1.2, Prod.snd z6.2.1.2)]) (Option.bind (Z1R k (b1_0, b1_1, b1_2) z2 v1) fun z7 => some [(b2_0, b2_1, b2_2, b3_0, b3_1, o4, Prod.fst z7.1, Prod.fst z7.1.2, Prod.snd z7.1.2, Prod.fst z7.2.1, Prod.fst z7.2.1.2, Prod.snd z7.2.1.2)])))) (joinL (joinL (Option.bind (Z2f k (b1_0, b1_1, b1_2)) fun z8 => joinL (Option.bind (Z1R k (b1_0, b1_1, b1_2) z8 v1) fun z9 => some [(b2_0, b2_1, b2_2, b3_0, b3_1, o4, Prod.fst z9.1, Prod.fst z9.1.2, Prod.snd z9.1.2, Prod.fst z9.2.1, Prod.fst z9.2.1.2, Prod.snd z9.2.1.2)]) (Option.bind (Z1R k (b1_0, b1_1, b1_2) z8 v1) fun z10 => some [(b2_0, b2_1, b2_2, b3_0, b3_1, o4, Prod.fst z10.1, Prod.fst z10.1.2, Prod.snd z10.1.2, Prod.fst z10.2.1, Prod.fst z10.2.1.2, Prod.snd z10.2.1.2)])) (Option.bind (Z2f k (b1_0, b1_1, b1_2)) fun z11 => Option.bind (Z1R k (b1_0, b1_1, b1_2) z11 v1) fun z12 => some [(b2_0, b2_1, b2_2, b3_0, b3_1, o4, Prod.fst z12.1, Prod.fst z12.1.2, Prod.snd z12.1.2, Prod.fst z12.2.1, Prod.fst z12.2.1.2, Prod.snd z12.2.1.2)])) (joinL (Option.bind (Z2f k (b1_0, b1_1, b1_2)) fun z13 => joinL (Option.bind (Z1R k (b1_0, b1_1, b1_2) z13 v1) fun z14 => some [(b2_0, b2_1, b2_2, b3_0, b3_1, o4, Prod.fst z14.1, Prod.fst z14.1.2, Prod.snd z14.1.2, Prod.fst z14.2.1, Prod.fst z14.2.1.2, Prod.snd z14.2.1.2)]) (Option.bind (Z1R k (b1_0, b1_1, b1_2) z13 v1) fun z15 => some [(b2_0, b2_1, b2_2, b3_0, b3_1, o4, Prod.fst z15.1, Prod.fst z15.1.2, Prod.snd z15.1.2, Prod.fst z15.2.1, Prod.fst z15.2.1.2, Prod.snd z15.2.1.2)])) (Option.bind (Z2f k (b1_0, b1_1, b1_2)) fun z16 => Option.bind (Z1R k (b1_0, b1_1, b1_2) z16 v1) fun z17 => some [(b2_0, b2_1, b2_2, b3_0, b3_1, o4, Prod.fst z17.1, Prod.fst z17.1.2, Prod.snd z17.1.2, Prod.fst z17.2.1, Prod.fst z17.2.1.2, Prod.snd z17.2.1.2)])))
noncomputable def Zk3 : Spec := Spec.mk [OSh.ro, OSh.box (26 : Nat) [Sh.int .i64, Sh.int .i64, Sh.snap (0 : Nat) (Ty.pair (Ty.int .i64) (Ty.int .i64))], OSh.box (75 : Nat) [Sh.int .i64, Sh.int .i64, Sh.int .i64], OSh.box (26 : Nat) [Sh.int .i64, Sh.int .i64, Sh.sl (4 : Nat)], OSh.row true (71 : Nat) (Ty.pair (Ty.int .i64) (Ty.int .i64))] [((1 : Nat), TSh.at (Sh.int .i64)), ((2 : Nat), TSh.at (Sh.ptr (1 : Nat) (0 : Nat))), ((4 : Nat), TSh.at (Sh.ptr (2 : Nat) (0 : Nat))), ((5 : Nat), TSh.at (Sh.ptr (3 : Nat) (0 : Nat)))]
noncomputable def Zw8 : Spec := Spec.mk [OSh.ro, OSh.box (75 : Nat) [Sh.int .i64, Sh.int .i64, Sh.int .i64], OSh.box (26 : Nat) [Sh.int .i64, Sh.int .i64, Sh.sl (3 : Nat)], OSh.row true (71 : Nat) (Ty.pair (Ty.int .i64) (Ty.int .i64)), OSh.box (75 : Nat) [Sh.int .i64, Sh.int .i64, Sh.int .i64], OSh.box (26 : Nat) [Sh.int .i64, Sh.int .i64, Sh.sl (6 : Nat)], OSh.row true (71 : Nat) (Ty.pair (Ty.int .i64) (Ty.int .i64))] [((4 : Nat), TSh.at (Sh.ptr (1 : Nat) (0 : Nat))), ((5 : Nat), TSh.at (Sh.ptr (2 : Nat) (0 : Nat))), ((6 : Nat), TSh.at (Sh.ptr (4 : Nat) (0 : Nat))), ((7 : Nat), TSh.at (Sh.ptr (5 : Nat) (0 : Nat)))]
noncomputable def Z60 : LoopDef (Tup Z86 × OutD) := .plain Zk3 Zw8 (Int × Int × Int × Int × Int × List (Int × Int) × Int × Int × Int × Int × Int × List (Int × Int)) (fun k x => Z6O k x.1.2.1.1 x.1.2.1.2.1 x.1.2.1.2.2.1 x.1.2.2.1.1 x.1.2.2.1.2.1 x.1.2.2.1.2.2.1 x.1.2.2.2.1.1 x.1.2.2.2.1.2.1 x.1.2.2.2.2.1 x.2.1) (fun z => (((), (z.1, z.2.1, z.2.2.1, ()), (z.2.2.2.1, z.2.2.2.2.1, (), ()), z.2.2.2.2.2.1, (z.2.2.2.2.2.2.1, z.2.2.2.2.2.2.2.1, z.2.2.2.2.2.2.2.2.1, ()), (z.2.2.2.2.2.2.2.2.2.1, z.2.2.2.2.2.2.2.2.2.2.1, (), ()), z.2.2.2.2.2.2.2.2.2.2.2, ()), ((), (), (), (), ()))) (fun y => (y.1.2.1.1, y.1.2.1.2.1, y.1.2.1.2.2.1, y.1.2.2.1.1, y.1.2.2.1.2.1, y.1.2.2.2.1, y.1.2.2.2.2.1.1, y.1.2.2.2.2.1.2.1, y.1.2.2.2.2.1.2.2.1, y.1.2.2.2.2.2.1.1, y.1.2.2.2.2.2.1.2.1, y.1.2.2.2.2.2.2.1)) (fun _ => rfl)
theorem ZvZ (k : Nat) (b1_0 : Int) (b1_1 : Int) (b1_2 : List (Int × Int)) (b2_0 : Int) (b2_1 : Int) (b2_2 : Int) (b3_0 : Int) (b3_1 : Int) (o4 : List (Int × Int)) (v1 : Int) : Zar k b1_0 b1_1 b1_2 b2_0 b2_1 b2_2 b3_0 b3_1 o4 v1 = repl 12 (Z6O k b1_0 b1_1 b1_2 b2_0 b2_1 b2_2 b3_0 b3_1 o4 v1) := by
 first
 | (simp only [Zar, Z6O, Zh, Zo, Zg, Zi, Ze, Z3, if_true]; done)
 | (simp only [Zar, Z6O, Zh, Zo, Zg, Zi, Ze, Z3, if_true]; simp only [Z1E, Z1D, Z3k, Z3]; simp only [Z4r]; exact Z2g ⟨fun h => by simp only [h, and_self], fun h => by simp only [h, and_self]⟩)
noncomputable def Z6P : Nat → Int → Int → Int → Int → Int → List (Int × Int) → Int → Int → Int → Int → Int → List (Int × Int) → Option (Int × Int × Int × Int × Int × List (Int × Int)) := fun k b1_0 b1_1 b1_2 b2_0 b2_1 o3 b4_0 b4_1 b4_2 b5_0 b5_1 o6 =>
    some (b4_0, b4_1, b4_2, b5_0, b5_1, o6)
noncomputable def Zaq : Nat → Int → Int → Int → Int → Int → List (Int × Int) → Int → Int → Int → Int → Int → List (Int × Int) → Option (List (Int × Int × Int × Int × Int × List (Int × Int))) := fun k b1_0 b1_1 b1_2 b2_0 b2_1 o3 b4_0 b4_1 b4_2 b5_0 b5_1 o6 =>
    joinL (some [(b4_0, b4_1, b4_2, b5_0, b5_1, o6)]) (some [(b4_0, b4_1, b4_2, b5_0, b5_1, o6)])
noncomputable def Zk4 : Spec := Spec.mk [OSh.ro, OSh.box (75 : Nat) [Sh.int .i64, Sh.int .i64, Sh.int .i64], OSh.box (26 : Nat) [Sh.int .i64, Sh.int .i64, Sh.sl (3 : Nat)], OSh.row true (71 : Nat) (Ty.pair (Ty.int .i64) (Ty.int .i64)), OSh.box (75 : Nat) [Sh.int .i64, Sh.int .i64, Sh.int .i64], OSh.box (26 : Nat) [Sh.int .i64, Sh.int .i64, Sh.sl (6 : Nat)], OSh.row true (71 : Nat) (Ty.pair (Ty.int .i64) (Ty.int .i64))] [((4 : Nat), TSh.at (Sh.ptr (1 : Nat) (0 : Nat))), ((5 : Nat), TSh.at (Sh.ptr (2 : Nat) (0 : Nat))), ((6 : Nat), TSh.at (Sh.ptr (4 : Nat) (0 : Nat))), ((7 : Nat), TSh.at (Sh.ptr (5 : Nat) (0 : Nat)))]
noncomputable def Zw2 : Spec := Spec.mk [OSh.ro, OSh.box (75 : Nat) [Sh.int .i64, Sh.int .i64, Sh.int .i64], OSh.box (26 : Nat) [Sh.int .i64, Sh.int .i64, Sh.sl (3 : Nat)], OSh.row true (71 : Nat) (Ty.pair (Ty.int .i64) (Ty.int .i64))] [((4 : Nat), TSh.at (Sh.ptr (1 : Nat) (0 : Nat))), ((5 : Nat), TSh.at (Sh.ptr (2 : Nat) (0 : Nat)))]
noncomputable def Z6c : LoopDef (Tup Z86 × OutD) := .plain Zk4 Zw2 (Int × Int × Int × Int × Int × List (Int × Int)) (fun k x => Z6P k x.1.2.1.1 x.1.2.1.2.1 x.1.2.1.2.2.1 x.1.2.2.1.1 x.1.2.2.1.2.1 x.1.2.2.2.1 x.1.2.2.2.2.1.1 x.1.2.2.2.2.1.2.1 x.1.2.2.2.2.1.2.2.1 x.1.2.2.2.2.2.1.1 x.1.2.2.2.2.2.1.2.1 x.1.2.2.2.2.2.2.1) (fun z => (((), (z.1, z.2.1, z.2.2.1, ()), (z.2.2.2.1, z.2.2.2.2.1, (), ()), z.2.2.2.2.2, ()), ((), (), ()))) (fun y => (y.1.2.1.1, y.1.2.1.2.1, y.1.2.1.2.2.1, y.1.2.2.1.1, y.1.2.2.1.2.1, y.1.2.2.2.1)) (fun _ => rfl)
theorem Zwu (k : Nat) (b1_0 : Int) (b1_1 : Int) (b1_2 : Int) (b2_0 : Int) (b2_1 : Int) (o3 : List (Int × Int)) (b4_0 : Int) (b4_1 : Int) (b4_2 : Int) (b5_0 : Int) (b5_1 : Int) (o6 : List (Int × Int)) : Zaq k b1_0 b1_1 b1_2 b2_0 b2_1 o3 b4_0 b4_1 b4_2 b5_0 b5_1 o6 = repl 2 (Z6P k b1_0 b1_1 b1_2 b2_0 b2_1 o3 b4_0 b4_1 b4_2 b5_0 b5_1 o6) := by
 first
 | (simp only [Zaq, Z6P, Zh, Zo, Zg, Zi, Ze, Z3, if_true]; done)
 | (simp only [Zaq, Z6P, Zh, Zo, Zg, Zi, Ze, Z3, if_true]; simp only [Z1E, Z1D, Z3k, Z3]; simp only [Z4r]; exact Z2g ⟨fun h => by simp only [h, and_self], fun h => by simp only [h, and_self]⟩)
noncomputable def Z9N : Nat → Int × Int × List (Int × Int) → Int → Option ((Int × Int × Int) × Int × Int × List (Int × Int))
 | 0, _, _ => none
 | k + 1, p0, p1 =>
  Option.bind (Z6O k p0.1 p0.2.1 p0.2.2 (0 : Int) (0 : Int) (0 : Int) (0 : Int) (0 : Int) [] p1) fun z18 => Option.bind (Z6P k z18.1 z18.2.1 z18.2.2.1 z18.2.2.2.1 z18.2.2.2.2.1 z18.2.2.2.2.2.1 z18.2.2.2.2.2.2.1 z18.2.2.2.2.2.2.2.1 z18.2.2.2.2.2.2.2.2.1 z18.2.2.2.2.2.2.2.2.2.1 z18.2.2.2.2.2.2.2.2.2.2.1 z18.2.2.2.2.2.2.2.2.2.2.2) fun z19 => some ((Prod.fst z19, Prod.fst z19.2, Prod.fst z19.2.2), Prod.fst z19.2.2.2, Prod.fst z19.2.2.2.2, Prod.snd z19.2.2.2.2)
noncomputable def Z43 : FnDef := .of Zss Z86 ((Int × Int × Int) × Int × Int × List (Int × Int)) (fun k x => Z9N k x.1 x.2.1) Zpa Zpg ZvB
noncomputable def Zca : Code := Try.f71.body.getD .skip
noncomputable def Z12 : Ctx (Tup Z86 × OutD) := { T := T, G := [(92, Z31.E), (93, Z7N.E)], mvs := [], no := 0, n := 20, res := resOf T Zss Z86 Try.f71.results.toList, loops := [], regs := [(1, Z60.E), (2, Z6c.E)], conds := [], cuts := [] }
theorem ZiR (k : Nat) : EnvOK Try.prog k Z12.G := (EnvOK.cons (Zlq k) (EnvOK.cons (ZBK k) (EnvOK.nil mixed)))
noncomputable def Zed : Array Oper := (findReg 1 Zca).getD #[]
theorem Zwb (k : Nat) (x : Zk3.D) : execD Z12.T Z12.G Z12.mvs k Zed (Z60.inp.st Z12.n x) (outK Z12 Z60) = Zar k x.1.2.1.1 x.1.2.1.2.1 x.1.2.1.2.2.1 x.1.2.2.1.1 x.1.2.2.1.2.1 x.1.2.2.1.2.2.1 x.1.2.2.2.1.1 x.1.2.2.2.1.2.1 x.1.2.2.2.2.1 x.2.1 := by kernel_rfl
theorem Ztj (k : Nat) : EOK Try.prog Z12 k Z60.E (.region 1 Zed true) := Z6K (D := Z60) (m := 12) T_ok (ZiR k) (fun x => (Zwb k x).trans (ZvZ k x.1.2.1.1 x.1.2.1.2.1 x.1.2.1.2.2.1 x.1.2.2.1.1 x.1.2.2.1.2.1 x.1.2.2.1.2.2.1 x.1.2.2.2.1.1 x.1.2.2.2.1.2.1 x.1.2.2.2.2.1 x.2.1))
noncomputable def ZdY : Array Oper := (findReg 2 Zca).getD #[]
theorem Zw0 (k : Nat) (x : Zk4.D) : execD Z12.T Z12.G Z12.mvs k ZdY (Z6c.inp.st Z12.n x) (outK Z12 Z6c) = Zaq k x.1.2.1.1 x.1.2.1.2.1 x.1.2.1.2.2.1 x.1.2.2.1.1 x.1.2.2.1.2.1 x.1.2.2.2.1 x.1.2.2.2.2.1.1 x.1.2.2.2.2.1.2.1 x.1.2.2.2.2.1.2.2.1 x.1.2.2.2.2.2.1.1 x.1.2.2.2.2.2.1.2.1 x.1.2.2.2.2.2.2.1 := by kernel_rfl
theorem ZtN (k : Nat) : EOK Try.prog Z12 k Z6c.E (.region 2 ZdY true) := Z6K (D := Z6c) (m := 2) T_ok (ZiR k) (fun x => (Zw0 k x).trans (Zwu k x.1.2.1.1 x.1.2.1.2.1 x.1.2.1.2.2.1 x.1.2.2.1.1 x.1.2.2.1.2.1 x.1.2.2.2.1 x.1.2.2.2.2.1.1 x.1.2.2.2.2.1.2.1 x.1.2.2.2.2.1.2.2.1 x.1.2.2.2.2.2.1.1 x.1.2.2.2.2.2.1.2.1 x.1.2.2.2.2.2.2.1))
theorem ZAJ (k : Nat) (x : Tup Z43.ps) : Z43.f (k + 1) x = fnK Z43 Z12 Zca k x := by kernel_rfl
theorem ZAU (x : Tup Z43.ps) : Z43.f 0 x = none := by kernel_rfl
theorem ZAr (k : Nat) : LOK Try.prog Z12 k Zca := LOK.by [(Z60.E, .region 1 Zed true), (Z6c.E, .region 2 ZdY true)] (by kernel_rfl) (AllOK.cons (Ztj k) (AllOK.cons (ZtN k) AllOK.nil))
theorem Zje (k : Nat) : SoundAt Try.prog k 71 Z43.E := @Z4 Try.prog Z43 Z12 71 Try.f71 Zca (by kernel_rfl) (by kernel_rfl) (by kernel_rfl) Try.func71 (by kernel_rfl) (by kernel_rfl) (by kernel_rfl) T_ok ZiR ZAr ZAU ZAJ k
noncomputable def Z3t : List PK := [PK.mk (Ty.slice (3 : Nat) (Ty.int .i64)) false none false none, PK.mk Ty.bool false none false none]
noncomputable def ZgF : List PK := [PK.mk (Ty.pair (Ty.int .i64) (Ty.pair (Ty.int .i64) (Ty.slice (71 : Nat) (Ty.pair (Ty.int .i64) (Ty.int .i64))))) true none false none, PK.mk (Ty.pair (Ty.int .i64) (Ty.pair (Ty.int .i64) (Ty.slice (71 : Nat) (Ty.pair (Ty.int .i64) (Ty.int .i64))))) true none false none]
noncomputable def ZfI (r : List Int × Bool) : Tup Z3t × OutD := ((r.1, r.2, ()), none)
noncomputable def ZfH : Tup Z3t × OutD → Option (List Int × Bool)
 | (a, none) => some (a.1, a.2.1)
 | _ => none
theorem Zm0 : ∀ b r, ZfH b = some r → ZfI r = b := by
 rintro ⟨a, o⟩ r h
 cases o with
 | none => injection h with h; subst h; rfl
 | some _ => cases h
noncomputable def Z3y : Nat → Int → Int → List (Int × Int) → Int → Int → List (Int × Int) → List Int → Int → Int → List (Int × Int) → List (List Int) → Int → Int → Int → Int → Int → Option (Int × Int × List (Int × Int) × Int × Int × List (Int × Int) × List Int × Int × Int × List (Int × Int) × List (List Int) × Int × Int)
 | 0, _, _, _, _, _, _, _, _, _, _, _, _, _, _, _, _ => none
 | k + 1, b1_0, b1_1, b1_2, b2_0, b2_1, b2_2, o3, b4_0, b4_1, o5, o6, v17, v18, v42, v43, v44 =>
  if decide (v44 < v43) = true then if (0 : Int) ≤ v44 then if v44 < (↑(List.length (List.getD o6 (Int.toNat v42) [])) : Int) then if (0 : Int) ≤ List.getD (List.getD o6 (Int.toNat v42) []) (Int.toNat v44) (0 : Int) then if List.getD (List.getD o6 (Int.toNat v42) []) (Int.toNat v44) (0 : Int) < (↑(List.length o5) : Int) then if (0 : Int) ≤ List.getD (List.getD o6 (Int.toNat v42) []) (Int.toNat v44) (0 : Int) then if List.getD (List.getD o6 (Int.toNat v42) []) (Int.toNat v44) (0 : Int) < (↑(List.length o5) : Int) then Z3y k b1_0 b1_1 b1_2 b2_0 b2_1 b2_2 o3 b4_0 b4_1 (List.set o5 (Int.toNat (List.getD (List.getD o6 (Int.toNat v42) []) (Int.toNat v44) (0 : Int))) (Prod.fst (List.getD o5 (Int.toNat (List.getD (List.getD o6 (Int.toNat v42) []) (Int.toNat v44) (0 : Int))) ((0 : Int), (0 : Int))), wrap64 ((1 : Int) - Prod.snd (List.getD o5 (Int.toNat (List.getD (List.getD o6 (Int.toNat v42) []) (Int.toNat v44) (0 : Int))) ((0 : Int), (0 : Int)))))) o6 v17 v18 v42 v43 (wrap64 (v44 + (1 : Int))) else none else none else none else none else none else none else some (b1_0, b1_1, b1_2, b2_0, b2_1, b2_2, o3, b4_0, b4_1, o5, o6, v17, v18)
noncomputable def Zac : Spec := Spec.mk [OSh.ro, OSh.box (26 : Nat) [Sh.int .i64, Sh.int .i64, Sh.snap (0 : Nat) (Ty.pair (Ty.int .i64) (Ty.int .i64))], OSh.box (26 : Nat) [Sh.int .i64, Sh.int .i64, Sh.snap (0 : Nat) (Ty.pair (Ty.int .i64) (Ty.int .i64))], OSh.row true (3 : Nat) (Ty.int .i64), OSh.box (26 : Nat) [Sh.int .i64, Sh.int .i64, Sh.sl (5 : Nat)], OSh.row true (71 : Nat) (Ty.pair (Ty.int .i64) (Ty.int .i64)), OSh.row true (36 : Nat) (Ty.slice (3 : Nat) (Ty.int .i64))] [((2 : Nat), TSh.at (Sh.ptr (1 : Nat) (0 : Nat))), ((3 : Nat), TSh.at (Sh.ptr (2 : Nat) (0 : Nat))), ((6 : Nat), TSh.at (Sh.sl (3 : Nat))), ((7 : Nat), TSh.at (Sh.ptr (4 : Nat) (0 : Nat))), ((16 : Nat), TSh.at (Sh.sl (6 : Nat))), ((17 : Nat), TSh.at (Sh.int .i64)), ((18 : Nat), TSh.at (Sh.int .i64)), ((42 : Nat), TSh.at (Sh.inn (6 : Nat))), ((43 : Nat), TSh.at (Sh.int .i64)), ((44 : Nat), TSh.at (Sh.int .i64))]
noncomputable def ZnI : Spec := Spec.mk [OSh.ro, OSh.box (26 : Nat) [Sh.int .i64, Sh.int .i64, Sh.snap (0 : Nat) (Ty.pair (Ty.int .i64) (Ty.int .i64))], OSh.box (26 : Nat) [Sh.int .i64, Sh.int .i64, Sh.snap (0 : Nat) (Ty.pair (Ty.int .i64) (Ty.int .i64))], OSh.row true (3 : Nat) (Ty.int .i64), OSh.box (26 : Nat) [Sh.int .i64, Sh.int .i64, Sh.sl (5 : Nat)], OSh.row true (71 : Nat) (Ty.pair (Ty.int .i64) (Ty.int .i64)), OSh.row true (36 : Nat) (Ty.slice (3 : Nat) (Ty.int .i64))] [((2 : Nat), TSh.at (Sh.ptr (1 : Nat) (0 : Nat))), ((3 : Nat), TSh.at (Sh.ptr (2 : Nat) (0 : Nat))), ((6 : Nat), TSh.at (Sh.sl (3 : Nat))), ((7 : Nat), TSh.at (Sh.ptr (4 : Nat) (0 : Nat))), ((16 : Nat), TSh.at (Sh.sl (6 : Nat))), ((17 : Nat), TSh.at (Sh.int .i64)), ((18 : Nat), TSh.at (Sh.int .i64))]
noncomputable def Z3b : LoopDef (Tup Z3t × OutD) := .plain Zac ZnI (Int × Int × List (Int × Int) × Int × Int × List (Int × Int) × List Int × Int × Int × List (Int × Int) × List (List Int) × Int × Int) (fun k x => Z3y k x.1.2.1.1 x.1.2.1.2.1 x.1.2.1.2.2.1 x.1.2.2.1.1 x.1.2.2.1.2.1 x.1.2.2.1.2.2.1 x.1.2.2.2.1 x.1.2.2.2.2.1.1 x.1.2.2.2.2.1.2.1 x.1.2.2.2.2.2.1 x.1.2.2.2.2.2.2.1 x.2.2.2.2.2.2.1 x.2.2.2.2.2.2.2.1 x.2.2.2.2.2.2.2.2.1 x.2.2.2.2.2.2.2.2.2.1 x.2.2.2.2.2.2.2.2.2.2.1) (fun z => (((), (z.1, z.2.1, z.2.2.1, ()), (z.2.2.2.1, z.2.2.2.2.1, z.2.2.2.2.2.1, ()), z.2.2.2.2.2.2.1, (z.2.2.2.2.2.2.2.1, z.2.2.2.2.2.2.2.2.1, (), ()), z.2.2.2.2.2.2.2.2.2.1, z.2.2.2.2.2.2.2.2.2.2.1, ()), ((), (), (), (), (), z.2.2.2.2.2.2.2.2.2.2.2.1, z.2.2.2.2.2.2.2.2.2.2.2.2, ()))) (fun y => (y.1.2.1.1, y.1.2.1.2.1, y.1.2.1.2.2.1, y.1.2.2.1.1, y.1.2.2.1.2.1, y.1.2.2.1.2.2.1, y.1.2.2.2.1, y.1.2.2.2.2.1.1, y.1.2.2.2.2.1.2.1, y.1.2.2.2.2.2.1, y.1.2.2.2.2.2.2.1, y.2.2.2.2.2.2.1, y.2.2.2.2.2.2.2.1)) (fun _ => rfl)
noncomputable def Z1K : Nat → Int → Int → List (Int × Int) → Int → Int → List (Int × Int) → List Int → Int → Int → List (Int × Int) → List (List Int) → Int → Int → Option (Int × Int × List (Int × Int) × List Int × Int × Int × List (Int × Int))
 | 0, _, _, _, _, _, _, _, _, _, _, _, _, _ => none
 | k + 1, b1_0, b1_1, b1_2, b2_0, b2_1, b2_2, o3, b4_0, b4_1, o5, o6, v17, v18 =>
  if decide (v18 < v17) = true then if (0 : Int) ≤ v18 then if v18 < (↑(List.length o6) : Int) then if (0 : Int) < (↑(List.length (List.getD o6 (Int.toNat v18) [])) : Int) then if (0 : Int) ≤ List.getD (List.getD o6 (Int.toNat v18) []) (Int.toNat (0 : Int)) (0 : Int) then if List.getD (List.getD o6 (Int.toNat v18) []) (Int.toNat (0 : Int)) (0 : Int) < (↑(List.length b1_2) : Int) then if (0 : Int) < (↑(List.length (List.getD o6 (Int.toNat v18) [])) : Int) then if (0 : Int) ≤ List.getD (List.getD o6 (Int.toNat v18) []) (Int.toNat (0 : Int)) (0 : Int) then if List.getD (List.getD o6 (Int.toNat v18) []) (Int.toNat (0 : Int)) (0 : Int) < (↑(List.length b2_2) : Int) then if (decide (Prod.fst (List.getD b1_2 (Int.toNat (List.getD (List.getD o6 (Int.toNat v18) []) (Int.toNat (0 : Int)) (0 : Int))) ((0 : Int), (0 : Int))) = Prod.fst (List.getD b2_2 (Int.toNat (List.getD (List.getD o6 (Int.toNat v18) []) (Int.toNat (0 : Int)) (0 : Int))) ((0 : Int), (0 : Int)))) && (decide (Prod.snd (List.getD b1_2 (Int.toNat (List.getD (List.getD o6 (Int.toNat v18) []) (Int.toNat (0 : Int)) (0 : Int))) ((0 : Int), (0 : Int))) = Prod.snd (List.getD b2_2 (Int.toNat (List.getD (List.getD o6 (Int.toNat v18) []) (Int.toNat (0 : Int)) (0 : Int))) ((0 : Int), (0 : Int)))) && true)) = true then Z1K k b1_0 b1_1 b1_2 b2_0 b2_1 b2_2 o3 b4_0 b4_1 o5 o6 v17 (wrap64 (v18 + (1 : Int))) else if List.length o3 + List.length [v18] ≤ (140737488355328 / 8 : Nat) then Option.bind (Z3y k b1_0 b1_1 b1_2 b2_0 b2_1 b2_2 (o3 ++ [v18]) b4_0 b4_1 o5 o6 v17 v18 v18 (↑(List.length (List.getD o6 (Int.toNat v18) [])) : Int) (0 : Int)) fun z2 => Z1K k z2.1 z2.2.1 z2.2.2.1 z2.2.2.2.1 z2.2.2.2.2.1 z2.2.2.2.2.2.1 z2.2.2.2.2.2.2.1 z2.2.2.2.2.2.2.2.1 z2.2.2.2.2.2.2.2.2.1 z2.2.2.2.2.2.2.2.2.2.1 z2.2.2.2.2.2.2.2.2.2.2.1 z2.2.2.2.2.2.2.2.2.2.2.2.1 (wrap64 (Prod.snd z2.2.2.2.2.2.2.2.2.2.2.2 + (1 : Int))) else none else none else none else none else none else none else none else none else none else some (b2_0, b2_1, b2_2, o3, b4_0, b4_1, o5)
noncomputable def Z9Y : Spec := Spec.mk [OSh.ro, OSh.box (26 : Nat) [Sh.int .i64, Sh.int .i64, Sh.snap (0 : Nat) (Ty.pair (Ty.int .i64) (Ty.int .i64))], OSh.box (26 : Nat) [Sh.int .i64, Sh.int .i64, Sh.snap (0 : Nat) (Ty.pair (Ty.int .i64) (Ty.int .i64))], OSh.row true (3 : Nat) (Ty.int .i64), OSh.box (26 : Nat) [Sh.int .i64, Sh.int .i64, Sh.sl (5 : Nat)], OSh.row true (71 : Nat) (Ty.pair (Ty.int .i64) (Ty.int .i64)), OSh.row true (36 : Nat) (Ty.slice (3 : Nat) (Ty.int .i64))] [((2 : Nat), TSh.at (Sh.ptr (1 : Nat) (0 : Nat))), ((3 : Nat), TSh.at (Sh.ptr (2 : Nat) (0 : Nat))), ((6 : Nat), TSh.at (Sh.sl (3 : Nat))), ((7 : Nat), TSh.at (Sh.ptr (4 : Nat) (0 : Nat))), ((16 : Nat), TSh.at (Sh.sl (6 : Nat))), ((17 : Nat), TSh.at (Sh.int .i64)), ((18 : Nat), TSh.at (Sh.int .i64))]
noncomputable def ZnE : Spec := Spec.mk [OSh.ro, OSh.box (26 : Nat) [Sh.int .i64, Sh.int .i64, Sh.snap (0 : Nat) (Ty.pair (Ty.int .i64) (Ty.int .i64))], OSh.row true (3 : Nat) (Ty.int .i64), OSh.box (26 : Nat) [Sh.int .i64, Sh.int .i64, Sh.sl (4 : Nat)], OSh.row true (71 : Nat) (Ty.pair (Ty.int .i64) (Ty.int .i64))] [((3 : Nat), TSh.at (Sh.ptr (1 : Nat) (0 : Nat))), ((6 : Nat), TSh.at (Sh.sl (2 : Nat))), ((7 : Nat), TSh.at (Sh.ptr (3 : Nat) (0 : Nat)))]
noncomputable def Z35 : LoopDef (Tup Z3t × OutD) := .plain Z9Y ZnE (Int × Int × List (Int × Int) × List Int × Int × Int × List (Int × Int)) (fun k x => Z1K k x.1.2.1.1 x.1.2.1.2.1 x.1.2.1.2.2.1 x.1.2.2.1.1 x.1.2.2.1.2.1 x.1.2.2.1.2.2.1 x.1.2.2.2.1 x.1.2.2.2.2.1.1 x.1.2.2.2.2.1.2.1 x.1.2.2.2.2.2.1 x.1.2.2.2.2.2.2.1 x.2.2.2.2.2.2.1 x.2.2.2.2.2.2.2.1) (fun z => (((), (z.1, z.2.1, z.2.2.1, ()), z.2.2.2.1, (z.2.2.2.2.1, z.2.2.2.2.2.1, (), ()), z.2.2.2.2.2.2, ()), ((), (), (), ()))) (fun y => (y.1.2.1.1, y.1.2.1.2.1, y.1.2.1.2.2.1, y.1.2.2.1, y.1.2.2.2.1.1, y.1.2.2.2.1.2.1, y.1.2.2.2.2.1)) (fun _ => rfl)
noncomputable def Z8Y : Nat → Int × Int × List (Int × Int) → Int × Int × List (Int × Int) → Option (List Int × Bool)
 | 0, _, _ => none
 | k + 1, p0, p1 =>
  Option.bind (Z68 k (Prod.fst p0, Prod.fst p0.2, Prod.snd p0.2)) fun z0 => Option.bind (Z4i k (Prod.fst p0, Prod.fst p0.2, Prod.snd p0.2)) fun z1 => Option.bind (Z1K k p0.1 p0.2.1 p0.2.2 p1.1 p1.2.1 p1.2.2 [] z0.1 z0.2.1 z0.2.2 z1 (↑(List.length z1) : Int) (0 : Int)) fun z3 => Option.bind (ZaJ k (Prod.fst z3.2.2.2.2, Prod.fst z3.2.2.2.2.2, Prod.snd z3.2.2.2.2.2) (Prod.fst z3, Prod.fst z3.2, Prod.fst z3.2.2)) fun z4 => if (!z4) = true then some ([], false) else some (Prod.fst z3.2.2.2, true)
noncomputable def Z2l : FnDef := .of ZgF Z3t (List Int × Bool) (fun k x => Z8Y k x.1 x.2.1) ZfI ZfH Zm0
noncomputable def Z6G : Code := Try.f74.body.getD .skip
noncomputable def Z19 : Ctx (Tup Z3t × OutD) := { T := T, G := [(54, Z1P.E), (63, Z1A.E), (98, Z3s.E)], mvs := [], no := 0, n := 67, res := resOf T ZgF Z3t Try.f74.results.toList, loops := [(2, Z3b.E), (0, Z35.E)], regs := [], conds := [], cuts := [] }
theorem ZbT (k : Nat) : EnvOK Try.prog k Z19.G := (EnvOK.cons (Ze7 k) (EnvOK.cons (Za3 k) (EnvOK.cons (Zwf k) (EnvOK.nil mixed))))
noncomputable def Z70 : Code := (findLoop 2 Z6G).getD .skip
theorem Znz (k : Nat) (x : Zac.D) : Z3b.lp (k + 1) x = loopK Z19 Z3b 2 Z70 k x := by kernel_rfl
theorem Zob (k : Nat) : LOK Try.prog Z19 k Z70 := LOK.by [] (by kernel_rfl) AllOK.nil
theorem ZmU (x : Zac.D) : Z3b.lp 0 x = none := by kernel_rfl
theorem ZmE (k : Nat) : EOK Try.prog Z19 k Z3b.E (.block 2 (.loop Z70)) := Z8 T_ok ZbT ZmU Znz Zob k
noncomputable def Z6U : Code := (findLoop 0 Z6G).getD .skip
theorem ZmP (k : Nat) (x : Z9Y.D) : Z35.lp (k + 1) x = loopK Z19 Z35 0 Z6U k x := by kernel_rfl
theorem Zni (k : Nat) : LOK Try.prog Z19 k Z6U := LOK.by [(Z3b.E, .block 2 (.loop Z70))] (by kernel_rfl) (AllOK.cons (ZmE k) AllOK.nil)
theorem ZnK (x : Z9Y.D) : Z35.lp 0 x = none := by kernel_rfl
theorem ZlT (k : Nat) : EOK Try.prog Z19 k Z35.E (.block 0 (.loop Z6U)) := Z8 T_ok ZbT ZnK ZmP Zni k
theorem Zsw (k : Nat) (x : Tup Z2l.ps) : Z2l.f (k + 1) x = fnK Z2l Z19 Z6G k x := by kernel_rfl
theorem Zsc (x : Tup Z2l.ps) : Z2l.f 0 x = none := by kernel_rfl
theorem Zry (k : Nat) : LOK Try.prog Z19 k Z6G := LOK.by [(Z35.E, .block 0 (.loop Z6U))] (by kernel_rfl) (AllOK.cons (ZlT k) AllOK.nil)
theorem Zsh (k : Nat) : SoundAt Try.prog k 74 Z2l.E := @Z4 Try.prog Z2l Z19 74 Try.f74 Z6G (by kernel_rfl) (by kernel_rfl) (by kernel_rfl) Try.func74 (by kernel_rfl) (by kernel_rfl) (by kernel_rfl) T_ok ZbT Zry Zsc Zsw k
noncomputable def ZaQ : List PK := [PK.mk Ty.bool false none false none]
noncomputable def ZpE : List PK := [PK.mk (Ty.pair (Ty.int .i64) (Ty.pair (Ty.int .i64) (Ty.slice (71 : Nat) (Ty.pair (Ty.int .i64) (Ty.int .i64))))) true none false none, PK.mk (Ty.pair (Ty.int .i64) (Ty.pair (Ty.int .i64) (Ty.slice (71 : Nat) (Ty.pair (Ty.int .i64) (Ty.int .i64))))) true none false none]
noncomputable def ZnJ (r : Bool) : Tup ZaQ × OutD := ((r, ()), none)
noncomputable def Zo1 : Tup ZaQ × OutD → Option (Bool)
 | (a, none) => some (a.1)
 | _ => none
theorem ZtM : ∀ b r, Zo1 b = some r → ZnJ r = b := by
 rintro ⟨a, o⟩ r h
 cases o with
 | none => injection h with h; subst h; rfl
 | some _ => cases h
noncomputable def ZdE : Nat → Int × Int × List (Int × Int) → Int × Int × List (Int × Int) → Option Bool
 | 0, _, _ => none
 | k + 1, p0, p1 =>
  Option.bind (Z7f k (Prod.fst p0, Prod.fst p0.2, Prod.snd p0.2)) fun z0 => if z0 = true then Option.bind (Z7f k (Prod.fst p1, Prod.fst p1.2, Prod.snd p1.2)) fun z1 => if z1 = true then if decide (Prod.fst p0 = Prod.fst p1) = true then some (decide (Prod.fst p0.2 = Prod.fst p1.2)) else some false else some false else some false
noncomputable def Z5n : FnDef := .of ZpE ZaQ (Bool) (fun k x => ZdE k x.1 x.2.1) ZnJ Zo1 ZtM
noncomputable def Zhf : Code := Try.f75.body.getD .skip
noncomputable def Zdw : Ctx (Tup ZaQ × OutD) := { T := T, G := [(86, Z3v.E)], mvs := [], no := 0, n := 25, res := resOf T ZpE ZaQ Try.f75.results.toList, loops := [], regs := [], conds := [], cuts := [] }
theorem Zz5 (k : Nat) : EnvOK Try.prog k Zdw.G := (EnvOK.cons (Zhh k) (EnvOK.nil mixed))
theorem Zzr (k : Nat) (x : Tup Z5n.ps) : Z5n.f (k + 1) x = fnK Z5n Zdw Zhf k x := by kernel_rfl
theorem ZA0 (x : Tup Z5n.ps) : Z5n.f 0 x = none := by kernel_rfl
theorem ZyY (k : Nat) : LOK Try.prog Zdw k Zhf := LOK.by [] (by kernel_rfl) AllOK.nil
theorem ZA4 (k : Nat) : SoundAt Try.prog k 75 Z5n.E := @Z4 Try.prog Z5n Zdw 75 Try.f75 Zhf (by kernel_rfl) (by kernel_rfl) (by kernel_rfl) Try.func75 (by kernel_rfl) (by kernel_rfl) (by kernel_rfl) T_ok Zz5 ZyY ZA0 Zzr k
noncomputable def Z6X : List PK := [PK.mk (Ty.slice (3 : Nat) (Ty.int .i64)) false none false none, PK.mk Ty.bool false none false none]
noncomputable def Zli : List PK := [PK.mk (Ty.pair (Ty.int .i64) (Ty.pair (Ty.int .i64) (Ty.slice (71 : Nat) (Ty.pair (Ty.int .i64) (Ty.int .i64))))) true none false none, PK.mk (Ty.pair (Ty.int .i64) (Ty.pair (Ty.int .i64) (Ty.slice (71 : Nat) (Ty.pair (Ty.int .i64) (Ty.int .i64))))) true none false none]
noncomputable def ZiT (r : List Int × Bool) : Tup Z6X × OutD := ((r.1, r.2, ()), none)
noncomputable def ZiS : Tup Z6X × OutD → Option (List Int × Bool)
 | (a, none) => some (a.1, a.2.1)
 | _ => none
theorem Zqi : ∀ b r, ZiS b = some r → ZiT r = b := by
 rintro ⟨a, o⟩ r h
 cases o with
 | none => injection h with h; subst h; rfl
 | some _ => cases h
noncomputable def Z2X : Nat → Int → Int → List (Int × Int) → Int → Int → List (Int × Int) → Int → Int → List (Int × Int) → List Int → List (List Int) → Int → Int → Option (Int × Int × List (Int × Int) × Int × Int × List (Int × Int) × List Int)
 | 0, _, _, _, _, _, _, _, _, _, _, _, _, _ => none
 | k + 1, b1_0, b1_1, b1_2, b2_0, b2_1, b2_2, b3_0, b3_1, o4, o5, o6, v14, v15 =>
  if decide (v15 < v14) = true then if (0 : Int) ≤ v15 then if v15 < (↑(List.length o6) : Int) then if (0 : Int) < (↑(List.length (List.getD o6 (Int.toNat v15) [])) : Int) then if (0 : Int) ≤ List.getD (List.getD o6 (Int.toNat v15) []) (Int.toNat (0 : Int)) (0 : Int) then if List.getD (List.getD o6 (Int.toNat v15) []) (Int.toNat (0 : Int)) (0 : Int) < (↑(List.length b1_2) : Int) then if (0 : Int) < (↑(List.length (List.getD o6 (Int.toNat v15) [])) : Int) then if (0 : Int) ≤ List.getD (List.getD o6 (Int.toNat v15) []) (Int.toNat (0 : Int)) (0 : Int) then if List.getD (List.getD o6 (Int.toNat v15) []) (Int.toNat (0 : Int)) (0 : Int) < (↑(List.length b2_2) : Int) then if (!(decide (Prod.fst (List.getD b1_2 (Int.toNat (List.getD (List.getD o6 (Int.toNat v15) []) (Int.toNat (0 : Int)) (0 : Int))) ((0 : Int), (0 : Int))) = Prod.fst (List.getD b2_2 (Int.toNat (List.getD (List.getD o6 (Int.toNat v15) []) (Int.toNat (0 : Int)) (0 : Int))) ((0 : Int), (0 : Int)))) && (decide (Prod.snd (List.getD b1_2 (Int.toNat (List.getD (List.getD o6 (Int.toNat v15) []) (Int.toNat (0 : Int)) (0 : Int))) ((0 : Int), (0 : Int))) = Prod.snd (List.getD b2_2 (Int.toNat (List.getD (List.getD o6 (Int.toNat v15) []) (Int.toNat (0 : Int)) (0 : Int))) ((0 : Int), (0 : Int)))) && true))) = true then Option.bind (ZaU k (b3_0, b3_1, o4) (List.getD o6 (Int.toNat v15) [])) fun z2 => if List.length o5 + List.length [v15] ≤ (140737488355328 / 8 : Nat) then Z2X k b1_0 b1_1 b1_2 b2_0 b2_1 b2_2 b3_0 b3_1 z2 (o5 ++ [v15]) o6 v14 (wrap64 (v15 + (1 : Int))) else none else Z2X k b1_0 b1_1 b1_2 b2_0 b2_1 b2_2 b3_0 b3_1 o4 o5 o6 v14 (wrap64 (v15 + (1 : Int))) else none else none else none else none else none else none else none else none else some (b2_0, b2_1, b2_2, b3_0, b3_1, o4, o5)
noncomputable def Zc2 : Spec := Spec.mk [OSh.ro, OSh.box (26 : Nat) [Sh.int .i64, Sh.int .i64, Sh.snap (0 : Nat) (Ty.pair (Ty.int .i64) (Ty.int .i64))], OSh.box (26 : Nat) [Sh.int .i64, Sh.int .i64, Sh.snap (0 : Nat) (Ty.pair (Ty.int .i64) (Ty.int .i64))], OSh.box (26 : Nat) [Sh.int .i64, Sh.int .i64, Sh.sl (4 : Nat)], OSh.row true (71 : Nat) (Ty.pair (Ty.int .i64) (Ty.int .i64)), OSh.row true (3 : Nat) (Ty.int .i64), OSh.row true (36 : Nat) (Ty.slice (3 : Nat) (Ty.int .i64))] [((2 : Nat), TSh.at (Sh.ptr (1 : Nat) (0 : Nat))), ((3 : Nat), TSh.at (Sh.ptr (2 : Nat) (0 : Nat))), ((6 : Nat), TSh.at (Sh.ptr (3 : Nat) (0 : Nat))), ((7 : Nat), TSh.at (Sh.sl (5 : Nat))), ((13 : Nat), TSh.at (Sh.sl (6 : Nat))), ((14 : Nat), TSh.at (Sh.int .i64)), ((15 : Nat), TSh.at (Sh.int .i64))]
noncomputable def Zra : Spec := Spec.mk [OSh.ro, OSh.box (26 : Nat) [Sh.int .i64, Sh.int .i64, Sh.snap (0 : Nat) (Ty.pair (Ty.int .i64) (Ty.int .i64))], OSh.box (26 : Nat) [Sh.int .i64, Sh.int .i64, Sh.sl (3 : Nat)], OSh.row true (71 : Nat) (Ty.pair (Ty.int .i64) (Ty.int .i64)), OSh.row true (3 : Nat) (Ty.int .i64)] [((3 : Nat), TSh.at (Sh.ptr (1 : Nat) (0 : Nat))), ((6 : Nat), TSh.at (Sh.ptr (2 : Nat) (0 : Nat))), ((7 : Nat), TSh.at (Sh.sl (4 : Nat)))]
noncomputable def Z4z : LoopDef (Tup Z6X × OutD) := .plain Zc2 Zra (Int × Int × List (Int × Int) × Int × Int × List (Int × Int) × List Int) (fun k x => Z2X k x.1.2.1.1 x.1.2.1.2.1 x.1.2.1.2.2.1 x.1.2.2.1.1 x.1.2.2.1.2.1 x.1.2.2.1.2.2.1 x.1.2.2.2.1.1 x.1.2.2.2.1.2.1 x.1.2.2.2.2.1 x.1.2.2.2.2.2.1 x.1.2.2.2.2.2.2.1 x.2.2.2.2.2.2.1 x.2.2.2.2.2.2.2.1) (fun z => (((), (z.1, z.2.1, z.2.2.1, ()), (z.2.2.2.1, z.2.2.2.2.1, (), ()), z.2.2.2.2.2.1, z.2.2.2.2.2.2, ()), ((), (), (), ()))) (fun y => (y.1.2.1.1, y.1.2.1.2.1, y.1.2.1.2.2.1, y.1.2.2.1.1, y.1.2.2.1.2.1, y.1.2.2.2.1, y.1.2.2.2.2.1)) (fun _ => rfl)
noncomputable def Zbz : Nat → Int × Int × List (Int × Int) → Int × Int × List (Int × Int) → Option (List Int × Bool)
 | 0, _, _ => none
 | k + 1, p0, p1 =>
  Option.bind (Z84 k (Prod.fst p0, Prod.fst p0.2, Prod.snd p0.2)) fun z0 => Option.bind (Z2z k (Prod.fst p0, Prod.fst p0.2, Prod.snd p0.2)) fun z1 => Option.bind (Z2X k p0.1 p0.2.1 p0.2.2 p1.1 p1.2.1 p1.2.2 z0.1 z0.2.1 z0.2.2 [] z1 (↑(List.length z1) : Int) (0 : Int)) fun z3 => Option.bind (Z8T k (Prod.fst z3.2.2.2, Prod.fst z3.2.2.2.2, Prod.fst z3.2.2.2.2.2) (Prod.fst z3, Prod.fst z3.2, Prod.fst z3.2.2)) fun z4 => some (Prod.snd z3.2.2.2.2.2, decide ((↑(List.length z4) : Int) = (0 : Int)))
noncomputable def Z3O : FnDef := .of Zli Z6X (List Int × Bool) (fun k x => Zbz k x.1 x.2.1) ZiT ZiS Zqi
noncomputable def Zbt : Code := Try.f76.body.getD .skip
noncomputable def Z4V : Ctx (Tup Z6X × OutD) := { T := T, G := [(65, Z3l.E), (81, ZV.E), (99, Z49.E), (100, Z2h.E)], mvs := [], no := 0, n := 49, res := resOf T Zli Z6X Try.f76.results.toList, loops := [(0, Z4z.E)], regs := [], conds := [], cuts := [] }
theorem Zl8 (k : Nat) : EnvOK Try.prog k Z4V.G := (EnvOK.cons (Zfh k) (EnvOK.cons (Z5Z k) (EnvOK.cons (Zp9 k) (EnvOK.cons (Zr7 k) (EnvOK.nil mixed)))))
noncomputable def Z8P : Code := (findLoop 0 Zbt).getD .skip
theorem Zri (k : Nat) (x : Zc2.D) : Z4z.lp (k + 1) x = loopK Z4V Z4z 0 Z8P k x := by kernel_rfl
theorem Zrz (k : Nat) : LOK Try.prog Z4V k Z8P := LOK.by [] (by kernel_rfl) AllOK.nil
theorem Zso (x : Zc2.D) : Z4z.lp 0 x = none := by kernel_rfl
theorem Zq4 (k : Nat) : EOK Try.prog Z4V k Z4z.E (.block 0 (.loop Z8P)) := Z8 T_ok Zl8 Zso Zri Zrz k
theorem Zxk (k : Nat) (x : Tup Z3O.ps) : Z3O.f (k + 1) x = fnK Z3O Z4V Zbt k x := by kernel_rfl
theorem ZxH (x : Tup Z3O.ps) : Z3O.f 0 x = none := by kernel_rfl
theorem ZxC (k : Nat) : LOK Try.prog Z4V k Zbt := LOK.by [(Z4z.E, .block 0 (.loop Z8P))] (by kernel_rfl) (AllOK.cons (Zq4 k) AllOK.nil)
theorem Zxb (k : Nat) : SoundAt Try.prog k 76 Z3O.E := @Z4 Try.prog Z3O Z4V 76 Try.f76 Zbt (by kernel_rfl) (by kernel_rfl) (by kernel_rfl) Try.func76 (by kernel_rfl) (by kernel_rfl) (by kernel_rfl) T_ok Zl8 ZxC ZxH Zxk k
noncomputable def Z3A : List PK := [PK.mk (Ty.pair (Ty.int .i64) (Ty.pair (Ty.int .i64) (Ty.slice (71 : Nat) (Ty.pair (Ty.int .i64) (Ty.int .i64))))) true none false none]
noncomputable def Zfe : List PK := [PK.mk (Ty.pair (Ty.slice (5 : Nat) (Ty.int .u8)) (Ty.pair (Ty.int .i64) (Ty.int .u64))) false none false (some (58 : Nat)), PK.mk (Ty.int .i64) false none false none, PK.mk (Ty.int .i64) false none false none]
noncomputable def Zer (r : (Int × Int × List (Int × Int)) × Int × Int) : Tup Z3A × OutD := ((r.1, ()), some ⟨Ty.pair (Ty.slice (5 : Nat) (Ty.int .u8)) (Ty.pair (Ty.int .i64) (Ty.int .u64)), [([], r.2)]⟩)
noncomputable def Z9M : Tup Z3A × OutD → Option ((Int × Int × List (Int × Int)) × Int × Int)
 | (a, some ⟨u, ys⟩) => if h : u = Ty.pair (Ty.slice (5 : Nat) (Ty.int .u8)) (Ty.pair (Ty.int .i64) (Ty.int .u64)) then (match castU h ys with
  | [([], y)] => some (a.1, y)
  | _ => none) else none
 | _ => none
theorem Zjm : ∀ b r, Z9M b = some r → Zer r = b := by
 rintro ⟨a, o⟩ r h
 cases o with
 | none => cases h
 | some s =>
  obtain ⟨u, ys⟩ := s
  simp only [Z9M] at h
  split at h
  ·rename_i hu
   subst hu
   match ys, h with
   | [], h => cases (show (none : Option _) = some r from h)
   | [([], y)], h => injection (show some _ = some r from h) with h; subst h; rfl
   | [(_ :: _, y)], h => cases (show (none : Option _) = some r from h)
   | (h1, _) :: _ :: _, h => cases h1 <;> cases (show (none : Option _) = some r from h)
  ·cases h
noncomputable def Z7 : Nat → Int → Int → List Int → Int → Int → List (Int × Int) → Int → Int → List (Int × Int) → Int → Int → Int → Option (Int × Int × List Int × Int × Int × List (Int × Int) × Int × Int × List (Int × Int))
 | 0, _, _, _, _, _, _, _, _, _, _, _, _ => none
 | k + 1, b1_1, b1_2, o2, b3_0, b3_1, o4, b5_0, b5_1, o6, v1, v2, v8 =>
  if decide ((↑(List.length o6) : Int) < wrap64 (v1 * v2)) = true then Option.bind (Zm k (o2, b1_1, b1_2) v8) fun z1 => if Prod.fst z1 = true then Option.bind (ZL k (o2, Prod.fst z1.2, Prod.snd z1.2)) fun z2 => if decide (Prod.fst z2.1 = (5 : Int)) = true then Option.bind (Zm k (o2, Prod.fst z2.2, Prod.snd z2.2) (3 : Int)) fun z3 => if (!Prod.fst z3) = true then Option.bind (Z0 k (o2, Prod.fst z3.2, Prod.snd z3.2) (2 : Int)) fun z4 => if List.length o6 + List.length [((3 : Int), Prod.fst z4)] ≤ (140737488355328 / 16 : Nat) then Z7 k z4.2.1 z4.2.2 o2 b3_0 b3_1 o4 b5_0 b5_1 (o6 ++ [((3 : Int), Prod.fst z4)]) v1 v2 v8 else none else if List.length o6 + List.length [(Prod.fst z2.1, Prod.snd z2.1)] ≤ (140737488355328 / 16 : Nat) then Z7 k z3.2.1 z3.2.2 o2 b3_0 b3_1 o4 b5_0 b5_1 (o6 ++ [(Prod.fst z2.1, Prod.snd z2.1)]) v1 v2 v8 else none else if List.length o6 + List.length [(Prod.fst z2.1, Prod.snd z2.1)] ≤ (140737488355328 / 16 : Nat) then Z7 k z2.2.1 z2.2.2 o2 b3_0 b3_1 o4 b5_0 b5_1 (o6 ++ [(Prod.fst z2.1, Prod.snd z2.1)]) v1 v2 v8 else none else Option.bind (Zm k (o2, Prod.fst z1.2, Prod.snd z1.2) (3 : Int)) fun z5 => if Prod.fst z5 = true then Option.bind (ZL k (o2, Prod.fst z5.2, Prod.snd z5.2)) fun z6 => if decide (Prod.fst z6.1 = (5 : Int)) = true then Option.bind (Zm k (o2, Prod.fst z6.2, Prod.snd z6.2) (3 : Int)) fun z7 => if (!Prod.fst z7) = true then Option.bind (Z0 k (o2, Prod.fst z7.2, Prod.snd z7.2) (2 : Int)) fun z8 => if List.length o6 + List.length [((3 : Int), Prod.fst z8)] ≤ (140737488355328 / 16 : Nat) then Z7 k z8.2.1 z8.2.2 o2 b3_0 b3_1 o4 b5_0 b5_1 (o6 ++ [((3 : Int), Prod.fst z8)]) v1 v2 v8 else none else if List.length o6 + List.length [(Prod.fst z6.1, Prod.snd z6.1)] ≤ (140737488355328 / 16 : Nat) then Z7 k z7.2.1 z7.2.2 o2 b3_0 b3_1 o4 b5_0 b5_1 (o6 ++ [(Prod.fst z6.1, Prod.snd z6.1)]) v1 v2 v8 else none else if List.length o6 + List.length [(Prod.fst z6.1, Prod.snd z6.1)] ≤ (140737488355328 / 16 : Nat) then Z7 k z6.2.1 z6.2.2 o2 b3_0 b3_1 o4 b5_0 b5_1 (o6 ++ [(Prod.fst z6.1, Prod.snd z6.1)]) v1 v2 v8 else none else if List.length o6 + List.length [((0 : Int), (0 : Int))] ≤ (140737488355328 / 16 : Nat) then Z7 k z5.2.1 z5.2.2 o2 b3_0 b3_1 o4 b5_0 b5_1 (o6 ++ [((0 : Int), (0 : Int))]) v1 v2 v8 else none else some (b1_1, b1_2, o2, b3_0, b3_1, o4, b5_0, b5_1, o6)
noncomputable def Z8m : Spec := Spec.mk [OSh.ro, OSh.box (58 : Nat) [Sh.sl (2 : Nat), Sh.int .i64, Sh.int .u64], OSh.fx (Ty.int .u8), OSh.box (26 : Nat) [Sh.int .i64, Sh.int .i64, Sh.sl (4 : Nat)], OSh.row true (71 : Nat) (Ty.pair (Ty.int .i64) (Ty.int .i64)), OSh.box (26 : Nat) [Sh.int .i64, Sh.int .i64, Sh.sl (6 : Nat)], OSh.row true (71 : Nat) (Ty.pair (Ty.int .i64) (Ty.int .i64))] [((0 : Nat), TSh.at (Sh.ptr (1 : Nat) (0 : Nat))), ((1 : Nat), TSh.at (Sh.int .i64)), ((2 : Nat), TSh.at (Sh.int .i64)), ((6 : Nat), TSh.at (Sh.ptr (3 : Nat) (0 : Nat))), ((7 : Nat), TSh.at (Sh.ptr (5 : Nat) (0 : Nat))), ((8 : Nat), TSh.at (Sh.int .i64))]
noncomputable def ZkB : Spec := Spec.mk [OSh.ro, OSh.box (58 : Nat) [Sh.sl (2 : Nat), Sh.int .i64, Sh.int .u64], OSh.fx (Ty.int .u8), OSh.box (26 : Nat) [Sh.int .i64, Sh.int .i64, Sh.sl (4 : Nat)], OSh.row true (71 : Nat) (Ty.pair (Ty.int .i64) (Ty.int .i64)), OSh.box (26 : Nat) [Sh.int .i64, Sh.int .i64, Sh.sl (6 : Nat)], OSh.row true (71 : Nat) (Ty.pair (Ty.int .i64) (Ty.int .i64))] [((6 : Nat), TSh.at (Sh.ptr (3 : Nat) (0 : Nat))), ((7 : Nat), TSh.at (Sh.ptr (5 : Nat) (0 : Nat)))]
noncomputable def Z2m : LoopDef (Tup Z3A × OutD) := .plain Z8m ZkB (Int × Int × List Int × Int × Int × List (Int × Int) × Int × Int × List (Int × Int)) (fun k x => Z7 k x.1.2.1.2.1 x.1.2.1.2.2.1 x.1.2.2.1 x.1.2.2.2.1.1 x.1.2.2.2.1.2.1 x.1.2.2.2.2.1 x.1.2.2.2.2.2.1.1 x.1.2.2.2.2.2.1.2.1 x.1.2.2.2.2.2.2.1 x.2.2.1 x.2.2.2.1 x.2.2.2.2.2.2.1) (fun z => (((), ((), z.1, z.2.1, ()), z.2.2.1, (z.2.2.2.1, z.2.2.2.2.1, (), ()), z.2.2.2.2.2.1, (z.2.2.2.2.2.2.1, z.2.2.2.2.2.2.2.1, (), ()), z.2.2.2.2.2.2.2.2, ()), ((), (), ()))) (fun y => (y.1.2.1.2.1, y.1.2.1.2.2.1, y.1.2.2.1, y.1.2.2.2.1.1, y.1.2.2.2.1.2.1, y.1.2.2.2.2.1, y.1.2.2.2.2.2.1.1, y.1.2.2.2.2.2.1.2.1, y.1.2.2.2.2.2.2.1)) (fun _ => rfl)
noncomputable def Z2w : Nat → List Int × Int × Int → Int → Int → Option ((Int × Int × List (Int × Int)) × Int × Int)
 | 0, _, _, _ => none
 | k + 1, p0, p1, p2 =>
  Option.bind (Zb k (Prod.fst p0, Prod.fst p0.2, Prod.snd p0.2) [(1 : Int), (2 : Int), (2 : Int)]) fun z0 => Option.bind (Z7 k z0.2.1 z0.2.2 p0.1 (0 : Int) (0 : Int) [] p1 p2 [] p1 p2 z0.1) fun z9 => some ((Prod.fst z9.2.2.2.2.2.2, Prod.fst z9.2.2.2.2.2.2.2, Prod.snd z9.2.2.2.2.2.2.2), Prod.fst z9, Prod.fst z9.2)
noncomputable def Z15 : FnDef := .of Zfe Z3A ((Int × Int × List (Int × Int)) × Int × Int) (fun k x => Z2w k x.1 x.2.1 x.2.2.1) Zer Z9M Zjm
noncomputable def Z7L : Code := Try.f78.body.getD .skip
noncomputable def Z2s : Ctx (Tup Z3A × OutD) := { T := T, G := [(60, Zv.E), (58, ZJ.E), (73, Z1q.E), (57, Zc.E)], mvs := [], no := 2, n := 51, res := resOf T Zfe Z3A Try.f78.results.toList, loops := [(0, Z2m.E)], regs := [], conds := [], cuts := [] }
theorem Zf7 (k : Nat) : EnvOK Try.prog k Z2s.G := (EnvOK.cons (Z4D k) (EnvOK.cons (Z5I k) (EnvOK.cons (ZcI k) (EnvOK.cons (ZK k) (EnvOK.nil mixed)))))
noncomputable def Z5z : Code := (findLoop 0 Z7L).getD .skip
theorem Zkk (k : Nat) (x : Z8m.D) : Z2m.lp (k + 1) x = loopK Z2s Z2m 0 Z5z k x := by kernel_rfl
theorem ZkP (k : Nat) : LOK Try.prog Z2s k Z5z := LOK.by [] (by kernel_rfl) AllOK.nil
theorem Zkn (x : Z8m.D) : Z2m.lp 0 x = none := by kernel_rfl
theorem Zj6 (k : Nat) : EOK Try.prog Z2s k Z2m.E (.block 0 (.loop Z5z)) := Z8 T_ok Zf7 Zkn Zkk ZkP k
theorem Zox (k : Nat) (x : Tup Z15.ps) : Z15.f (k + 1) x = fnK Z15 Z2s Z7L k x := by kernel_rfl
theorem ZoF (x : Tup Z15.ps) : Z15.f 0 x = none := by kernel_rfl
theorem ZoX (k : Nat) : LOK Try.prog Z2s k Z7L := LOK.by [(Z2m.E, .block 0 (.loop Z5z))] (by kernel_rfl) (AllOK.cons (Zj6 k) AllOK.nil)
theorem Zff (k : Nat) : SoundAt Try.prog k 78 Z15.E := @Z4 Try.prog Z15 Z2s 78 Try.f78 Z7L (by kernel_rfl) (by kernel_rfl) (by kernel_rfl) Try.func78 (by kernel_rfl) (by kernel_rfl) (by kernel_rfl) T_ok Zf7 ZoX ZoF Zox k
noncomputable def Z8U : List PK := [PK.mk (Ty.int .i64) false none false none]
noncomputable def Zlc : List PK := [PK.mk (Ty.pair (Ty.int .i64) (Ty.pair (Ty.int .i64) (Ty.slice (71 : Nat) (Ty.pair (Ty.int .i64) (Ty.int .i64))))) true none false none]
noncomputable def ZiV (r : Int) : Tup Z8U × OutD := ((r, ()), none)
noncomputable def Zjj : Tup Z8U × OutD → Option (Int)
 | (a, none) => some (a.1)
 | _ => none
theorem Zqb : ∀ b r, Zjj b = some r → ZiV r = b := by
 rintro ⟨a, o⟩ r h
 cases o with
 | none => injection h with h; subst h; rfl
 | some _ => cases h
noncomputable def ZbE : Nat → Int × Int × List (Int × Int) → Option Int
 | 0, _ => none
 | k + 1, p0 =>
  Option.bind (Z2z k (Prod.fst p0, Prod.fst p0.2, Prod.snd p0.2)) fun z0 => some (shlS (1 : Int) (IntKind.wrap IntKind.u64 (↑(List.length z0) : Int)))
noncomputable def Z3L : FnDef := .of Zlc Z8U (Int) (fun k x => ZbE k x.1) ZiV Zjj Zqb
noncomputable def ZeI : Code := Try.f82.body.getD .skip
noncomputable def ZbD : Ctx (Tup Z8U × OutD) := { T := T, G := [(81, ZV.E)], mvs := [], no := 0, n := 8, res := resOf T Zlc Z8U Try.f82.results.toList, loops := [], regs := [], conds := [], cuts := [] }
theorem Zxw (k : Nat) : EnvOK Try.prog k ZbD.G := (EnvOK.cons (Z5Z k) (EnvOK.nil mixed))
theorem Zxf (k : Nat) (x : Tup Z3L.ps) : Z3L.f (k + 1) x = fnK Z3L ZbD ZeI k x := by kernel_rfl
theorem Zxx (x : Tup Z3L.ps) : Z3L.f 0 x = none := by kernel_rfl
theorem Zxz (k : Nat) : LOK Try.prog ZbD k ZeI := LOK.by [] (by kernel_rfl) AllOK.nil
theorem Zxg (k : Nat) : SoundAt Try.prog k 82 Z3L.E := @Z4 Try.prog Z3L ZbD 82 Try.f82 ZeI (by kernel_rfl) (by kernel_rfl) (by kernel_rfl) Try.func82 (by kernel_rfl) (by kernel_rfl) (by kernel_rfl) T_ok Zxw Zxz Zxx Zxf k
noncomputable def Z8C : List PK := [PK.mk (Ty.slice (3 : Nat) (Ty.int .i64)) false none false none]
noncomputable def Zpp : List PK := [PK.mk (Ty.pair (Ty.int .i64) (Ty.pair (Ty.int .i64) (Ty.slice (71 : Nat) (Ty.pair (Ty.int .i64) (Ty.int .i64))))) true none false none]
noncomputable def ZnC (r : List Int) : Tup Z8C × OutD := ((r, ()), none)
noncomputable def ZnV : Tup Z8C × OutD → Option (List Int)
 | (a, none) => some (a.1)
 | _ => none
theorem ZsS : ∀ b r, ZnV b = some r → ZnC r = b := by
 rintro ⟨a, o⟩ r h
 cases o with
 | none => injection h with h; subst h; rfl
 | some _ => cases h
noncomputable def Z79 : Nat → Int → Int → List (Int × Int) → List Int → List (List Int) → Int → Int → Option (List Int)
 | 0, _, _, _, _, _, _, _ => none
 | k + 1, b1_0, b1_1, b1_2, o2, o3, v8, v9 =>
  if decide (v9 < v8) = true then if (0 : Int) ≤ v9 then if v9 < (↑(List.length o3) : Int) then if (0 : Int) < (↑(List.length (List.getD o3 (Int.toNat v9) [])) : Int) then if (0 : Int) ≤ List.getD (List.getD o3 (Int.toNat v9) []) (Int.toNat (0 : Int)) (0 : Int) then if List.getD (List.getD o3 (Int.toNat v9) []) (Int.toNat (0 : Int)) (0 : Int) < (↑(List.length b1_2) : Int) then if List.length o2 + List.length [Prod.snd (List.getD b1_2 (Int.toNat (List.getD (List.getD o3 (Int.toNat v9) []) (Int.toNat (0 : Int)) (0 : Int))) ((0 : Int), (0 : Int)))] ≤ (140737488355328 / 8 : Nat) then Z79 k b1_0 b1_1 b1_2 (o2 ++ [Prod.snd (List.getD b1_2 (Int.toNat (List.getD (List.getD o3 (Int.toNat v9) []) (Int.toNat (0 : Int)) (0 : Int))) ((0 : Int), (0 : Int)))]) o3 v8 (wrap64 (v9 + (1 : Int))) else none else none else none else none else none else none else some o2
noncomputable def Ze0 : Spec := Spec.mk [OSh.ro, OSh.box (26 : Nat) [Sh.int .i64, Sh.int .i64, Sh.snap (0 : Nat) (Ty.pair (Ty.int .i64) (Ty.int .i64))], OSh.row true (3 : Nat) (Ty.int .i64), OSh.row true (36 : Nat) (Ty.slice (3 : Nat) (Ty.int .i64))] [((1 : Nat), TSh.at (Sh.ptr (1 : Nat) (0 : Nat))), ((3 : Nat), TSh.at (Sh.sl (2 : Nat))), ((7 : Nat), TSh.at (Sh.sl (3 : Nat))), ((8 : Nat), TSh.at (Sh.int .i64)), ((9 : Nat), TSh.at (Sh.int .i64))]
noncomputable def ZvX : Spec := Spec.mk [OSh.ro, OSh.row true (3 : Nat) (Ty.int .i64)] [((3 : Nat), TSh.at (Sh.sl (1 : Nat)))]
noncomputable def Z5W : LoopDef (Tup Z8C × OutD) := .plain Ze0 ZvX (List Int) (fun k x => Z79 k x.1.2.1.1 x.1.2.1.2.1 x.1.2.1.2.2.1 x.1.2.2.1 x.1.2.2.2.1 x.2.2.2.2.1 x.2.2.2.2.2.1) (fun z => (((), z, ()), ((), ()))) (fun y => (y.1.2.1)) (fun _ => rfl)
noncomputable def ZdN : Nat → Int × Int × List (Int × Int) → Option (List Int)
 | 0, _ => none
 | k + 1, p0 =>
  Option.bind (Z2z k (Prod.fst p0, Prod.fst p0.2, Prod.snd p0.2)) fun z0 => Option.bind (Z79 k p0.1 p0.2.1 p0.2.2 [] z0 (↑(List.length z0) : Int) (0 : Int)) fun z1 => some z1
noncomputable def Z5q : FnDef := .of Zpp Z8C (List Int) (fun k x => ZdN k x.1) ZnC ZnV ZsS
noncomputable def ZdL : Code := Try.f83.body.getD .skip
noncomputable def Z7c : Ctx (Tup Z8C × OutD) := { T := T, G := [(81, ZV.E)], mvs := [], no := 0, n := 26, res := resOf T Zpp Z8C Try.f83.results.toList, loops := [(0, Z5W.E)], regs := [], conds := [], cuts := [] }
theorem ZpU (k : Nat) : EnvOK Try.prog k Z7c.G := (EnvOK.cons (Z5Z k) (EnvOK.nil mixed))
noncomputable def ZaA : Code := (findLoop 0 ZdL).getD .skip
theorem Zwt (k : Nat) (x : Ze0.D) : Z5W.lp (k + 1) x = loopK Z7c Z5W 0 ZaA k x := by kernel_rfl
theorem Zv9 (k : Nat) : LOK Try.prog Z7c k ZaA := LOK.by [] (by kernel_rfl) AllOK.nil
theorem Zwc (x : Ze0.D) : Z5W.lp 0 x = none := by kernel_rfl
theorem ZsN (k : Nat) : EOK Try.prog Z7c k Z5W.E (.block 0 (.loop ZaA)) := Z8 T_ok ZpU Zwc Zwt Zv9 k
theorem ZzB (k : Nat) (x : Tup Z5q.ps) : Z5q.f (k + 1) x = fnK Z5q Z7c ZdL k x := by kernel_rfl
theorem ZzV (x : Tup Z5q.ps) : Z5q.f 0 x = none := by kernel_rfl
theorem Zzz (k : Nat) : LOK Try.prog Z7c k ZdL := LOK.by [(Z5W.E, .block 0 (.loop ZaA))] (by kernel_rfl) (AllOK.cons (ZsN k) AllOK.nil)
theorem Zzo (k : Nat) : SoundAt Try.prog k 83 Z5q.E := @Z4 Try.prog Z5q Z7c 83 Try.f83 ZdL (by kernel_rfl) (by kernel_rfl) (by kernel_rfl) Try.func83 (by kernel_rfl) (by kernel_rfl) (by kernel_rfl) T_ok ZpU Zzz ZzV ZzB k
noncomputable def Z8v : List PK := [PK.mk (Ty.pair (Ty.int .i64) (Ty.pair (Ty.int .i64) (Ty.slice (71 : Nat) (Ty.pair (Ty.int .i64) (Ty.int .i64))))) true none false none]
noncomputable def Zpn : List PK := [PK.mk (Ty.pair (Ty.int .i64) (Ty.pair (Ty.int .i64) (Ty.slice (71 : Nat) (Ty.pair (Ty.int .i64) (Ty.int .i64))))) true none false none, PK.mk (Ty.slice (3 : Nat) (Ty.int .i64)) false none false none]
noncomputable def Zne (r : Int × Int × List (Int × Int)) : Tup Z8v × OutD := ((r, ()), none)
noncomputable def Znw : Tup Z8v × OutD → Option (Int × Int × List (Int × Int))
 | (a, none) => some (a.1)
 | _ => none
theorem Zty : ∀ b r, Znw b = some r → Zne r = b := by
 rintro ⟨a, o⟩ r h
 cases o with
 | none => injection h with h; subst h; rfl
 | some _ => cases h
noncomputable def Z4Y : Nat → Int → Int → List (Int × Int) → Int → Int → List (Int × Int) → Int → Int → List (Int × Int) → List (List Int) → List Int → Int → Int → Option (Int × Int × List (Int × Int) × Int × Int × List (Int × Int))
 | 0, _, _, _, _, _, _, _, _, _, _, _, _, _ => none
 | k + 1, b1_0, b1_1, b1_2, b2_0, b2_1, o3, b4_0, b4_1, o5, o6, v1, v12, v13 =>
  if decide (v13 < v12) = true then if (0 : Int) ≤ v13 then if v13 < (↑(List.length o6) : Int) then if (0 : Int) < (↑(List.length (List.getD o6 (Int.toNat v13) [])) : Int) then if (0 : Int) ≤ List.getD (List.getD o6 (Int.toNat v13) []) (Int.toNat (0 : Int)) (0 : Int) then if List.getD (List.getD o6 (Int.toNat v13) []) (Int.toNat (0 : Int)) (0 : Int) < (↑(List.length b1_2) : Int) then if (0 : Int) ≤ v13 then if v13 < (↑(List.length v1) : Int) then if decide (Prod.snd (List.getD b1_2 (Int.toNat (List.getD (List.getD o6 (Int.toNat v13) []) (Int.toNat (0 : Int)) (0 : Int))) ((0 : Int), (0 : Int))) ≠ List.getD v1 (Int.toNat v13) (0 : Int)) = true then Option.bind (ZaU k (b4_0, b4_1, o5) (List.getD o6 (Int.toNat v13) [])) fun z2 => Z4Y k b1_0 b1_1 b1_2 b2_0 b2_1 o3 b4_0 b4_1 z2 o6 v1 v12 (wrap64 (v13 + (1 : Int))) else Z4Y k b1_0 b1_1 b1_2 b2_0 b2_1 o3 b4_0 b4_1 o5 o6 v1 v12 (wrap64 (v13 + (1 : Int))) else none else none else none else none else none else none else none else some (b2_0, b2_1, o3, b4_0, b4_1, o5)
noncomputable def ZdT : Spec := Spec.mk [OSh.ro, OSh.box (26 : Nat) [Sh.int .i64, Sh.int .i64, Sh.snap (0 : Nat) (Ty.pair (Ty.int .i64) (Ty.int .i64))], OSh.box (26 : Nat) [Sh.int .i64, Sh.int .i64, Sh.sl (3 : Nat)], OSh.row true (71 : Nat) (Ty.pair (Ty.int .i64) (Ty.int .i64)), OSh.box (26 : Nat) [Sh.int .i64, Sh.int .i64, Sh.sl (5 : Nat)], OSh.row true (71 : Nat) (Ty.pair (Ty.int .i64) (Ty.int .i64)), OSh.row true (36 : Nat) (Ty.slice (3 : Nat) (Ty.int .i64))] [((1 : Nat), TSh.at (Sh.snap (0 : Nat) (Ty.int .i64))), ((2 : Nat), TSh.at (Sh.ptr (1 : Nat) (0 : Nat))), ((4 : Nat), TSh.at (Sh.ptr (2 : Nat) (0 : Nat))), ((5 : Nat), TSh.at (Sh.ptr (4 : Nat) (0 : Nat))), ((11 : Nat), TSh.at (Sh.sl (6 : Nat))), ((12 : Nat), TSh.at (Sh.int .i64)), ((13 : Nat), TSh.at (Sh.int .i64))]
noncomputable def Zvk : Spec := Spec.mk [OSh.ro, OSh.box (26 : Nat) [Sh.int .i64, Sh.int .i64, Sh.sl (2 : Nat)], OSh.row true (71 : Nat) (Ty.pair (Ty.int .i64) (Ty.int .i64)), OSh.box (26 : Nat) [Sh.int .i64, Sh.int .i64, Sh.sl (4 : Nat)], OSh.row true (71 : Nat) (Ty.pair (Ty.int .i64) (Ty.int .i64))] [((4 : Nat), TSh.at (Sh.ptr (1 : Nat) (0 : Nat))), ((5 : Nat), TSh.at (Sh.ptr (3 : Nat) (0 : Nat)))]
noncomputable def Z5V : LoopDef (Tup Z8v × OutD) := .plain ZdT Zvk (Int × Int × List (Int × Int) × Int × Int × List (Int × Int)) (fun k x => Z4Y k x.1.2.1.1 x.1.2.1.2.1 x.1.2.1.2.2.1 x.1.2.2.1.1 x.1.2.2.1.2.1 x.1.2.2.2.1 x.1.2.2.2.2.1.1 x.1.2.2.2.2.1.2.1 x.1.2.2.2.2.2.1 x.1.2.2.2.2.2.2.1 x.2.1 x.2.2.2.2.2.2.1 x.2.2.2.2.2.2.2.1) (fun z => (((), (z.1, z.2.1, (), ()), z.2.2.1, (z.2.2.2.1, z.2.2.2.2.1, (), ()), z.2.2.2.2.2, ()), ((), (), ()))) (fun y => (y.1.2.1.1, y.1.2.1.2.1, y.1.2.2.1, y.1.2.2.2.1.1, y.1.2.2.2.1.2.1, y.1.2.2.2.2.1)) (fun _ => rfl)
noncomputable def ZdQ : Nat → Int × Int × List (Int × Int) → List Int → Option (Int × Int × List (Int × Int))
 | 0, _, _ => none
 | k + 1, p0, p1 =>
  Option.bind (Z84 k (Prod.fst p0, Prod.fst p0.2, Prod.snd p0.2)) fun z0 => Option.bind (Z2z k (Prod.fst p0, Prod.fst p0.2, Prod.snd p0.2)) fun z1 => Option.bind (Z4Y k p0.1 p0.2.1 p0.2.2 (0 : Int) (0 : Int) [] z0.1 z0.2.1 z0.2.2 z1 p1 (↑(List.length z1) : Int) (0 : Int)) fun z3 => some (Prod.fst z3.2.2.2, Prod.fst z3.2.2.2.2, Prod.snd z3.2.2.2.2)
noncomputable def Z5r : FnDef := .of Zpn Z8v (Int × Int × List (Int × Int)) (fun k x => ZdQ k x.1 x.2.1) Zne Znw Zty
noncomputable def ZdR : Code := Try.f84.body.getD .skip
noncomputable def Z7k : Ctx (Tup Z8v × OutD) := { T := T, G := [(65, Z3l.E), (81, ZV.E), (99, Z49.E)], mvs := [], no := 0, n := 36, res := resOf T Zpn Z8v Try.f84.results.toList, loops := [(0, Z5V.E)], regs := [], conds := [], cuts := [] }
theorem ZpO (k : Nat) : EnvOK Try.prog k Z7k.G := (EnvOK.cons (Zfh k) (EnvOK.cons (Z5Z k) (EnvOK.cons (Zp9 k) (EnvOK.nil mixed))))
noncomputable def Zam : Code := (findLoop 0 ZdR).getD .skip
theorem ZvY (k : Nat) (x : ZdT.D) : Z5V.lp (k + 1) x = loopK Z7k Z5V 0 Zam k x := by kernel_rfl
theorem ZvD (k : Nat) : LOK Try.prog Z7k k Zam := LOK.by [] (by kernel_rfl) AllOK.nil
theorem ZvL (x : ZdT.D) : Z5V.lp 0 x = none := by kernel_rfl
theorem ZtD (k : Nat) : EOK Try.prog Z7k k Z5V.E (.block 0 (.loop Zam)) := Z8 T_ok ZpO ZvL ZvY ZvD k
theorem Zzw (k : Nat) (x : Tup Z5r.ps) : Z5r.f (k + 1) x = fnK Z5r Z7k ZdR k x := by kernel_rfl
theorem Zzx (x : Tup Z5r.ps) : Z5r.f 0 x = none := by kernel_rfl
theorem ZA7 (k : Nat) : LOK Try.prog Z7k k ZdR := LOK.by [(Z5V.E, .block 0 (.loop Zam))] (by kernel_rfl) (AllOK.cons (ZtD k) AllOK.nil)
theorem ZA5 (k : Nat) : SoundAt Try.prog k 84 Z5r.E := @Z4 Try.prog Z5r Z7k 84 Try.f84 ZdR (by kernel_rfl) (by kernel_rfl) (by kernel_rfl) Try.func84 (by kernel_rfl) (by kernel_rfl) (by kernel_rfl) T_ok ZpO ZA7 Zzx Zzw k
noncomputable def Z50 : List PK := [PK.mk (Ty.pair (Ty.int .i64) (Ty.int .i64)) true none false none]
noncomputable def Zfx : List PK := [PK.mk (Ty.pair (Ty.slice (5 : Nat) (Ty.int .u8)) (Ty.pair (Ty.int .i64) (Ty.int .u64))) false none false (some (58 : Nat))]
noncomputable def ZeA (r : (Int × Int) × Int × Int) : Tup Z50 × OutD := ((r.1, ()), some ⟨Ty.pair (Ty.slice (5 : Nat) (Ty.int .u8)) (Ty.pair (Ty.int .i64) (Ty.int .u64)), [([], r.2)]⟩)
noncomputable def Z9Q : Tup Z50 × OutD → Option ((Int × Int) × Int × Int)
 | (a, some ⟨u, ys⟩) => if h : u = Ty.pair (Ty.slice (5 : Nat) (Ty.int .u8)) (Ty.pair (Ty.int .i64) (Ty.int .u64)) then (match castU h ys with
  | [([], y)] => some (a.1, y)
  | _ => none) else none
 | _ => none
theorem Zjr : ∀ b r, Z9Q b = some r → ZeA r = b := by
 rintro ⟨a, o⟩ r h
 cases o with
 | none => cases h
 | some s =>
  obtain ⟨u, ys⟩ := s
  simp only [Z9Q] at h
  split at h
  ·rename_i hu
   subst hu
   match ys, h with
   | [], h => cases (show (none : Option _) = some r from h)
   | [([], y)], h => injection (show some _ = some r from h) with h; subst h; rfl
   | [(_ :: _, y)], h => cases (show (none : Option _) = some r from h)
   | (h1, _) :: _ :: _, h => cases h1 <;> cases (show (none : Option _) = some r from h)
  ·cases h
noncomputable def Z16 : Nat → List Int × Int × Int → Option ((Int × Int) × Int × Int)
 | 0, _ => none
 | k + 1, p0 =>
  Option.bind (ZL k (Prod.fst p0, Prod.fst p0.2, Prod.snd p0.2)) fun z0 => Option.bind (Z0 k (Prod.fst p0, Prod.fst z0.2, Prod.snd z0.2) (20 : Int)) fun z1 => if decide (Prod.fst z1 = (0 : Int)) = true then Option.bind (Zb k (Prod.fst p0, Prod.fst z1.2, Prod.snd z1.2) [(-1 : Int), (8 : Int)]) fun z2 => some ((Prod.fst z2, Prod.snd z0.1), Prod.fst z2.2, Prod.snd z2.2) else if decide (Prod.fst z1 = (1 : Int)) = true then Option.bind (Zb k (Prod.fst p0, Prod.fst z1.2, Prod.snd z1.2) [(-1 : Int), (1 : Int), (2 : Int)]) fun z3 => some ((Prod.fst z0.1, Prod.fst z3), Prod.fst z3.2, Prod.snd z3.2) else some ((Prod.fst z0.1, Prod.snd z0.1), Prod.fst z1.2, Prod.snd z1.2)
noncomputable def Z1F : FnDef := .of Zfx Z50 ((Int × Int) × Int × Int) (fun k x => Z16 k x.1) ZeA Z9Q Zjr
noncomputable def Zan : Code := Try.f96.body.getD .skip
noncomputable def Z7B : Ctx (Tup Z50 × OutD) := { T := T, G := [(73, Z1q.E), (57, Zc.E), (60, Zv.E)], mvs := [], no := 2, n := 21, res := resOf T Zfx Z50 Try.f96.results.toList, loops := [], regs := [], conds := [], cuts := [] }
theorem Zol (k : Nat) : EnvOK Try.prog k Z7B.G := (EnvOK.cons (ZcI k) (EnvOK.cons (ZK k) (EnvOK.cons (Z4D k) (EnvOK.nil mixed))))
theorem Zp1 (k : Nat) (x : Tup Z1F.ps) : Z1F.f (k + 1) x = fnK Z1F Z7B Zan k x := by kernel_rfl
theorem Zof (x : Tup Z1F.ps) : Z1F.f 0 x = none := by kernel_rfl
theorem Zow (k : Nat) : LOK Try.prog Z7B k Zan := LOK.by [] (by kernel_rfl) AllOK.nil
theorem Zod (k : Nat) : SoundAt Try.prog k 96 Z1F.E := @Z4 Try.prog Z1F Z7B 96 Try.f96 Zan (by kernel_rfl) (by kernel_rfl) (by kernel_rfl) Try.func96 (by kernel_rfl) (by kernel_rfl) (by kernel_rfl) T_ok Zol Zow Zof Zp1 k
end
end Go.Proofs.Ytglkedenkcpcbaa.Vs

set_option maxRecDepth 100000
set_option maxHeartbeats 2000000
set_option linter.unusedVariables false
set_option linter.unusedSimpArgs false
namespace Go.Proofs.Ytglkedenkcpcbaa.Vs
open Go.RowKit
noncomputable section
noncomputable def Z6H : List PK := [PK.mk (Ty.int .i64) false none false none, PK.mk Ty.bool false none false none]
noncomputable def ZgM : List PK := [PK.mk (Ty.pair (Ty.int .i64) (Ty.pair (Ty.int .i64) (Ty.slice (71 : Nat) (Ty.pair (Ty.int .i64) (Ty.int .i64))))) true none false none]
noncomputable def ZfV (r : Int × Bool) : Tup Z6H × OutD := ((r.1, r.2, ()), none)
noncomputable def ZfS : Tup Z6H × OutD → Option (Int × Bool)
 | (a, none) => some (a.1, a.2.1)
 | _ => none
theorem ZlV : ∀ b r, ZfS b = some r → ZfV r = b := by
 rintro ⟨a, o⟩ r h
 cases o with
 | none => injection h with h; subst h; rfl
 | some _ => cases h
noncomputable def Z3g : Nat → Int × Int × List (Int × Int) → Option (Int × Bool)
 | 0, _ => none
 | k + 1, p0 =>
  Option.bind (Z7U k (Prod.fst p0, Prod.fst p0.2, Prod.snd p0.2)) fun z0 => if (!z0) = true then some ((0 : Int), false) else Option.bind (Z7i k (Prod.fst p0, Prod.fst p0.2, Prod.snd p0.2)) fun z1 => if decide ((↑(List.length z1) : Int) > (16 : Int)) = true then some ((0 : Int), false) else Option.bind (Z3R k z1) fun z2 => some (z2, true)
noncomputable def Z2j : FnDef := .of ZgM Z6H (Int × Bool) (fun k x => Z3g k x.1) ZfV ZfS ZlV
noncomputable def Zc5 : Code := Try.f18.body.getD .skip
noncomputable def Z8Z : Ctx (Tup Z6H × OutD) := { T := T, G := [(51, Z2D.E), (41, Z3u.E), (40, Z1G.E)], mvs := [], no := 0, n := 15, res := resOf T ZgM Z6H Try.f18.results.toList, loops := [], regs := [], conds := [], cuts := [] }
theorem Zse (k : Nat) : EnvOK Try.prog k Z8Z.G := (EnvOK.cons (Zga k) (EnvOK.cons (Zhj k) (EnvOK.cons (Zbn k) (EnvOK.nil mixed))))
theorem Zrr (k : Nat) (x : Tup Z2j.ps) : Z2j.f (k + 1) x = fnK Z2j Z8Z Zc5 k x := by kernel_rfl
theorem Zrj (x : Tup Z2j.ps) : Z2j.f 0 x = none := by kernel_rfl
theorem Zsp (k : Nat) : LOK Try.prog Z8Z k Zc5 := LOK.by [] (by kernel_rfl) AllOK.nil
theorem Zrc (k : Nat) : SoundAt Try.prog k 18 Z2j.E := @Z4 Try.prog Z2j Z8Z 18 Try.f18 Zc5 (by kernel_rfl) (by kernel_rfl) (by kernel_rfl) Try.func18 (by kernel_rfl) (by kernel_rfl) (by kernel_rfl) T_ok Zse Zsp Zrj Zrr k
noncomputable def Z7s : List PK := [PK.mk (Ty.pair (Ty.int .i64) (Ty.pair (Ty.int .i64) (Ty.slice (71 : Nat) (Ty.pair (Ty.int .i64) (Ty.int .i64))))) true none false none, PK.mk Ty.bool false none false none]
noncomputable def ZhU : List PK := [PK.mk (Ty.pair (Ty.int .i64) (Ty.pair (Ty.int .i64) (Ty.slice (71 : Nat) (Ty.pair (Ty.int .i64) (Ty.int .i64))))) true none false none, PK.mk (Ty.int .i64) false none false none]
noncomputable def ZgP (r : (Int × Int × List (Int × Int)) × Bool) : Tup Z7s × OutD := ((r.1, r.2, ()), none)
noncomputable def Zh0 : Tup Z7s × OutD → Option ((Int × Int × List (Int × Int)) × Bool)
 | (a, none) => some (a.1, a.2.1)
 | _ => none
theorem Zn8 : ∀ b r, Zh0 b = some r → ZgP r = b := by
 rintro ⟨a, o⟩ r h
 cases o with
 | none => injection h with h; subst h; rfl
 | some _ => cases h
noncomputable def Z5k : Nat → Int × Int × List (Int × Int) → Int → Option ((Int × Int × List (Int × Int)) × Bool)
 | 0, _, _ => none
 | k + 1, p0, p1 =>
  Option.bind (Z7q k (Prod.fst p0, Prod.fst p0.2, Prod.snd p0.2) p1) fun z0 => if (!z0) = true then some (((0 : Int), (0 : Int), []), false) else Option.bind (Z68 k (Prod.fst p0, Prod.fst p0.2, Prod.snd p0.2)) fun z1 => Option.bind (Z3X k (Prod.fst p0, Prod.fst p0.2, Prod.snd p0.2)) fun z2 => Option.bind (Zdp k (Prod.fst z1, Prod.fst z1.2, Prod.snd z1.2) z2 p1) fun z3 => some ((Prod.fst z1, Prod.fst z1.2, Prod.snd z3.2), true)
noncomputable def Z2V : FnDef := .of ZhU Z7s ((Int × Int × List (Int × Int)) × Bool) (fun k x => Z5k k x.1 x.2.1) ZgP Zh0 Zn8
noncomputable def ZcL : Code := Try.f21.body.getD .skip
noncomputable def Z9u : Ctx (Tup Z7s × OutD) := { T := T, G := [(53, Z23.E), (54, Z1P.E), (56, ZX.E), (55, Z6r.E)], mvs := [], no := 0, n := 20, res := resOf T ZhU Z7s Try.f21.results.toList, loops := [], regs := [], conds := [], cuts := [] }
theorem ZsI (k : Nat) : EnvOK Try.prog k Z9u.G := (EnvOK.cons (ZhG k) (EnvOK.cons (Ze7 k) (EnvOK.cons (Zbj k) (EnvOK.cons (ZuB k) (EnvOK.nil mixed)))))
theorem ZsQ (k : Nat) (x : Tup Z2V.ps) : Z2V.f (k + 1) x = fnK Z2V Z9u ZcL k x := by kernel_rfl
theorem Ztu (x : Tup Z2V.ps) : Z2V.f 0 x = none := by kernel_rfl
theorem Zth (k : Nat) : LOK Try.prog Z9u k ZcL := LOK.by [] (by kernel_rfl) AllOK.nil
theorem Zt2 (k : Nat) : SoundAt Try.prog k 21 Z2V.E := @Z4 Try.prog Z2V Z9u 21 Try.f21 ZcL (by kernel_rfl) (by kernel_rfl) (by kernel_rfl) Try.func21 (by kernel_rfl) (by kernel_rfl) (by kernel_rfl) T_ok ZsI Zth Ztu ZsQ k
noncomputable def Z7v : List PK := [PK.mk (Ty.pair (Ty.int .i64) (Ty.pair (Ty.int .i64) (Ty.slice (71 : Nat) (Ty.pair (Ty.int .i64) (Ty.int .i64))))) true none false none, PK.mk Ty.bool false none false none]
noncomputable def ZhN : List PK := [PK.mk (Ty.pair (Ty.int .i64) (Ty.pair (Ty.int .i64) (Ty.slice (71 : Nat) (Ty.pair (Ty.int .i64) (Ty.int .i64))))) true none false none, PK.mk (Ty.int .i64) false none false none]
noncomputable def ZgZ (r : (Int × Int × List (Int × Int)) × Bool) : Tup Z7v × OutD := ((r.1, r.2, ()), none)
noncomputable def Zh2 : Tup Z7v × OutD → Option ((Int × Int × List (Int × Int)) × Bool)
 | (a, none) => some (a.1, a.2.1)
 | _ => none
theorem Znd : ∀ b r, Zh2 b = some r → ZgZ r = b := by
 rintro ⟨a, o⟩ r h
 cases o with
 | none => injection h with h; subst h; rfl
 | some _ => cases h
noncomputable def Z5j : Nat → Int × Int × List (Int × Int) → Int → Option ((Int × Int × List (Int × Int)) × Bool)
 | 0, _, _ => none
 | k + 1, p0, p1 =>
  Option.bind (Z9P k (Prod.fst p0, Prod.fst p0.2, Prod.snd p0.2) p1) fun z0 => if (!z0) = true then some (((0 : Int), (0 : Int), []), false) else Option.bind (Z9N k (Prod.fst p0, Prod.fst p0.2, Prod.snd p0.2) p1) fun z1 => some ((Prod.fst z1.2, Prod.fst z1.2.2, Prod.snd z1.2.2), true)
noncomputable def Z2W : FnDef := .of ZhN Z7v ((Int × Int × List (Int × Int)) × Bool) (fun k x => Z5j k x.1 x.2.1) ZgZ Zh2 Znd
noncomputable def ZcH : Code := Try.f33.body.getD .skip
noncomputable def Z9t : Ctx (Tup Z7v × OutD) := { T := T, G := [(70, Z44.E), (71, Z43.E)], mvs := [], no := 0, n := 20, res := resOf T ZhN Z7v Try.f33.results.toList, loops := [], regs := [], conds := [], cuts := [] }
theorem Zud (k : Nat) : EnvOK Try.prog k Z9t.G := (EnvOK.cons (Zkg k) (EnvOK.cons (Zje k) (EnvOK.nil mixed)))
theorem Zuc (k : Nat) (x : Tup Z2W.ps) : Z2W.f (k + 1) x = fnK Z2W Z9t ZcH k x := by kernel_rfl
theorem ZtC (x : Tup Z2W.ps) : Z2W.f 0 x = none := by kernel_rfl
theorem Ztz (k : Nat) : LOK Try.prog Z9t k ZcH := LOK.by [] (by kernel_rfl) AllOK.nil
theorem Ztw (k : Nat) : SoundAt Try.prog k 33 Z2W.E := @Z4 Try.prog Z2W Z9t 33 Try.f33 ZcH (by kernel_rfl) (by kernel_rfl) (by kernel_rfl) Try.func33 (by kernel_rfl) (by kernel_rfl) (by kernel_rfl) T_ok Zud Ztz ZtC Zuc k
noncomputable def Z92 : List PK := [PK.mk Ty.bool false none false none]
noncomputable def ZkQ : List PK := [PK.mk (Ty.pair (Ty.int .i64) (Ty.pair (Ty.int .i64) (Ty.slice (71 : Nat) (Ty.pair (Ty.int .i64) (Ty.int .i64))))) true none false none, PK.mk (Ty.int .i64) false none false none]
noncomputable def Zjs (r : Bool) : Tup Z92 × OutD := ((r, ()), none)
noncomputable def ZjW : Tup Z92 × OutD → Option (Bool)
 | (a, none) => some (a.1)
 | _ => none
theorem Zqx : ∀ b r, ZjW b = some r → Zjs r = b := by
 rintro ⟨a, o⟩ r h
 cases o with
 | none => injection h with h; subst h; rfl
 | some _ => cases h
noncomputable def Z4S : Nat → Int × Int × List (Int × Int) → Int → Option Bool
 | 0, _, _ => none
 | k + 1, p0, p1 =>
  Option.bind (Z7q k (Prod.fst p0, Prod.fst p0.2, Prod.snd p0.2) p1) fun z0 => if z0 = true then Option.bind (Z4i k (Prod.fst p0, Prod.fst p0.2, Prod.snd p0.2)) fun z1 => some (decide ((↑(List.length z1) : Int) ≤ (10 : Int))) else some false
noncomputable def Z1C : FnDef := .of ZkQ Z92 (Bool) (fun k x => Z4S k x.1 x.2.1) Zjs ZjW Zqx
noncomputable def Zfu : Code := Try.f39.body.getD .skip
noncomputable def Zbu : Ctx (Tup Z92 × OutD) := { T := T, G := [(53, Z23.E), (63, Z1A.E)], mvs := [], no := 0, n := 14, res := resOf T ZkQ Z92 Try.f39.results.toList, loops := [], regs := [], conds := [], cuts := [] }
theorem Zx2 (k : Nat) : EnvOK Try.prog k Zbu.G := (EnvOK.cons (ZhG k) (EnvOK.cons (Za3 k) (EnvOK.nil mixed)))
theorem ZwG (k : Nat) (x : Tup Z1C.ps) : Z1C.f (k + 1) x = fnK Z1C Zbu Zfu k x := by kernel_rfl
theorem ZwO (x : Tup Z1C.ps) : Z1C.f 0 x = none := by kernel_rfl
theorem ZwV (k : Nat) : LOK Try.prog Zbu k Zfu := LOK.by [] (by kernel_rfl) AllOK.nil
theorem Zbw (k : Nat) : SoundAt Try.prog k 39 Z1C.E := @Z4 Try.prog Z1C Zbu 39 Try.f39 Zfu (by kernel_rfl) (by kernel_rfl) (by kernel_rfl) Try.func39 (by kernel_rfl) (by kernel_rfl) (by kernel_rfl) T_ok Zx2 ZwV ZwO ZwG k
noncomputable def ZbJ : List PK := [PK.mk Ty.bool false none false none]
noncomputable def ZrL : List PK := [PK.mk (Ty.pair (Ty.int .i64) (Ty.pair (Ty.int .i64) (Ty.slice (71 : Nat) (Ty.pair (Ty.int .i64) (Ty.int .i64))))) true none false none, PK.mk (Ty.int .i64) false none false none]
noncomputable def ZpX (r : Bool) : Tup ZbJ × OutD := ((r, ()), none)
noncomputable def Zp5 : Tup ZbJ × OutD → Option (Bool)
 | (a, none) => some (a.1)
 | _ => none
theorem Zvw : ∀ b r, Zp5 b = some r → ZpX r = b := by
 rintro ⟨a, o⟩ r h
 cases o with
 | none => injection h with h; subst h; rfl
 | some _ => cases h
noncomputable def Z88 : Nat → Int × Int × List (Int × Int) → Int → Option Bool
 | 0, _, _ => none
 | k + 1, p0, p1 =>
  Option.bind (Z9P k (Prod.fst p0, Prod.fst p0.2, Prod.snd p0.2) p1) fun z0 => if z0 = true then Option.bind (Z2z k (Prod.fst p0, Prod.fst p0.2, Prod.snd p0.2)) fun z1 => some (decide ((↑(List.length z1) : Int) ≤ (10 : Int))) else some false
noncomputable def Z3i : FnDef := .of ZrL ZbJ (Bool) (fun k x => Z88 k x.1 x.2.1) ZpX Zp5 Zvw
noncomputable def Zji : Code := Try.f44.body.getD .skip
noncomputable def Zf8 : Ctx (Tup ZbJ × OutD) := { T := T, G := [(70, Z44.E), (81, ZV.E)], mvs := [], no := 0, n := 14, res := resOf T ZrL ZbJ Try.f44.results.toList, loops := [], regs := [], conds := [], cuts := [] }
theorem ZAz (k : Nat) : EnvOK Try.prog k Zf8.G := (EnvOK.cons (Zkg k) (EnvOK.cons (Z5Z k) (EnvOK.nil mixed)))
theorem ZAn (k : Nat) (x : Tup Z3i.ps) : Z3i.f (k + 1) x = fnK Z3i Zf8 Zji k x := by kernel_rfl
theorem ZAo (x : Tup Z3i.ps) : Z3i.f 0 x = none := by kernel_rfl
theorem ZAG (k : Nat) : LOK Try.prog Zf8 k Zji := LOK.by [] (by kernel_rfl) AllOK.nil
theorem ZeX (k : Nat) : SoundAt Try.prog k 44 Z3i.E := @Z4 Try.prog Z3i Zf8 44 Try.f44 Zji (by kernel_rfl) (by kernel_rfl) (by kernel_rfl) Try.func44 (by kernel_rfl) (by kernel_rfl) (by kernel_rfl) T_ok ZAz ZAG ZAo ZAn k
noncomputable def Z7b : List PK := [PK.mk (Ty.int .i64) false none false none]
noncomputable def Zlp : List PK := [PK.mk (Ty.pair (Ty.int .i64) (Ty.pair (Ty.int .i64) (Ty.slice (71 : Nat) (Ty.pair (Ty.int .i64) (Ty.int .i64))))) true none false none]
noncomputable def Zjk (r : Int) : Tup Z7b × OutD := ((r, ()), none)
noncomputable def ZjQ : Tup Z7b × OutD → Option (Int)
 | (a, none) => some (a.1)
 | _ => none
theorem Zqj : ∀ b r, ZjQ b = some r → Zjk r = b := by
 rintro ⟨a, o⟩ r h
 cases o with
 | none => injection h with h; subst h; rfl
 | some _ => cases h
noncomputable def Z5g : Nat → List Int → Int → Int → Int → Option Int
 | 0, _, _, _, _ => none
 | k + 1, o1, v3, v8, v9 =>
  if decide (v9 < v8) = true then if (0 : Int) ≤ v9 then if v9 < (↑(List.length o1) : Int) then if IntKind.wrap IntKind.u64 v9 < (0 : Int) then none else Z5g k o1 (wrap64 (v3 + shlS (List.getD o1 (Int.toNat v9) (0 : Int)) (IntKind.wrap IntKind.u64 v9))) v8 (wrap64 (v9 + (1 : Int))) else none else none else some v3
noncomputable def ZbX : Spec := Spec.mk [OSh.ro, OSh.row true (3 : Nat) (Ty.int .i64)] [((3 : Nat), TSh.at (Sh.int .i64)), ((7 : Nat), TSh.at (Sh.sl (1 : Nat))), ((8 : Nat), TSh.at (Sh.int .i64)), ((9 : Nat), TSh.at (Sh.int .i64))]
noncomputable def ZqN : Spec := Spec.mk [OSh.ro] [((3 : Nat), TSh.at (Sh.int .i64))]
noncomputable def Z4n : LoopDef (Tup Z7b × OutD) := .plain ZbX ZqN (Int) (fun k x => Z5g k x.1.2.1 x.2.1 x.2.2.2.1 x.2.2.2.2.1) (fun z => (((), ()), (z, ()))) (fun y => (y.2.1)) (fun _ => rfl)
noncomputable def Z3P : Nat → Int × Int × List (Int × Int) → Option Int
 | 0, _ => none
 | k + 1, p0 =>
  Option.bind (ZdN k (Prod.fst p0, Prod.fst p0.2, Prod.snd p0.2)) fun z0 => Option.bind (Z5g k z0 (0 : Int) (↑(List.length z0) : Int) (0 : Int)) fun z1 => some z1
noncomputable def Z1J : FnDef := .of Zlp Z7b (Int) (fun k x => Z3P k x.1) Zjk ZjQ Zqj
noncomputable def Zbp : Code := Try.f47.body.getD .skip
noncomputable def Z4Q : Ctx (Tup Z7b × OutD) := { T := T, G := [(83, Z5q.E)], mvs := [], no := 0, n := 22, res := resOf T Zlp Z7b Try.f47.results.toList, loops := [(0, Z4n.E)], regs := [], conds := [], cuts := [] }
theorem ZkW (k : Nat) : EnvOK Try.prog k Z4Q.G := (EnvOK.cons (Zzo k) (EnvOK.nil mixed))
noncomputable def Z8O : Code := (findLoop 0 Zbp).getD .skip
theorem Zsf (k : Nat) (x : ZbX.D) : Z4n.lp (k + 1) x = loopK Z4Q Z4n 0 Z8O k x := by kernel_rfl
theorem Zr6 (k : Nat) : LOK Try.prog Z4Q k Z8O := LOK.by [] (by kernel_rfl) AllOK.nil
theorem Zr3 (x : ZbX.D) : Z4n.lp 0 x = none := by kernel_rfl
theorem Zq2 (k : Nat) : EOK Try.prog Z4Q k Z4n.E (.block 0 (.loop Z8O)) := Z8 T_ok ZkW Zr3 Zsf Zr6 k
theorem ZwJ (k : Nat) (x : Tup Z1J.ps) : Z1J.f (k + 1) x = fnK Z1J Z4Q Zbp k x := by kernel_rfl
theorem ZxJ (x : Tup Z1J.ps) : Z1J.f 0 x = none := by kernel_rfl
theorem Zxp (k : Nat) : LOK Try.prog Z4Q k Zbp := LOK.by [(Z4n.E, .block 0 (.loop Z8O))] (by kernel_rfl) (AllOK.cons (Zq2 k) AllOK.nil)
theorem ZbA (k : Nat) : SoundAt Try.prog k 47 Z1J.E := @Z4 Try.prog Z1J Z4Q 47 Try.f47 Zbp (by kernel_rfl) (by kernel_rfl) (by kernel_rfl) Try.func47 (by kernel_rfl) (by kernel_rfl) (by kernel_rfl) T_ok ZkW Zxp ZxJ ZwJ k
noncomputable def Zbc : List PK := [PK.mk (Ty.pair (Ty.int .i64) (Ty.pair (Ty.int .i64) (Ty.slice (71 : Nat) (Ty.pair (Ty.int .i64) (Ty.int .i64))))) true none false none]
noncomputable def ZuH : List PK := [PK.mk (Ty.pair (Ty.int .i64) (Ty.pair (Ty.int .i64) (Ty.slice (71 : Nat) (Ty.pair (Ty.int .i64) (Ty.int .i64))))) true none false none, PK.mk (Ty.int .i64) false none false none]
noncomputable def Zsl (r : Int × Int × List (Int × Int)) : Tup Zbc × OutD := ((r, ()), none)
noncomputable def Zsx : Tup Zbc × OutD → Option (Int × Int × List (Int × Int))
 | (a, none) => some (a.1)
 | _ => none
theorem Zxq : ∀ b r, Zsx b = some r → Zsl r = b := by
 rintro ⟨a, o⟩ r h
 cases o with
 | none => injection h with h; subst h; rfl
 | some _ => cases h
noncomputable def Z8B : Nat → Int → Int → List (Int × Int) → Int → Int → List (Int × Int) → List Int → Int → Int → Int → Option (Int × Int × List (Int × Int) × Int × Int × List (Int × Int) × List Int)
 | 0, _, _, _, _, _, _, _, _, _, _ => none
 | k + 1, b1_0, b1_1, b1_2, b2_0, b2_1, o3, o4, v1, v9, v10 =>
  if decide (v10 < v9) = true then if IntKind.wrap IntKind.u64 v10 < (0 : Int) then none else if List.length o4 + List.length [bits BinOp.and IntKind.i64 (Int.fdiv v1 ((2 : Int) ^ min (Int.toNat (IntKind.wrap IntKind.u64 v10)) (IntKind.bits IntKind.i64))) (1 : Int)] ≤ (140737488355328 / 8 : Nat) then Z8B k b1_0 b1_1 b1_2 b2_0 b2_1 o3 (o4 ++ [bits BinOp.and IntKind.i64 (Int.fdiv v1 ((2 : Int) ^ min (Int.toNat (IntKind.wrap IntKind.u64 v10)) (IntKind.bits IntKind.i64))) (1 : Int)]) v1 v9 (wrap64 (v10 + (1 : Int))) else none else some (b1_0, b1_1, b1_2, b2_0, b2_1, o3, o4)
noncomputable def Zgk : Spec := Spec.mk [OSh.ro, OSh.box (26 : Nat) [Sh.int .i64, Sh.int .i64, Sh.snap (0 : Nat) (Ty.pair (Ty.int .i64) (Ty.int .i64))], OSh.box (26 : Nat) [Sh.int .i64, Sh.int .i64, Sh.sl (3 : Nat)], OSh.row true (71 : Nat) (Ty.pair (Ty.int .i64) (Ty.int .i64)), OSh.row true (3 : Nat) (Ty.int .i64)] [((1 : Nat), TSh.at (Sh.int .i64)), ((2 : Nat), TSh.at (Sh.ptr (1 : Nat) (0 : Nat))), ((4 : Nat), TSh.at (Sh.ptr (2 : Nat) (0 : Nat))), ((5 : Nat), TSh.at (Sh.sl (4 : Nat))), ((9 : Nat), TSh.at (Sh.int .i64)), ((10 : Nat), TSh.at (Sh.int .i64))]
noncomputable def Zye : Spec := Spec.mk [OSh.ro, OSh.box (26 : Nat) [Sh.int .i64, Sh.int .i64, Sh.snap (0 : Nat) (Ty.pair (Ty.int .i64) (Ty.int .i64))], OSh.box (26 : Nat) [Sh.int .i64, Sh.int .i64, Sh.sl (3 : Nat)], OSh.row true (71 : Nat) (Ty.pair (Ty.int .i64) (Ty.int .i64)), OSh.row true (3 : Nat) (Ty.int .i64)] [((2 : Nat), TSh.at (Sh.ptr (1 : Nat) (0 : Nat))), ((4 : Nat), TSh.at (Sh.ptr (2 : Nat) (0 : Nat))), ((5 : Nat), TSh.at (Sh.sl (4 : Nat)))]
noncomputable def Z7T : LoopDef (Tup Zbc × OutD) := .plain Zgk Zye (Int × Int × List (Int × Int) × Int × Int × List (Int × Int) × List Int) (fun k x => Z8B k x.1.2.1.1 x.1.2.1.2.1 x.1.2.1.2.2.1 x.1.2.2.1.1 x.1.2.2.1.2.1 x.1.2.2.2.1 x.1.2.2.2.2.1 x.2.1 x.2.2.2.2.2.1 x.2.2.2.2.2.2.1) (fun z => (((), (z.1, z.2.1, z.2.2.1, ()), (z.2.2.2.1, z.2.2.2.2.1, (), ()), z.2.2.2.2.2.1, z.2.2.2.2.2.2, ()), ((), (), (), ()))) (fun y => (y.1.2.1.1, y.1.2.1.2.1, y.1.2.1.2.2.1, y.1.2.2.1.1, y.1.2.2.1.2.1, y.1.2.2.2.1, y.1.2.2.2.2.1)) (fun _ => rfl)
noncomputable def Zgm : Nat → Int × Int × List (Int × Int) → Int → Option (Int × Int × List (Int × Int))
 | 0, _, _ => none
 | k + 1, p0, p1 =>
  Option.bind (Z2z k (Prod.fst p0, Prod.fst p0.2, Prod.snd p0.2)) fun z0 => Option.bind (Z8B k p0.1 p0.2.1 p0.2.2 (0 : Int) (0 : Int) [] [] p1 (↑(List.length z0) : Int) (0 : Int)) fun z1 => Option.bind (ZdQ k (Prod.fst z1, Prod.fst z1.2, Prod.fst z1.2.2) z1.2.2.2.2.2.2) fun z2 => some (Prod.fst z2, Prod.fst z2.2, Prod.snd z2.2)
noncomputable def Z7P : FnDef := .of ZuH Zbc (Int × Int × List (Int × Int)) (fun k x => Zgm k x.1 x.2.1) Zsl Zsx Zxq
noncomputable def Zgs : Code := Try.f48.body.getD .skip
noncomputable def Z9k : Ctx (Tup Zbc × OutD) := { T := T, G := [(81, ZV.E), (84, Z5r.E)], mvs := [], no := 0, n := 25, res := resOf T ZuH Zbc Try.f48.results.toList, loops := [(0, Z7T.E)], regs := [], conds := [], cuts := [] }
theorem Zuw (k : Nat) : EnvOK Try.prog k Z9k.G := (EnvOK.cons (Z5Z k) (EnvOK.cons (ZA5 k) (EnvOK.nil mixed)))
noncomputable def Zcp : Code := (findLoop 0 Zgs).getD .skip
theorem Zyg (k : Nat) (x : Zgk.D) : Z7T.lp (k + 1) x = loopK Z9k Z7T 0 Zcp k x := by kernel_rfl
theorem ZxU (k : Nat) : LOK Try.prog Z9k k Zcp := LOK.by [] (by kernel_rfl) AllOK.nil
theorem Zyk (x : Zgk.D) : Z7T.lp 0 x = none := by kernel_rfl
theorem ZwZ (k : Nat) : EOK Try.prog Z9k k Z7T.E (.block 0 (.loop Zcp)) := Z8 T_ok Zuw Zyk Zyg ZxU k
theorem ZBR (k : Nat) (x : Tup Z7P.ps) : Z7P.f (k + 1) x = fnK Z7P Z9k Zgs k x := by kernel_rfl
theorem ZBW (x : Tup Z7P.ps) : Z7P.f 0 x = none := by kernel_rfl
theorem ZB6 (k : Nat) : LOK Try.prog Z9k k Zgs := LOK.by [(Z7T.E, .block 0 (.loop Zcp))] (by kernel_rfl) (AllOK.cons (ZwZ k) AllOK.nil)
theorem ZBg (k : Nat) : SoundAt Try.prog k 48 Z7P.E := @Z4 Try.prog Z7P Z9k 48 Try.f48 Zgs (by kernel_rfl) (by kernel_rfl) (by kernel_rfl) Try.func48 (by kernel_rfl) (by kernel_rfl) (by kernel_rfl) T_ok Zuw ZB6 ZBW ZBR k
noncomputable def Z6y : List PK := [PK.mk (Ty.pair (Ty.int .i64) (Ty.pair (Ty.int .i64) (Ty.slice (71 : Nat) (Ty.pair (Ty.int .i64) (Ty.int .i64))))) true none false none]
noncomputable def Zh5 : List PK := [PK.mk (Ty.pair (Ty.slice (5 : Nat) (Ty.int .u8)) (Ty.pair (Ty.int .i64) (Ty.int .u64))) false none false (some (58 : Nat))]
noncomputable def ZfU (r : (Int × Int × List (Int × Int)) × Int × Int) : Tup Z6y × OutD := ((r.1, ()), some ⟨Ty.pair (Ty.slice (5 : Nat) (Ty.int .u8)) (Ty.pair (Ty.int .i64) (Ty.int .u64)), [([], r.2)]⟩)
noncomputable def Zbl : Tup Z6y × OutD → Option ((Int × Int × List (Int × Int)) × Int × Int)
 | (a, some ⟨u, ys⟩) => if h : u = Ty.pair (Ty.slice (5 : Nat) (Ty.int .u8)) (Ty.pair (Ty.int .i64) (Ty.int .u64)) then (match castU h ys with
  | [([], y)] => some (a.1, y)
  | _ => none) else none
 | _ => none
theorem ZmA : ∀ b r, Zbl b = some r → ZfU r = b := by
 rintro ⟨a, o⟩ r h
 cases o with
 | none => cases h
 | some s =>
  obtain ⟨u, ys⟩ := s
  simp only [Zbl] at h
  split at h
  ·rename_i hu
   subst hu
   match ys, h with
   | [], h => cases (show (none : Option _) = some r from h)
   | [([], y)], h => injection (show some _ = some r from h) with h; subst h; rfl
   | [(_ :: _, y)], h => cases (show (none : Option _) = some r from h)
   | (h1, _) :: _ :: _, h => cases h1 <;> cases (show (none : Option _) = some r from h)
  ·cases h
noncomputable def Z6B : Nat → List Int × Int × Int → Option ((Int × Int × List (Int × Int)) × Int × Int)
 | 0, _ => none
 | k + 1, p0 =>
  Option.bind (Zm k (Prod.fst p0, Prod.fst p0.2, Prod.snd p0.2) (20 : Int)) fun z0 => if Prod.fst z0 = true then Option.bind (Zb k (Prod.fst p0, Prod.fst z0.2, Prod.snd z0.2) [(1 : Int), (10 : Int)]) fun z1 => Option.bind (Zb k (Prod.fst p0, Prod.fst z1.2, Prod.snd z1.2) [(1 : Int), (9 : Int)]) fun z2 => Option.bind (Z2w k (Prod.fst p0, Prod.fst z2.2, Prod.snd z2.2) z1.1 z2.1) fun z3 => some ((Prod.fst z3.1, Prod.fst z3.1.2, Prod.snd z3.1.2), Prod.fst z3.2, Prod.snd z3.2) else Option.bind (Z0 k (Prod.fst p0, Prod.fst z0.2, Prod.snd z0.2) (5 : Int)) fun z4 => Option.bind (Z0 k (Prod.fst p0, Prod.fst z4.2, Prod.snd z4.2) (5 : Int)) fun z5 => Option.bind (Z2w k (Prod.fst p0, Prod.fst z5.2, Prod.snd z5.2) (wrap64 ((1 : Int) + Prod.fst z4)) (wrap64 ((1 : Int) + Prod.fst z5))) fun z6 => some ((Prod.fst z6.1, Prod.fst z6.1.2, Prod.snd z6.1.2), Prod.fst z6.2, Prod.snd z6.2)
noncomputable def Z2i : FnDef := .of Zh5 Z6y ((Int × Int × List (Int × Int)) × Int × Int) (fun k x => Z6B k x.1) ZfU Zbl ZmA
noncomputable def ZbW : Code := Try.f95.body.getD .skip
noncomputable def Z8H : Ctx (Tup Z6y × OutD) := { T := T, G := [(58, ZJ.E), (60, Zv.E), (78, Z15.E), (57, Zc.E)], mvs := [], no := 2, n := 21, res := resOf T Zh5 Z6y Try.f95.results.toList, loops := [], regs := [], conds := [], cuts := [] }
theorem ZrA (k : Nat) : EnvOK Try.prog k Z8H.G := (EnvOK.cons (Z5I k) (EnvOK.cons (Z4D k) (EnvOK.cons (Zff k) (EnvOK.cons (ZK k) (EnvOK.nil mixed)))))
theorem ZrG (k : Nat) (x : Tup Z2i.ps) : Z2i.f (k + 1) x = fnK Z2i Z8H ZbW k x := by kernel_rfl
theorem Zr0 (x : Tup Z2i.ps) : Z2i.f 0 x = none := by kernel_rfl
theorem Zsr (k : Nat) : LOK Try.prog Z8H k ZbW := LOK.by [] (by kernel_rfl) AllOK.nil
theorem Zre (k : Nat) : SoundAt Try.prog k 95 Z2i.E := @Z4 Try.prog Z2i Z8H 95 Try.f95 ZbW (by kernel_rfl) (by kernel_rfl) (by kernel_rfl) Try.func95 (by kernel_rfl) (by kernel_rfl) (by kernel_rfl) T_ok ZrA Zsr Zr0 ZrG k
end
end Go.Proofs.Ytglkedenkcpcbaa.Vs

set_option maxRecDepth 100000
set_option maxHeartbeats 2000000
set_option linter.unusedVariables false
set_option linter.unusedSimpArgs false
namespace Go.Proofs.Ytglkedenkcpcbaa.Vs
open Go.RowKit
noncomputable section
noncomputable def Z6z : List PK := [PK.mk (Ty.int .i64) false none false none, PK.mk Ty.bool false none false none]
noncomputable def Zhd : List PK := [PK.mk (Ty.pair (Ty.int .i64) (Ty.pair (Ty.int .i64) (Ty.slice (71 : Nat) (Ty.pair (Ty.int .i64) (Ty.int .i64))))) true none false none]
noncomputable def ZfR (r : Int × Bool) : Tup Z6z × OutD := ((r.1, r.2, ()), none)
noncomputable def ZfO : Tup Z6z × OutD → Option (Int × Bool)
 | (a, none) => some (a.1, a.2.1)
 | _ => none
theorem ZlE : ∀ b r, ZfO b = some r → ZfR r = b := by
 rintro ⟨a, o⟩ r h
 cases o with
 | none => injection h with h; subst h; rfl
 | some _ => cases h
noncomputable def Z6A : Nat → Int × Int × List (Int × Int) → Option (Int × Bool)
 | 0, _ => none
 | k + 1, p0 =>
  Option.bind (Zcl k (Prod.fst p0, Prod.fst p0.2, Prod.snd p0.2)) fun z0 => if (!z0) = true then some ((0 : Int), false) else Option.bind (Z3P k (Prod.fst p0, Prod.fst p0.2, Prod.snd p0.2)) fun z1 => some (z1, true)
noncomputable def Z2k : FnDef := .of Zhd Z6z (Int × Bool) (fun k x => Z6A k x.1) ZfR ZfO ZlE
noncomputable def Zc6 : Code := Try.f19.body.getD .skip
noncomputable def Z8N : Ctx (Tup Z6z × OutD) := { T := T, G := [(52, Z4q.E), (47, Z1J.E)], mvs := [], no := 0, n := 9, res := resOf T Zhd Z6z Try.f19.results.toList, loops := [], regs := [], conds := [], cuts := [] }
theorem Zr1 (k : Nat) : EnvOK Try.prog k Z8N.G := (EnvOK.cons (Zyc k) (EnvOK.cons (ZbA k) (EnvOK.nil mixed)))
theorem Zsi (k : Nat) (x : Tup Z2k.ps) : Z2k.f (k + 1) x = fnK Z2k Z8N Zc6 k x := by kernel_rfl
theorem ZrP (x : Tup Z2k.ps) : Z2k.f 0 x = none := by kernel_rfl
theorem Zsg (k : Nat) : LOK Try.prog Z8N k Zc6 := LOK.by [] (by kernel_rfl) AllOK.nil
theorem Zro (k : Nat) : SoundAt Try.prog k 19 Z2k.E := @Z4 Try.prog Z2k Z8N 19 Try.f19 Zc6 (by kernel_rfl) (by kernel_rfl) (by kernel_rfl) Try.func19 (by kernel_rfl) (by kernel_rfl) (by kernel_rfl) T_ok Zr1 Zsg ZrP Zsi k
noncomputable def Z83 : List PK := [PK.mk (Ty.int .i64) false none false none, PK.mk Ty.bool false none false none]
noncomputable def Zja : List PK := [PK.mk (Ty.pair (Ty.int .i64) (Ty.pair (Ty.int .i64) (Ty.slice (71 : Nat) (Ty.pair (Ty.int .i64) (Ty.int .i64))))) true none false none, PK.mk (Ty.int .i64) false none false none]
noncomputable def Zi6 (r : Int × Bool) : Tup Z83 × OutD := ((r.1, r.2, ()), none)
noncomputable def ZhT : Tup Z83 × OutD → Option (Int × Bool)
 | (a, none) => some (a.1, a.2.1)
 | _ => none
theorem ZoH : ∀ b r, ZhT b = some r → Zi6 r = b := by
 rintro ⟨a, o⟩ r h
 cases o with
 | none => injection h with h; subst h; rfl
 | some _ => cases h
noncomputable def ZaF : Nat → Int × Int × List (Int × Int) → Int → Option (Int × Bool)
 | 0, _, _ => none
 | k + 1, p0, p1 =>
  Option.bind (Z4S k (Prod.fst p0, Prod.fst p0.2, Prod.snd p0.2) p1) fun z0 => if (!z0) = true then some ((0 : Int), false) else Option.bind (Z7i k (Prod.fst p0, Prod.fst p0.2, Prod.snd p0.2)) fun z1 => Option.bind (Z3R k z1) fun z2 => Option.bind (Z2Z k (Prod.fst p0, Prod.fst p0.2, Prod.snd p0.2) [p1]) fun z3 => if (0 : Int) < (↑(List.length z3) : Int) then Option.bind (Z5L k (List.getD z3 (Int.toNat (0 : Int)) []) z2 z2) fun z4 => some (Prod.fst z4, Prod.snd z4) else none
noncomputable def Z3q : FnDef := .of Zja Z83 (Int × Bool) (fun k x => ZaF k x.1 x.2.1) Zi6 ZhT ZoH
noncomputable def ZdV : Code := Try.f29.body.getD .skip
noncomputable def ZaP : Ctx (Tup Z83 × OutD) := { T := T, G := [(39, Z1C.E), (41, Z3u.E), (40, Z1G.E), (42, ZH.E), (68, Z1N.E)], mvs := [], no := 0, n := 30, res := resOf T Zja Z83 Try.f29.results.toList, loops := [], regs := [], conds := [], cuts := [] }
theorem Zvf (k : Nat) : EnvOK Try.prog k ZaP.G := (EnvOK.cons (Zbw k) (EnvOK.cons (Zhj k) (EnvOK.cons (Zbn k) (EnvOK.cons (Z8k k) (EnvOK.cons (Zeb k) (EnvOK.nil mixed))))))
theorem Zv2 (k : Nat) (x : Tup Z3q.ps) : Z3q.f (k + 1) x = fnK Z3q ZaP ZdV k x := by kernel_rfl
theorem Zw1 (x : Tup Z3q.ps) : Z3q.f 0 x = none := by kernel_rfl
theorem ZvI (k : Nat) : LOK Try.prog ZaP k ZdV := LOK.by [] (by kernel_rfl) AllOK.nil
theorem Zv5 (k : Nat) : SoundAt Try.prog k 29 Z3q.E := @Z4 Try.prog Z3q ZaP 29 Try.f29 ZdV (by kernel_rfl) (by kernel_rfl) (by kernel_rfl) Try.func29 (by kernel_rfl) (by kernel_rfl) (by kernel_rfl) T_ok Zvf ZvI Zw1 Zv2 k
noncomputable def Z37 : List PK := [PK.mk (Ty.slice (3 : Nat) (Ty.int .i64)) false none false none, PK.mk Ty.bool false none false none]
noncomputable def Zep : List PK := [PK.mk (Ty.pair (Ty.int .i64) (Ty.pair (Ty.int .i64) (Ty.slice (71 : Nat) (Ty.pair (Ty.int .i64) (Ty.int .i64))))) true none false none, PK.mk (Ty.int .i64) false none false none]
noncomputable def Zdo (r : List Int × Bool) : Tup Z37 × OutD := ((r.1, r.2, ()), none)
noncomputable def Zdg : Tup Z37 × OutD → Option (List Int × Bool)
 | (a, none) => some (a.1, a.2.1)
 | _ => none
theorem Zif : ∀ b r, Zdg b = some r → Zdo r = b := by
 rintro ⟨a, o⟩ r h
 cases o with
 | none => injection h with h; subst h; rfl
 | some _ => cases h
noncomputable def Z1r : Nat → List (List Int) → List Int → Int → Int → Int → Option (List Int)
 | 0, _, _, _, _, _ => none
 | k + 1, o1, o2, v6, v23, v24 =>
  if decide (v24 < v23) = true then Option.bind (Z5L k (List.getD o1 (Int.toNat v6) []) v24 v24) fun z2 => if Prod.snd z2 = true then if List.length o2 + List.length [v24] ≤ (140737488355328 / 8 : Nat) then Z1r k o1 (o2 ++ [v24]) v6 v23 (wrap64 (v24 + (1 : Int))) else none else Z1r k o1 o2 v6 v23 (wrap64 (v24 + (1 : Int))) else some o2
noncomputable def Z89 : Spec := Spec.mk [OSh.ro, OSh.row true (36 : Nat) (Ty.slice (3 : Nat) (Ty.int .i64)), OSh.row true (3 : Nat) (Ty.int .i64)] [((6 : Nat), TSh.at (Sh.inn (1 : Nat))), ((7 : Nat), TSh.at (Sh.sl (2 : Nat))), ((23 : Nat), TSh.at (Sh.int .i64)), ((24 : Nat), TSh.at (Sh.int .i64))]
noncomputable def Zjh : Spec := Spec.mk [OSh.ro, OSh.row true (3 : Nat) (Ty.int .i64)] [((7 : Nat), TSh.at (Sh.sl (1 : Nat)))]
noncomputable def Z2a : LoopDef (Tup Z37 × OutD) := .plain Z89 Zjh (List Int) (fun k x => Z1r k x.1.2.1 x.1.2.2.1 x.2.1 x.2.2.2.1 x.2.2.2.2.1) (fun z => (((), z, ()), ((), ()))) (fun y => (y.1.2.1)) (fun _ => rfl)
noncomputable def Z6S : Nat → Int × Int × List (Int × Int) → Int → Option (List Int × Bool)
 | 0, _, _ => none
 | k + 1, p0, p1 =>
  Option.bind (Z4S k (Prod.fst p0, Prod.fst p0.2, Prod.snd p0.2) p1) fun z0 => if (!z0) = true then some ([], false) else Option.bind (Z2Z k (Prod.fst p0, Prod.fst p0.2, Prod.snd p0.2) [p1]) fun z1 => if (0 : Int) < (↑(List.length z1) : Int) then Option.bind (Z1r k z1 [] (0 : Int) (↑(List.length (List.getD z1 (Int.toNat (0 : Int)) [])) : Int) (0 : Int)) fun z3 => some (z3, true) else none
noncomputable def Z1k : FnDef := .of Zep Z37 (List Int × Bool) (fun k x => Z6S k x.1 x.2.1) Zdo Zdg Zif
noncomputable def Z76 : Code := Try.f31.body.getD .skip
noncomputable def Z29 : Ctx (Tup Z37 × OutD) := { T := T, G := [(39, Z1C.E), (42, ZH.E), (68, Z1N.E)], mvs := [], no := 0, n := 41, res := resOf T Zep Z37 Try.f31.results.toList, loops := [(0, Z2a.E)], regs := [], conds := [], cuts := [] }
theorem Zel (k : Nat) : EnvOK Try.prog k Z29.G := (EnvOK.cons (Zbw k) (EnvOK.cons (Z8k k) (EnvOK.cons (Zeb k) (EnvOK.nil mixed))))
noncomputable def Z4W : Code := (findLoop 0 Z76).getD .skip
theorem Zjo (k : Nat) (x : Z89.D) : Z2a.lp (k + 1) x = loopK Z29 Z2a 0 Z4W k x := by kernel_rfl
theorem Zj2 (k : Nat) : LOK Try.prog Z29 k Z4W := LOK.by [] (by kernel_rfl) AllOK.nil
theorem Zkb (x : Z89.D) : Z2a.lp 0 x = none := by kernel_rfl
theorem Ziw (k : Nat) : EOK Try.prog Z29 k Z2a.E (.block 0 (.loop Z4W)) := Z8 T_ok Zel Zkb Zjo Zj2 k
theorem Zoa (k : Nat) (x : Tup Z1k.ps) : Z1k.f (k + 1) x = fnK Z1k Z29 Z76 k x := by kernel_rfl
theorem Zn1 (x : Tup Z1k.ps) : Z1k.f 0 x = none := by kernel_rfl
theorem ZnY (k : Nat) : LOK Try.prog Z29 k Z76 := LOK.by [(Z2a.E, .block 0 (.loop Z4W))] (by kernel_rfl) (AllOK.cons (Ziw k) AllOK.nil)
theorem Zng (k : Nat) : SoundAt Try.prog k 31 Z1k.E := @Z4 Try.prog Z1k Z29 31 Try.f31 Z76 (by kernel_rfl) (by kernel_rfl) (by kernel_rfl) Try.func31 (by kernel_rfl) (by kernel_rfl) (by kernel_rfl) T_ok Zel ZnY Zn1 Zoa k
noncomputable def Z4L : List PK := [PK.mk (Ty.int .i64) false none false none, PK.mk Ty.bool false none false none]
noncomputable def ZeW : List PK := [PK.mk (Ty.pair (Ty.int .i64) (Ty.pair (Ty.int .i64) (Ty.slice (71 : Nat) (Ty.pair (Ty.int .i64) (Ty.int .i64))))) true none false none, PK.mk (Ty.pair (Ty.int .i64) (Ty.pair (Ty.int .i64) (Ty.slice (71 : Nat) (Ty.pair (Ty.int .i64) (Ty.int .i64))))) true none false none, PK.mk (Ty.int .i64) false none false none]
noncomputable def Zey (r : Int × Bool) : Tup Z4L × OutD := ((r.1, r.2, ()), none)
noncomputable def Zek : Tup Z4L × OutD → Option (Int × Bool)
 | (a, none) => some (a.1, a.2.1)
 | _ => none
theorem ZjO : ∀ b r, Zek b = some r → Zey r = b := by
 rintro ⟨a, o⟩ r h
 cases o with
 | none => injection h with h; subst h; rfl
 | some _ => cases h
noncomputable def Z7J : Nat → Int × Int × List (Int × Int) → Int × Int × List (Int × Int) → Int → Option (Int × Bool)
 | 0, _, _, _ => none
 | k + 1, p0, p1, p2 =>
  Option.bind (Z4S k (Prod.fst p0, Prod.fst p0.2, Prod.snd p0.2) p2) fun z0 => if (!z0) = true then some ((0 : Int), false) else Option.bind (Z7U k (Prod.fst p1, Prod.fst p1.2, Prod.snd p1.2)) fun z1 => if (!z1) = true then some ((0 : Int), false) else Option.bind (Z4i k (Prod.fst p1, Prod.fst p1.2, Prod.snd p1.2)) fun z2 => if decide ((↑(List.length z2) : Int) > (10 : Int)) = true then some ((0 : Int), false) else if decide (Prod.fst p0 ≠ Prod.fst p1) = true then some ((0 : Int), false) else if decide (Prod.fst p0.2 ≠ Prod.fst p1.2) = true then some ((0 : Int), false) else Option.bind (Z8Y k (Prod.fst p0, Prod.fst p0.2, Prod.snd p0.2) (Prod.fst p1, Prod.fst p1.2, Prod.snd p1.2)) fun z3 => if (!Prod.snd z3) = true then some ((0 : Int), false) else Option.bind (Z7i k (Prod.fst p0, Prod.fst p0.2, Prod.snd p0.2)) fun z4 => Option.bind (Z3R k z4) fun z5 => Option.bind (Z7i k (Prod.fst p1, Prod.fst p1.2, Prod.snd p1.2)) fun z6 => Option.bind (Z3R k z6) fun z7 => if decide (z5 = z7) = true then some ((0 : Int), true) else Option.bind (Z2Z k (Prod.fst p0, Prod.fst p0.2, Prod.snd p0.2) [p2]) fun z8 => if (0 : Int) < (↑(List.length z8) : Int) then Option.bind (Z5L k (List.getD z8 (Int.toNat (0 : Int)) []) z5 z7) fun z9 => some (Prod.fst z9, Prod.snd z9) else none
noncomputable def Z1H : FnDef := .of ZeW Z4L (Int × Bool) (fun k x => Z7J k x.1 x.2.1 x.2.2.1) Zey Zek ZjO
noncomputable def Zak : Code := Try.f35.body.getD .skip
noncomputable def Z7C : Ctx (Tup Z4L × OutD) := { T := T, G := [(39, Z1C.E), (51, Z2D.E), (63, Z1A.E), (74, Z2l.E), (41, Z3u.E), (40, Z1G.E), (42, ZH.E), (68, Z1N.E)], mvs := [], no := 0, n := 74, res := resOf T ZeW Z4L Try.f35.results.toList, loops := [], regs := [], conds := [], cuts := [] }
theorem ZoL (k : Nat) : EnvOK Try.prog k Z7C.G := (EnvOK.cons (Zbw k) (EnvOK.cons (Zga k) (EnvOK.cons (Za3 k) (EnvOK.cons (Zsh k) (EnvOK.cons (Zhj k) (EnvOK.cons (Zbn k) (EnvOK.cons (Z8k k) (EnvOK.cons (Zeb k) (EnvOK.nil mixed)))))))))
theorem ZoM (k : Nat) (x : Tup Z1H.ps) : Z1H.f (k + 1) x = fnK Z1H Z7C Zak k x := by kernel_rfl
theorem Zop (x : Tup Z1H.ps) : Z1H.f 0 x = none := by kernel_rfl
theorem Zog (k : Nat) : LOK Try.prog Z7C k Zak := LOK.by [] (by kernel_rfl) AllOK.nil
theorem Zoo (k : Nat) : SoundAt Try.prog k 35 Z1H.E := @Z4 Try.prog Z1H Z7C 35 Try.f35 Zak (by kernel_rfl) (by kernel_rfl) (by kernel_rfl) Try.func35 (by kernel_rfl) (by kernel_rfl) (by kernel_rfl) T_ok ZoL Zog Zop ZoM k
noncomputable def Z8F : List PK := [PK.mk (Ty.slice (3 : Nat) (Ty.int .i64)) false none false none]
noncomputable def Zpo : List PK := [PK.mk (Ty.pair (Ty.int .i64) (Ty.pair (Ty.int .i64) (Ty.slice (71 : Nat) (Ty.pair (Ty.int .i64) (Ty.int .i64))))) true none false none, PK.mk (Ty.int .i64) false none false none]
noncomputable def Znc (r : List Int) : Tup Z8F × OutD := ((r, ()), none)
noncomputable def Znh : Tup Z8F × OutD → Option (List Int)
 | (a, none) => some (a.1)
 | _ => none
theorem Ztv : ∀ b r, Znh b = some r → Znc r = b := by
 rintro ⟨a, o⟩ r h
 cases o with
 | none => injection h with h; subst h; rfl
 | some _ => cases h
noncomputable def Z6Q : Nat → Int → Int → List (Int × Int) → List Int → Int → Int → Option (List Int)
 | 0, _, _, _, _, _, _ => none
 | k + 1, b1_0, b1_1, b1_2, o2, v1, v6 =>
  Option.bind (ZbE k (b1_0, b1_1, b1_2)) fun z0 => if decide (v6 < z0) = true then Option.bind (Zgm k (b1_0, b1_1, b1_2) v6) fun z1 => Option.bind (Z9N k (Prod.fst z1, Prod.fst z1.2, Prod.snd z1.2) v1) fun z2 => Option.bind (Z3P k (Prod.fst z2.2, Prod.fst z2.2.2, Prod.snd z2.2.2)) fun z3 => if List.length o2 + List.length [z3] ≤ (140737488355328 / 8 : Nat) then Z6Q k b1_0 b1_1 b1_2 (o2 ++ [z3]) v1 (wrap64 (v6 + (1 : Int))) else none else some o2
noncomputable def ZdU : Spec := Spec.mk [OSh.ro, OSh.box (26 : Nat) [Sh.int .i64, Sh.int .i64, Sh.snap (0 : Nat) (Ty.pair (Ty.int .i64) (Ty.int .i64))], OSh.row true (3 : Nat) (Ty.int .i64)] [((1 : Nat), TSh.at (Sh.int .i64)), ((2 : Nat), TSh.at (Sh.ptr (1 : Nat) (0 : Nat))), ((5 : Nat), TSh.at (Sh.sl (2 : Nat))), ((6 : Nat), TSh.at (Sh.int .i64))]
noncomputable def ZvO : Spec := Spec.mk [OSh.ro, OSh.row true (3 : Nat) (Ty.int .i64)] [((5 : Nat), TSh.at (Sh.sl (1 : Nat)))]
noncomputable def Z6f : LoopDef (Tup Z8F × OutD) := .plain ZdU ZvO (List Int) (fun k x => Z6Q k x.1.2.1.1 x.1.2.1.2.1 x.1.2.1.2.2.1 x.1.2.2.1 x.2.1 x.2.2.2.2.1) (fun z => (((), z, ()), ((), ()))) (fun y => (y.1.2.1)) (fun _ => rfl)
noncomputable def Z7l : Nat → Int × Int × List (Int × Int) → Int → Option (List Int)
 | 0, _, _ => none
 | k + 1, p0, p1 =>
  Option.bind (Z6Q k p0.1 p0.2.1 p0.2.2 [] p1 (0 : Int)) fun z4 => some z4
noncomputable def Z2y : FnDef := .of Zpo Z8F (List Int) (fun k x => Z7l k x.1 x.2.1) Znc Znh Ztv
noncomputable def Zdy : Code := Try.f46.body.getD .skip
noncomputable def Z7h : Ctx (Tup Z8F × OutD) := { T := T, G := [(82, Z3L.E), (48, Z7P.E), (71, Z43.E), (47, Z1J.E)], mvs := [], no := 0, n := 29, res := resOf T Zpo Z8F Try.f46.results.toList, loops := [(0, Z6f.E)], regs := [], conds := [], cuts := [] }
theorem Zpj (k : Nat) : EnvOK Try.prog k Z7h.G := (EnvOK.cons (Zxg k) (EnvOK.cons (ZBg k) (EnvOK.cons (Zje k) (EnvOK.cons (ZbA k) (EnvOK.nil mixed)))))
noncomputable def ZaE : Code := (findLoop 0 Zdy).getD .skip
theorem ZvJ (k : Nat) (x : ZdU.D) : Z6f.lp (k + 1) x = loopK Z7h Z6f 0 ZaE k x := by kernel_rfl
theorem Zw7 (k : Nat) : LOK Try.prog Z7h k ZaE := LOK.by [] (by kernel_rfl) AllOK.nil
theorem Zvl (x : ZdU.D) : Z6f.lp 0 x = none := by kernel_rfl
theorem Zt1 (k : Nat) : EOK Try.prog Z7h k Z6f.E (.block 0 (.loop ZaE)) := Z8 T_ok Zpj Zvl ZvJ Zw7 k
theorem Zza (k : Nat) (x : Tup Z2y.ps) : Z2y.f (k + 1) x = fnK Z2y Z7h Zdy k x := by kernel_rfl
theorem ZzL (x : Tup Z2y.ps) : Z2y.f 0 x = none := by kernel_rfl
theorem Zzi (k : Nat) : LOK Try.prog Z7h k Zdy := LOK.by [(Z6f.E, .block 0 (.loop ZaE))] (by kernel_rfl) (AllOK.cons (Zt1 k) AllOK.nil)
theorem ZdI (k : Nat) : SoundAt Try.prog k 46 Z2y.E := @Z4 Try.prog Z2y Z7h 46 Try.f46 Zdy (by kernel_rfl) (by kernel_rfl) (by kernel_rfl) Try.func46 (by kernel_rfl) (by kernel_rfl) (by kernel_rfl) T_ok Zpj Zzi ZzL Zza k
noncomputable def Z3a : List PK := [PK.mk (Ty.pair (Ty.int .i64) (Ty.pair (Ty.int .i64) (Ty.slice (71 : Nat) (Ty.pair (Ty.int .i64) (Ty.int .i64))))) true none false none]
noncomputable def Zem : List PK := [PK.mk (Ty.pair (Ty.slice (5 : Nat) (Ty.int .u8)) (Ty.pair (Ty.int .i64) (Ty.int .u64))) false none false (some (58 : Nat))]
noncomputable def Zdm (r : (Int × Int × List (Int × Int)) × Int × Int) : Tup Z3a × OutD := ((r.1, ()), some ⟨Ty.pair (Ty.slice (5 : Nat) (Ty.int .u8)) (Ty.pair (Ty.int .i64) (Ty.int .u64)), [([], r.2)]⟩)
noncomputable def Z9n : Tup Z3a × OutD → Option ((Int × Int × List (Int × Int)) × Int × Int)
 | (a, some ⟨u, ys⟩) => if h : u = Ty.pair (Ty.slice (5 : Nat) (Ty.int .u8)) (Ty.pair (Ty.int .i64) (Ty.int .u64)) then (match castU h ys with
  | [([], y)] => some (a.1, y)
  | _ => none) else none
 | _ => none
theorem ZiC : ∀ b r, Z9n b = some r → Zdm r = b := by
 rintro ⟨a, o⟩ r h
 cases o with
 | none => cases h
 | some s =>
  obtain ⟨u, ys⟩ := s
  simp only [Z9n] at h
  split at h
  ·rename_i hu
   subst hu
   match ys, h with
   | [], h => cases (show (none : Option _) = some r from h)
   | [([], y)], h => injection (show some _ = some r from h) with h; subst h; rfl
   | [(_ :: _, y)], h => cases (show (none : Option _) = some r from h)
   | (h1, _) :: _ :: _, h => cases h1 <;> cases (show (none : Option _) = some r from h)
  ·cases h
noncomputable def Z1f : Nat → Int → Int → List Int → Int → Int → List (Int × Int) → Int → Int → List (Int × Int) → Option (Int × Int × List Int × Int × Int × List (Int × Int) × Int × Int × List (Int × Int)) := fun k b1_1 b1_2 o2 b3_0 b3_1 o4 b5_0 b5_1 o6 =>
    Option.bind (Z0 k (o2, b1_1, b1_2) (↑(List.length o6) : Int)) fun z4 => Option.bind (Z16 k (o2, Prod.fst z4.2, Prod.snd z4.2)) fun z5 => if (0 : Int) ≤ Prod.fst z4 then if Prod.fst z4 < (↑(List.length o6) : Int) then some (Prod.fst z5.2, Prod.snd z5.2, o2, b3_0, b3_1, o4, b5_0, b5_1, List.set o6 (Int.toNat z4.1) (Prod.fst z5.1, Prod.snd z5.1)) else none else none
noncomputable def Z4G : Nat → Int → Int → List Int → Int → Int → List (Int × Int) → Int → Int → List (Int × Int) → Option (List (Int × Int × List Int × Int × Int × List (Int × Int) × Int × Int × List (Int × Int))) := fun k b1_1 b1_2 o2 b3_0 b3_1 o4 b5_0 b5_1 o6 =>
    joinL (Option.bind (Z0 k (o2, b1_1, b1_2) (↑(List.length o6) : Int)) fun z6 => Option.bind (Z16 k (o2, Prod.fst z6.2, Prod.snd z6.2)) fun z7 => if (0 : Int) ≤ Prod.fst z6 then if Prod.fst z6 < (↑(List.length o6) : Int) then some [(Prod.fst z7.2, Prod.snd z7.2, o2, b3_0, b3_1, o4, b5_0, b5_1, List.set o6 (Int.toNat z6.1) (Prod.fst z7.1, Prod.snd z7.1))] else none else none) (Option.bind (Z0 k (o2, b1_1, b1_2) (↑(List.length o6) : Int)) fun z8 => joinL (Option.bind (Z16 k (o2, Prod.fst z8.2, Prod.snd z8.2)) fun z9 => if (0 : Int) ≤ Prod.fst z8 then if Prod.fst z8 < (↑(List.length o6) : Int) then some [(Prod.fst z9.2, Prod.snd z9.2, o2, b3_0, b3_1, o4, b5_0, b5_1, List.set o6 (Int.toNat z8.1) (Prod.fst z9.1, Prod.snd z9.1))] else none else none) (Option.bind (Z16 k (o2, Prod.fst z8.2, Prod.snd z8.2)) fun z10 => if (0 : Int) ≤ Prod.fst z8 then if Prod.fst z8 < (↑(List.length o6) : Int) then some [(Prod.fst z10.2, Prod.snd z10.2, o2, b3_0, b3_1, o4, b5_0, b5_1, List.set o6 (Int.toNat z8.1) (Prod.fst z10.1, Prod.snd z10.1))] else none else none))
noncomputable def Zbs : Spec := Spec.mk [OSh.ro, OSh.box (58 : Nat) [Sh.sl (2 : Nat), Sh.int .i64, Sh.int .u64], OSh.fx (Ty.int .u8), OSh.box (26 : Nat) [Sh.int .i64, Sh.int .i64, Sh.sl (4 : Nat)], OSh.row true (71 : Nat) (Ty.pair (Ty.int .i64) (Ty.int .i64)), OSh.box (26 : Nat) [Sh.int .i64, Sh.int .i64, Sh.sl (6 : Nat)], OSh.row true (71 : Nat) (Ty.pair (Ty.int .i64) (Ty.int .i64))] [((0 : Nat), TSh.at (Sh.ptr (1 : Nat) (0 : Nat))), ((2 : Nat), TSh.at (Sh.ptr (3 : Nat) (0 : Nat))), ((3 : Nat), TSh.at (Sh.ptr (5 : Nat) (0 : Nat)))]
noncomputable def Zix : Spec := Spec.mk [OSh.ro, OSh.box (58 : Nat) [Sh.sl (2 : Nat), Sh.int .i64, Sh.int .u64], OSh.fx (Ty.int .u8), OSh.box (26 : Nat) [Sh.int .i64, Sh.int .i64, Sh.sl (4 : Nat)], OSh.row true (71 : Nat) (Ty.pair (Ty.int .i64) (Ty.int .i64)), OSh.box (26 : Nat) [Sh.int .i64, Sh.int .i64, Sh.sl (6 : Nat)], OSh.row true (71 : Nat) (Ty.pair (Ty.int .i64) (Ty.int .i64))] [((2 : Nat), TSh.at (Sh.ptr (3 : Nat) (0 : Nat))), ((3 : Nat), TSh.at (Sh.ptr (5 : Nat) (0 : Nat)))]
noncomputable def Z1T : LoopDef (Tup Z3a × OutD) := .plain Zbs Zix (Int × Int × List Int × Int × Int × List (Int × Int) × Int × Int × List (Int × Int)) (fun k x => Z1f k x.1.2.1.2.1 x.1.2.1.2.2.1 x.1.2.2.1 x.1.2.2.2.1.1 x.1.2.2.2.1.2.1 x.1.2.2.2.2.1 x.1.2.2.2.2.2.1.1 x.1.2.2.2.2.2.1.2.1 x.1.2.2.2.2.2.2.1) (fun z => (((), ((), z.1, z.2.1, ()), z.2.2.1, (z.2.2.2.1, z.2.2.2.2.1, (), ()), z.2.2.2.2.2.1, (z.2.2.2.2.2.2.1, z.2.2.2.2.2.2.2.1, (), ()), z.2.2.2.2.2.2.2.2, ()), ((), (), ()))) (fun y => (y.1.2.1.2.1, y.1.2.1.2.2.1, y.1.2.2.1, y.1.2.2.2.1.1, y.1.2.2.2.1.2.1, y.1.2.2.2.2.1, y.1.2.2.2.2.2.1.1, y.1.2.2.2.2.2.1.2.1, y.1.2.2.2.2.2.2.1)) (fun _ => rfl)
theorem ZiE (k : Nat) (b1_1 : Int) (b1_2 : Int) (o2 : List Int) (b3_0 : Int) (b3_1 : Int) (o4 : List (Int × Int)) (b5_0 : Int) (b5_1 : Int) (o6 : List (Int × Int)) : Z4G k b1_1 b1_2 o2 b3_0 b3_1 o4 b5_0 b5_1 o6 = repl 3 (Z1f k b1_1 b1_2 o2 b3_0 b3_1 o4 b5_0 b5_1 o6) := by
 first
 | (simp only [Z4G, Z1f, Zh, Zo, Zg, Zi, Ze, Z3, if_true]; done)
 | (simp only [Z4G, Z1f, Zh, Zo, Zg, Zi, Ze, Z3, if_true]; simp only [Z1E, Z1D, Z3k, Z3]; simp only [Z4r]; exact Z2g ⟨fun h => by simp only [h, and_self], fun h => by simp only [h, and_self]⟩)
noncomputable def Zf : Nat → List Int × Int × Int → Option ((Int × Int × List (Int × Int)) × Int × Int)
 | 0, _ => none
 | k + 1, p0 =>
  Option.bind (Z6B k (Prod.fst p0, Prod.fst p0.2, Prod.snd p0.2)) fun z0 => Option.bind (Z0 k (Prod.fst p0, Prod.fst z0.2, Prod.snd z0.2) (36 : Int)) fun z1 => if decide (Prod.fst z1 = (0 : Int)) = true then Option.bind (Zb k (Prod.fst p0, Prod.fst z1.2, Prod.snd z1.2) [(0 : Int), wrap64 (Prod.fst z0.1 + (1 : Int)), (10 : Int), (11 : Int)]) fun z2 => some ((Prod.fst z2, Prod.fst z0.1.2, Prod.snd z0.1.2), Prod.fst z2.2, Prod.snd z2.2) else if decide (Prod.fst z1 = (1 : Int)) = true then Option.bind (Zb k (Prod.fst p0, Prod.fst z1.2, Prod.snd z1.2) [(0 : Int), wrap64 (Prod.fst z0.1.2 + (1 : Int)), (9 : Int), (10 : Int)]) fun z3 => some ((Prod.fst z0.1, Prod.fst z3, Prod.snd z0.1.2), Prod.fst z3.2, Prod.snd z3.2) else if decide (Prod.fst z1 = (2 : Int)) = true then Option.bind (Z1f k z1.2.1 z1.2.2 p0.1 (0 : Int) (0 : Int) [] z0.1.1 z0.1.2.1 z0.1.2.2) fun z11 => some ((Prod.fst z11.2.2.2.2.2.2, Prod.fst z11.2.2.2.2.2.2.2, Prod.snd z11.2.2.2.2.2.2.2), Prod.fst z11, Prod.fst z11.2) else if decide (Prod.fst z1 = (3 : Int)) = true then if (1 : Int) ≤ (↑(List.length z0.1.2.2) : Int) then if (↑(List.length z0.1.2.2) : Int) ≤ (↑(List.length z0.1.2.2) : Int) then some ((Prod.fst z0.1, Prod.fst z0.1.2, List.drop (Int.toNat (1 : Int)) z0.1.2.2), Prod.fst z1.2, Prod.snd z1.2) else none else none else if decide (Prod.fst z1 = (4 : Int)) = true then some (((11 : Int), (2 : Int), List.replicate (Int.toNat (22 : Int)) ((0 : Int), (0 : Int))), Prod.fst z1.2, Prod.snd z1.2) else if decide (Prod.fst z1 = (5 : Int)) = true then some (((2 : Int), (10 : Int), List.replicate (Int.toNat (20 : Int)) ((0 : Int), (0 : Int))), Prod.fst z1.2, Prod.snd z1.2) else some ((Prod.fst z0.1, Prod.fst z0.1.2, Prod.snd z0.1.2), Prod.fst z1.2, Prod.snd z1.2)
noncomputable def ZT : FnDef := .of Zem Z3a ((Int × Int × List (Int × Int)) × Int × Int) (fun k x => Zf k x.1) Zdm Z9n ZiC
noncomputable def Z72 : Code := Try.f72.body.getD .skip
noncomputable def ZG : Ctx (Tup Z3a × OutD) := { T := T, G := [(95, Z2i.E), (57, Zc.E), (60, Zv.E), (96, Z1F.E)], mvs := [42], no := 2, n := 53, res := resOf T Zem Z3a Try.f72.results.toList, loops := [], regs := [(8, Z1T.E)], conds := [], cuts := [] }
theorem ZeD (k : Nat) : EnvOK Try.prog k ZG.G := (EnvOK.cons (Zre k) (EnvOK.cons (ZK k) (EnvOK.cons (Z4D k) (EnvOK.cons (Zod k) (EnvOK.nil mixed)))))
noncomputable def Z7z : Array Oper := (findReg 8 Z72).getD #[]
theorem Zik (k : Nat) (x : Zbs.D) : execD ZG.T ZG.G ZG.mvs k Z7z (Z1T.inp.st ZG.n x) (outK ZG Z1T) = Z4G k x.1.2.1.2.1 x.1.2.1.2.2.1 x.1.2.2.1 x.1.2.2.2.1.1 x.1.2.2.2.1.2.1 x.1.2.2.2.2.1 x.1.2.2.2.2.2.1.1 x.1.2.2.2.2.2.1.2.1 x.1.2.2.2.2.2.2.1 := by kernel_rfl
theorem Zhi (k : Nat) : EOK Try.prog ZG k Z1T.E (.region 8 Z7z true) := Z6K (D := Z1T) (m := 3) T_ok (ZeD k) (fun x => (Zik k x).trans (ZiE k x.1.2.1.2.1 x.1.2.1.2.2.1 x.1.2.2.1 x.1.2.2.2.1.1 x.1.2.2.2.1.2.1 x.1.2.2.2.2.1 x.1.2.2.2.2.2.1.1 x.1.2.2.2.2.2.1.2.1 x.1.2.2.2.2.2.2.1))
theorem Znv (k : Nat) (x : Tup ZT.ps) : ZT.f (k + 1) x = fnK ZT ZG Z72 k x := by kernel_rfl
theorem Zn5 (x : Tup ZT.ps) : ZT.f 0 x = none := by kernel_rfl
theorem Zn7 (k : Nat) : LOK Try.prog ZG k Z72 := LOK.by [(Z1T.E, .region 8 Z7z true)] (by kernel_rfl) (AllOK.cons (Zhi k) AllOK.nil)
theorem ZeB (k : Nat) : SoundAt Try.prog k 72 ZT.E := @Z4 Try.prog ZT ZG 72 Try.f72 Z72 (by kernel_rfl) (by kernel_rfl) (by kernel_rfl) Try.func72 (by kernel_rfl) (by kernel_rfl) (by kernel_rfl) T_ok ZeD Zn7 Zn5 Znv k
end
end Go.Proofs.Ytglkedenkcpcbaa.Vs
