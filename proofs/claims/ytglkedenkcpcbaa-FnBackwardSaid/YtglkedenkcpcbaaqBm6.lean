/- The proof, part 7. -/
import Derived.Test.YtglkedenkcpcbaaqBm5
set_option maxRecDepth 100000
set_option maxHeartbeats 2000000
set_option linter.unusedVariables false
set_option linter.unusedSimpArgs false
namespace Go.Proofs.Ytglkedenkcpcbaa.Vs
open Go.RowKit
noncomputable section
noncomputable def Z95 : List PK := [PK.mk (Ty.slice (3 : Nat) (Ty.int .i64)) false none false none]
noncomputable def Zqj : List PK := [PK.mk (Ty.pair (Ty.int .i64) (Ty.pair (Ty.int .i64) (Ty.slice (71 : Nat) (Ty.pair (Ty.int .i64) (Ty.int .i64))))) true none false none]
noncomputable def ZoQ (r : List Int) : Tup Z95 × OutD := ((r, ()), none)
noncomputable def Zog : Tup Z95 × OutD → Option (List Int)
 | (a, none) => some (a.1)
 | _ => none
theorem ZvB : ∀ b r, Zog b = some r → ZoQ r = b := by
 rintro ⟨a, o⟩ r h
 cases o with
 | none => injection h with h; subst h; rfl
 | some _ => cases h
noncomputable def Z75 : Nat → Int → Int → List (Int × Int) → List Int → List (List Int) → Int → Int → Option (List Int)
 | 0, _, _, _, _, _, _, _ => none
 | k + 1, b1_0, b1_1, b1_2, o2, o3, v9, v10 =>
  if decide (v10 < v9) = true then if (0 : Int) ≤ v10 then if v10 < (↑(List.length o3) : Int) then if (0 : Int) < (↑(List.length (List.getD o3 (Int.toNat v10) [])) : Int) then if (0 : Int) ≤ List.getD (List.getD o3 (Int.toNat v10) []) (Int.toNat (0 : Int)) (0 : Int) then if List.getD (List.getD o3 (Int.toNat v10) []) (Int.toNat (0 : Int)) (0 : Int) < (↑(List.length b1_2) : Int) then if List.length o2 + List.length [Prod.snd (List.getD b1_2 (Int.toNat (List.getD (List.getD o3 (Int.toNat v10) []) (Int.toNat (0 : Int)) (0 : Int))) ((0 : Int), (0 : Int)))] ≤ (140737488355328 / 8 : Nat) then Z75 k b1_0 b1_1 b1_2 (o2 ++ [Prod.snd (List.getD b1_2 (Int.toNat (List.getD (List.getD o3 (Int.toNat v10) []) (Int.toNat (0 : Int)) (0 : Int))) ((0 : Int), (0 : Int)))]) o3 v9 (wrap64 (v10 + (1 : Int))) else none else none else none else none else none else none else some o2
noncomputable def ZeQ : Spec := Spec.mk [OSh.ro, OSh.box (26 : Nat) [Sh.int .i64, Sh.int .i64, Sh.snap (0 : Nat) (Ty.pair (Ty.int .i64) (Ty.int .i64))], OSh.row true (3 : Nat) (Ty.int .i64), OSh.row true (36 : Nat) (Ty.slice (3 : Nat) (Ty.int .i64))] [((1 : Nat), TSh.at (Sh.ptr (1 : Nat) (0 : Nat))), ((3 : Nat), TSh.at (Sh.sl (2 : Nat))), ((8 : Nat), TSh.at (Sh.sl (3 : Nat))), ((9 : Nat), TSh.at (Sh.int .i64)), ((10 : Nat), TSh.at (Sh.int .i64))]
noncomputable def Zx5 : Spec := Spec.mk [OSh.ro, OSh.row true (3 : Nat) (Ty.int .i64)] [((3 : Nat), TSh.at (Sh.sl (1 : Nat)))]
noncomputable def Z5Y : LoopDef (Tup Z95 × OutD) := .plain ZeQ Zx5 (List Int) (fun k x => Z75 k x.1.2.1.1 x.1.2.1.2.1 x.1.2.1.2.2.1 x.1.2.2.1 x.1.2.2.2.1 x.2.2.2.2.1 x.2.2.2.2.2.1) (fun z => (((), z, ()), ((), ()))) (fun y => (y.1.2.1)) (fun _ => rfl)
noncomputable def Z93 : Nat → Int × Int × List (Int × Int) → Option (List Int)
 | 0, _ => none
 | k + 1, p0 =>
  Option.bind (Z4H k (Prod.fst p0, Prod.fst p0.2, Prod.snd p0.2)) fun z0 => Option.bind (Z75 k p0.1 p0.2.1 p0.2.2 [] z0 (↑(List.length z0) : Int) (0 : Int)) fun z1 => some z1
noncomputable def Z3v : FnDef := .of Zqj Z95 (List Int) (fun k x => Z93 k x.1) ZoQ Zog ZvB
noncomputable def Zep : Code := Try.f41.body.getD .skip
noncomputable def Z7v : Ctx (Tup Z95 × OutD) := { T := T, G := [(63, Z1h.E)], mvs := [], no := 0, n := 27, res := resOf T Zqj Z95 Try.f41.results.toList, loops := [(0, Z5Y.E)], regs := [], conds := [], cuts := [] }
theorem Zqy (k : Nat) : EnvOK Try.prog k Z7v.G := (EnvOK.cons (Zar k) (EnvOK.nil mixed))
noncomputable def ZaW : Code := (findLoop 0 Zep).getD .skip
theorem Zxt (k : Nat) (x : ZeQ.D) : Z5Y.lp (k + 1) x = loopK Z7v Z5Y 0 ZaW k x := by kernel_rfl
theorem ZxK (k : Nat) : LOK Try.prog Z7v k ZaW := LOK.by [] (by kernel_rfl) AllOK.nil
theorem ZwQ (x : ZeQ.D) : Z5Y.lp 0 x = none := by kernel_rfl
theorem Zvr (k : Nat) : EOK Try.prog Z7v k Z5Y.E (.block 0 (.loop ZaW)) := Z5 T_ok Zqy ZwQ Zxt ZxK k
theorem ZBJ (k : Nat) (x : Tup Z3v.ps) : Z3v.f (k + 1) x = fnK Z3v Z7v Zep k x := by kernel_rfl
theorem ZB0 (x : Tup Z3v.ps) : Z3v.f 0 x = none := by kernel_rfl
theorem ZAI (k : Nat) : LOK Try.prog Z7v k Zep := LOK.by [(Z5Y.E, .block 0 (.loop ZaW))] (by kernel_rfl) (AllOK.cons (Zvr k) AllOK.nil)
theorem Zi8 (k : Nat) : SoundAt Try.prog k 41 Z3v.E := @Z1 Try.prog Z3v Z7v 41 Try.f41 Zep (by kernel_rfl) (by kernel_rfl) (by kernel_rfl) Try.func41 (by kernel_rfl) (by kernel_rfl) (by kernel_rfl) T_ok Zqy ZAI ZB0 ZBJ k
noncomputable def Z1F : List PK := [PK.mk (Ty.slice (36 : Nat) (Ty.slice (3 : Nat) (Ty.int .i64))) false none false none]
noncomputable def Zgk : List PK := [PK.mk (Ty.pair (Ty.int .i64) (Ty.pair (Ty.int .i64) (Ty.slice (71 : Nat) (Ty.pair (Ty.int .i64) (Ty.int .i64))))) true none false none, PK.mk (Ty.slice (3 : Nat) (Ty.int .i64)) false none false none]
noncomputable def Zfl (r : List (List Int)) : Tup Z1F × OutD := ((r, ()), none)
noncomputable def Zfz : Tup Z1F × OutD → Option (List (List Int))
 | (a, none) => some (a.1)
 | _ => none
theorem Zl3 : ∀ b r, Zfz b = some r → Zfl r = b := by
 rintro ⟨a, o⟩ r h
 cases o with
 | none => injection h with h; subst h; rfl
 | some _ => cases h
noncomputable def Z36 : Nat → Int → Int → List (Int × Int) → List (List Int) → List Int → List (List Int) → Int → Int → List (Int × Int) → List Int → Int → Int → Int → List Int → Int → Int → Int → Int → Int → Int → Option (Int × Int × List (Int × Int) × List (List Int) × List Int × List (List Int) × List Int × Int × Int × Int × List Int × Int × Int × Int × Int)
 | 0, _, _, _, _, _, _, _, _, _, _, _, _, _, _, _, _, _, _, _, _ => none
 | k + 1, b1_0, b1_1, b1_2, o2, o3, o4, b5_0, b5_1, o6, o7, v8, v9, v10, v21, v22, v23, v39, v40, v60, v61 =>
  if decide (v61 < v60) = true then if (0 : Int) ≤ v61 then if v61 < (↑(List.length o2) : Int) then if (0 : Int) < (↑(List.length (List.getD o2 (Int.toNat v61) [])) : Int) then if (0 : Int) ≤ List.getD (List.getD o2 (Int.toNat v61) []) (Int.toNat (0 : Int)) (0 : Int) then if List.getD (List.getD o2 (Int.toNat v61) []) (Int.toNat (0 : Int)) (0 : Int) < (↑(List.length o6) : Int) then if (0 : Int) ≤ v61 then if v61 < (↑(List.length o7) : Int) then Z36 k b1_0 b1_1 b1_2 o2 o3 o4 b5_0 b5_1 o6 (List.set o7 (Int.toNat v61) (Prod.snd (List.getD o6 (Int.toNat (List.getD (List.getD o2 (Int.toNat v61) []) (Int.toNat (0 : Int)) (0 : Int))) ((0 : Int), (0 : Int))))) v8 v9 v10 v21 v22 v23 v39 v40 v60 (wrap64 (v61 + (1 : Int))) else none else none else none else none else none else none else none else some (b1_0, b1_1, b1_2, o2, o3, o4, o7, v8, v9, v10, v21, v22, v23, v39, v40)
noncomputable def Z9S : Spec := Spec.mk [OSh.ro, OSh.box (26 : Nat) [Sh.int .i64, Sh.int .i64, Sh.snap (0 : Nat) (Ty.pair (Ty.int .i64) (Ty.int .i64))], OSh.row true (36 : Nat) (Ty.slice (3 : Nat) (Ty.int .i64)), OSh.row true (3 : Nat) (Ty.int .i64), OSh.row true (36 : Nat) (Ty.slice (3 : Nat) (Ty.int .i64)), OSh.box (26 : Nat) [Sh.int .i64, Sh.int .i64, Sh.sl (6 : Nat)], OSh.row true (71 : Nat) (Ty.pair (Ty.int .i64) (Ty.int .i64)), OSh.row true (3 : Nat) (Ty.int .i64)] [((2 : Nat), TSh.at (Sh.ptr (1 : Nat) (0 : Nat))), ((5 : Nat), TSh.at (Sh.sl (2 : Nat))), ((6 : Nat), TSh.at (Sh.sl (3 : Nat))), ((7 : Nat), TSh.at (Sh.sl (4 : Nat))), ((8 : Nat), TSh.at (Sh.int .i64)), ((9 : Nat), TSh.at (Sh.int .i64)), ((10 : Nat), TSh.at (Sh.int .i64)), ((11 : Nat), TSh.at (Sh.ptr (5 : Nat) (0 : Nat))), ((12 : Nat), TSh.at (Sh.sl (7 : Nat))), ((21 : Nat), TSh.at (Sh.snap (0 : Nat) (Ty.int .i64))), ((22 : Nat), TSh.at (Sh.int .i64)), ((23 : Nat), TSh.at (Sh.int .i64)), ((39 : Nat), TSh.at (Sh.int .i64)), ((40 : Nat), TSh.at (Sh.int .i64)), ((60 : Nat), TSh.at (Sh.int .i64)), ((61 : Nat), TSh.at (Sh.int .i64))]
noncomputable def Zm3 : Spec := Spec.mk [OSh.ro, OSh.box (26 : Nat) [Sh.int .i64, Sh.int .i64, Sh.snap (0 : Nat) (Ty.pair (Ty.int .i64) (Ty.int .i64))], OSh.row true (36 : Nat) (Ty.slice (3 : Nat) (Ty.int .i64)), OSh.row true (3 : Nat) (Ty.int .i64), OSh.row true (36 : Nat) (Ty.slice (3 : Nat) (Ty.int .i64)), OSh.row true (3 : Nat) (Ty.int .i64)] [((2 : Nat), TSh.at (Sh.ptr (1 : Nat) (0 : Nat))), ((5 : Nat), TSh.at (Sh.sl (2 : Nat))), ((6 : Nat), TSh.at (Sh.sl (3 : Nat))), ((7 : Nat), TSh.at (Sh.sl (4 : Nat))), ((8 : Nat), TSh.at (Sh.int .i64)), ((9 : Nat), TSh.at (Sh.int .i64)), ((10 : Nat), TSh.at (Sh.int .i64)), ((12 : Nat), TSh.at (Sh.sl (5 : Nat))), ((21 : Nat), TSh.at (Sh.snap (0 : Nat) (Ty.int .i64))), ((22 : Nat), TSh.at (Sh.int .i64)), ((23 : Nat), TSh.at (Sh.int .i64)), ((39 : Nat), TSh.at (Sh.int .i64)), ((40 : Nat), TSh.at (Sh.int .i64))]
noncomputable def Z2z : LoopDef (Tup Z1F × OutD) := .plain Z9S Zm3 (Int × Int × List (Int × Int) × List (List Int) × List Int × List (List Int) × List Int × Int × Int × Int × List Int × Int × Int × Int × Int) (fun k x => Z36 k x.1.2.1.1 x.1.2.1.2.1 x.1.2.1.2.2.1 x.1.2.2.1 x.1.2.2.2.1 x.1.2.2.2.2.1 x.1.2.2.2.2.2.1.1 x.1.2.2.2.2.2.1.2.1 x.1.2.2.2.2.2.2.1 x.1.2.2.2.2.2.2.2.1 x.2.2.2.2.2.1 x.2.2.2.2.2.2.1 x.2.2.2.2.2.2.2.1 x.2.2.2.2.2.2.2.2.2.2.1 x.2.2.2.2.2.2.2.2.2.2.2.1 x.2.2.2.2.2.2.2.2.2.2.2.2.1 x.2.2.2.2.2.2.2.2.2.2.2.2.2.1 x.2.2.2.2.2.2.2.2.2.2.2.2.2.2.1 x.2.2.2.2.2.2.2.2.2.2.2.2.2.2.2.1 x.2.2.2.2.2.2.2.2.2.2.2.2.2.2.2.2.1) (fun z => (((), (z.1, z.2.1, z.2.2.1, ()), z.2.2.2.1, z.2.2.2.2.1, z.2.2.2.2.2.1, z.2.2.2.2.2.2.1, ()), ((), (), (), (), z.2.2.2.2.2.2.2.1, z.2.2.2.2.2.2.2.2.1, z.2.2.2.2.2.2.2.2.2.1, (), z.2.2.2.2.2.2.2.2.2.2.1, z.2.2.2.2.2.2.2.2.2.2.2.1, z.2.2.2.2.2.2.2.2.2.2.2.2.1, z.2.2.2.2.2.2.2.2.2.2.2.2.2.1, z.2.2.2.2.2.2.2.2.2.2.2.2.2.2, ()))) (fun y => (y.1.2.1.1, y.1.2.1.2.1, y.1.2.1.2.2.1, y.1.2.2.1, y.1.2.2.2.1, y.1.2.2.2.2.1, y.1.2.2.2.2.2.1, y.2.2.2.2.2.1, y.2.2.2.2.2.2.1, y.2.2.2.2.2.2.2.1, y.2.2.2.2.2.2.2.2.2.1, y.2.2.2.2.2.2.2.2.2.2.1, y.2.2.2.2.2.2.2.2.2.2.2.1, y.2.2.2.2.2.2.2.2.2.2.2.2.1, y.2.2.2.2.2.2.2.2.2.2.2.2.2.1)) (fun _ => rfl)
noncomputable def Z2Z : Nat → Int → Int → List (Int × Int) → List (List Int) → List Int → List (List Int) → Int → Int → List Int → Int → Int → Int → Int → Option (Int × Int × List (Int × Int) × List (List Int) × List Int × List (List Int) × List Int × Int × Int)
 | 0, _, _, _, _, _, _, _, _, _, _, _, _, _ => none
 | k + 1, b1_0, b1_1, b1_2, o2, o3, o4, v8, v9, v21, v22, v23, v39, v40 =>
  if decide (v40 < v39) = true then Option.bind (Z4p k (b1_0, b1_1, b1_2)) fun z2 => Option.bind (ZaM k v40 (↑(List.length o2) : Int)) fun z3 => Option.bind (Zaq k (Prod.fst z2, Prod.fst z2.2, Prod.snd z2.2) o2 z3) fun z4 => Option.bind (ZbR k (Prod.fst z2, Prod.fst z2.2, z4) o3 v9) fun z5 => if Int.toNat (↑(List.length o2) : Int) * (8 : Nat) ≤ (281474976710656 : Nat) then Option.bind (Z36 k b1_0 b1_1 b1_2 o2 o3 o4 z2.1 z2.2.1 z5.2.2 (List.replicate (Int.toNat (↑(List.length o2) : Int)) (0 : Int)) v8 v9 v40 v21 v22 v23 v39 v40 (↑(List.length o2) : Int) (0 : Int)) fun z6 => if (0 : Int) ≤ Prod.fst z6.2.2.2.2.2.2.2 then if Prod.fst z6.2.2.2.2.2.2.2 < (↑(List.length z6.2.2.2.2.2.1) : Int) then Option.bind (Z56 k z6.2.2.2.2.2.2.1) fun z7 => if (0 : Int) ≤ Prod.fst z6.2.2.2.2.2.2.2.2.2 then if Prod.fst z6.2.2.2.2.2.2.2.2.2 < (↑(List.length (List.getD z6.2.2.2.2.2.1 (Int.toNat z6.2.2.2.2.2.2.2.1) [])) : Int) then Z2Z k z6.1 z6.2.1 z6.2.2.1 z6.2.2.2.1 z6.2.2.2.2.1 (List.set z6.2.2.2.2.2.1 (Int.toNat z6.2.2.2.2.2.2.2.1) (List.set (List.getD z6.2.2.2.2.2.1 (Int.toNat z6.2.2.2.2.2.2.2.1) []) (Int.toNat z6.2.2.2.2.2.2.2.2.2.1) z7)) z6.2.2.2.2.2.2.2.1 z6.2.2.2.2.2.2.2.2.1 z6.2.2.2.2.2.2.2.2.2.2.1 z6.2.2.2.2.2.2.2.2.2.2.2.1 z6.2.2.2.2.2.2.2.2.2.2.2.2.1 z6.2.2.2.2.2.2.2.2.2.2.2.2.2.1 (wrap64 (Prod.snd z6.2.2.2.2.2.2.2.2.2.2.2.2.2 + (1 : Int))) else none else none else none else none else none else some (b1_0, b1_1, b1_2, o2, o3, o4, v21, v22, v23)
noncomputable def Z9E : Spec := Spec.mk [OSh.ro, OSh.box (26 : Nat) [Sh.int .i64, Sh.int .i64, Sh.snap (0 : Nat) (Ty.pair (Ty.int .i64) (Ty.int .i64))], OSh.row true (36 : Nat) (Ty.slice (3 : Nat) (Ty.int .i64)), OSh.row true (3 : Nat) (Ty.int .i64), OSh.row true (36 : Nat) (Ty.slice (3 : Nat) (Ty.int .i64))] [((2 : Nat), TSh.at (Sh.ptr (1 : Nat) (0 : Nat))), ((5 : Nat), TSh.at (Sh.sl (2 : Nat))), ((6 : Nat), TSh.at (Sh.sl (3 : Nat))), ((7 : Nat), TSh.at (Sh.sl (4 : Nat))), ((8 : Nat), TSh.at (Sh.int .i64)), ((9 : Nat), TSh.at (Sh.int .i64)), ((21 : Nat), TSh.at (Sh.snap (0 : Nat) (Ty.int .i64))), ((22 : Nat), TSh.at (Sh.int .i64)), ((23 : Nat), TSh.at (Sh.int .i64)), ((39 : Nat), TSh.at (Sh.int .i64)), ((40 : Nat), TSh.at (Sh.int .i64))]
noncomputable def Znh : Spec := Spec.mk [OSh.ro, OSh.box (26 : Nat) [Sh.int .i64, Sh.int .i64, Sh.snap (0 : Nat) (Ty.pair (Ty.int .i64) (Ty.int .i64))], OSh.row true (36 : Nat) (Ty.slice (3 : Nat) (Ty.int .i64)), OSh.row true (3 : Nat) (Ty.int .i64), OSh.row true (36 : Nat) (Ty.slice (3 : Nat) (Ty.int .i64))] [((2 : Nat), TSh.at (Sh.ptr (1 : Nat) (0 : Nat))), ((5 : Nat), TSh.at (Sh.sl (2 : Nat))), ((6 : Nat), TSh.at (Sh.sl (3 : Nat))), ((7 : Nat), TSh.at (Sh.sl (4 : Nat))), ((21 : Nat), TSh.at (Sh.snap (0 : Nat) (Ty.int .i64))), ((22 : Nat), TSh.at (Sh.int .i64)), ((23 : Nat), TSh.at (Sh.int .i64))]
noncomputable def Z2p : LoopDef (Tup Z1F × OutD) := .plain Z9E Znh (Int × Int × List (Int × Int) × List (List Int) × List Int × List (List Int) × List Int × Int × Int) (fun k x => Z2Z k x.1.2.1.1 x.1.2.1.2.1 x.1.2.1.2.2.1 x.1.2.2.1 x.1.2.2.2.1 x.1.2.2.2.2.1 x.2.2.2.2.2.1 x.2.2.2.2.2.2.1 x.2.2.2.2.2.2.2.1 x.2.2.2.2.2.2.2.2.1 x.2.2.2.2.2.2.2.2.2.1 x.2.2.2.2.2.2.2.2.2.2.1 x.2.2.2.2.2.2.2.2.2.2.2.1) (fun z => (((), (z.1, z.2.1, z.2.2.1, ()), z.2.2.2.1, z.2.2.2.2.1, z.2.2.2.2.2.1, ()), ((), (), (), (), z.2.2.2.2.2.2.1, z.2.2.2.2.2.2.2.1, z.2.2.2.2.2.2.2.2, ()))) (fun y => (y.1.2.1.1, y.1.2.1.2.1, y.1.2.1.2.2.1, y.1.2.2.1, y.1.2.2.2.1, y.1.2.2.2.2.1, y.2.2.2.2.2.1, y.2.2.2.2.2.2.1, y.2.2.2.2.2.2.2.1)) (fun _ => rfl)
noncomputable def Z3c : Nat → Int → Int → List (Int × Int) → List (List Int) → List Int → List (List Int) → List Int → Int → Int → Option (List (List Int))
 | 0, _, _, _, _, _, _, _, _, _ => none
 | k + 1, b1_0, b1_1, b1_2, o2, o3, o4, v21, v22, v23 =>
  if decide (v23 < v22) = true then if (0 : Int) ≤ v23 then if v23 < (↑(List.length v21) : Int) then if (0 : Int) ≤ shlS (1 : Int) (↑(List.length o2) : Int) then if Int.toNat (shlS (1 : Int) (↑(List.length o2) : Int)) * (8 : Nat) ≤ (281474976710656 : Nat) then if (0 : Int) ≤ v23 then if v23 < (↑(List.length o4) : Int) then if (0 : Int) ≤ v23 then if v23 < (↑(List.length (List.set o4 (Int.toNat v23) (List.replicate (Int.toNat (shlS (1 : Int) (↑(List.length o2) : Int))) (0 : Int)))) : Int) then Option.bind (Z2Z k b1_0 b1_1 b1_2 o2 o3 (List.set o4 (Int.toNat v23) (List.replicate (Int.toNat (shlS (1 : Int) (↑(List.length o2) : Int))) (0 : Int))) v23 (List.getD v21 (Int.toNat v23) (0 : Int)) v21 v22 v23 (↑(List.length (List.getD (List.set o4 (Int.toNat v23) (List.replicate (Int.toNat (shlS (1 : Int) (↑(List.length o2) : Int))) (0 : Int))) (Int.toNat v23) [])) : Int) (0 : Int)) fun z8 => Z3c k z8.1 z8.2.1 z8.2.2.1 z8.2.2.2.1 z8.2.2.2.2.1 z8.2.2.2.2.2.1 z8.2.2.2.2.2.2.1 z8.2.2.2.2.2.2.2.1 (wrap64 (Prod.snd z8.2.2.2.2.2.2.2 + (1 : Int))) else none else none else none else none else none else none else none else none else some o4
noncomputable def Z9D : Spec := Spec.mk [OSh.ro, OSh.box (26 : Nat) [Sh.int .i64, Sh.int .i64, Sh.snap (0 : Nat) (Ty.pair (Ty.int .i64) (Ty.int .i64))], OSh.row true (36 : Nat) (Ty.slice (3 : Nat) (Ty.int .i64)), OSh.row true (3 : Nat) (Ty.int .i64), OSh.row true (36 : Nat) (Ty.slice (3 : Nat) (Ty.int .i64))] [((2 : Nat), TSh.at (Sh.ptr (1 : Nat) (0 : Nat))), ((5 : Nat), TSh.at (Sh.sl (2 : Nat))), ((6 : Nat), TSh.at (Sh.sl (3 : Nat))), ((7 : Nat), TSh.at (Sh.sl (4 : Nat))), ((21 : Nat), TSh.at (Sh.snap (0 : Nat) (Ty.int .i64))), ((22 : Nat), TSh.at (Sh.int .i64)), ((23 : Nat), TSh.at (Sh.int .i64))]
noncomputable def ZmD : Spec := Spec.mk [OSh.ro, OSh.row true (36 : Nat) (Ty.slice (3 : Nat) (Ty.int .i64))] [((7 : Nat), TSh.at (Sh.sl (1 : Nat)))]
noncomputable def Z2x : LoopDef (Tup Z1F × OutD) := .plain Z9D ZmD (List (List Int)) (fun k x => Z3c k x.1.2.1.1 x.1.2.1.2.1 x.1.2.1.2.2.1 x.1.2.2.1 x.1.2.2.2.1 x.1.2.2.2.2.1 x.2.2.2.2.2.1 x.2.2.2.2.2.2.1 x.2.2.2.2.2.2.2.1) (fun z => (((), z, ()), ((), ()))) (fun y => (y.1.2.1)) (fun _ => rfl)
noncomputable def Z2P : Nat → Int × Int × List (Int × Int) → List Int → Option (List (List Int))
 | 0, _, _ => none
 | k + 1, p0, p1 =>
  Option.bind (Z4H k (Prod.fst p0, Prod.fst p0.2, Prod.snd p0.2)) fun z0 => Option.bind (Z2R k (Prod.fst p0, Prod.fst p0.2, Prod.snd p0.2)) fun z1 => if Int.toNat (↑(List.length p1) : Int) * (24 : Nat) ≤ (281474976710656 : Nat) then Option.bind (Z3c k p0.1 p0.2.1 p0.2.2 z0 z1 (List.replicate (Int.toNat (↑(List.length p1) : Int)) []) p1 (↑(List.length p1) : Int) (0 : Int)) fun z9 => some z9 else none
noncomputable def ZD : FnDef := .of Zgk Z1F (List (List Int)) (fun k x => Z2P k x.1 x.2.1) Zfl Zfz Zl3
noncomputable def Z45 : Code := Try.f42.body.getD .skip
noncomputable def Zr : Ctx (Tup Z1F × OutD) := { T := T, G := [(63, Z1h.E), (56, ZE.E), (54, Z11.E), (80, Z3F.E), (79, Z3J.E), (55, Z4U.E), (40, Z1m.E)], mvs := [86], no := 0, n := 90, res := resOf T Zgk Z1F Try.f42.results.toList, loops := [(4, Z2z.E), (2, Z2p.E), (0, Z2x.E)], regs := [], conds := [], cuts := [] }
theorem Z8y (k : Nat) : EnvOK Try.prog k Zr.G := (EnvOK.cons (Zar k) (EnvOK.cons (Z8I k) (EnvOK.cons (Zb8 k) (EnvOK.cons (Zp2 k) (EnvOK.cons (ZoU k) (EnvOK.cons (Znn k) (EnvOK.cons (Zcc k) (EnvOK.nil mixed))))))))
noncomputable def Z6m : Code := (findLoop 4 Z45).getD .skip
theorem Zmz (k : Nat) (x : Z9S.D) : Z2z.lp (k + 1) x = loopK Zr Z2z 4 Z6m k x := by kernel_rfl
theorem Zns (k : Nat) : LOK Try.prog Zr k Z6m := LOK.by [] (by kernel_rfl) AllOK.nil
theorem Zn5 (x : Z9S.D) : Z2z.lp 0 x = none := by kernel_rfl
theorem ZkU (k : Nat) : EOK Try.prog Zr k Z2z.E (.block 4 (.loop Z6m)) := Z5 T_ok Z8y Zn5 Zmz Zns k
noncomputable def Z6q : Code := (findLoop 2 Z45).getD .skip
theorem ZmR (k : Nat) (x : Z9E.D) : Z2p.lp (k + 1) x = loopK Zr Z2p 2 Z6q k x := by kernel_rfl
theorem Zna (k : Nat) : LOK Try.prog Zr k Z6q := LOK.by [(Z2z.E, .block 4 (.loop Z6m))] (by kernel_rfl) (AllOK.cons (ZkU k) AllOK.nil)
theorem Znm (x : Z9E.D) : Z2p.lp 0 x = none := by kernel_rfl
theorem ZkV (k : Nat) : EOK Try.prog Zr k Z2p.E (.block 2 (.loop Z6q)) := Z5 T_ok Z8y Znm ZmR Zna k
noncomputable def Z6u : Code := (findLoop 0 Z45).getD .skip
theorem ZmA (k : Nat) (x : Z9D.D) : Z2x.lp (k + 1) x = loopK Zr Z2x 0 Z6u k x := by kernel_rfl
theorem Zn4 (k : Nat) : LOK Try.prog Zr k Z6u := LOK.by [(Z2p.E, .block 2 (.loop Z6q))] (by kernel_rfl) (AllOK.cons (ZkV k) AllOK.nil)
theorem Znz (x : Z9D.D) : Z2x.lp 0 x = none := by kernel_rfl
theorem ZkK (k : Nat) : EOK Try.prog Zr k Z2x.E (.block 0 (.loop Z6u)) := Z5 T_ok Z8y Znz ZmA Zn4 k
theorem Zrj (k : Nat) (x : Tup ZD.ps) : ZD.f (k + 1) x = fnK ZD Zr Z45 k x := by kernel_rfl
theorem Zrm (x : Tup ZD.ps) : ZD.f 0 x = none := by kernel_rfl
theorem ZqW (k : Nat) : LOK Try.prog Zr k Z45 := LOK.by [(Z2x.E, .block 0 (.loop Z6u))] (by kernel_rfl) (AllOK.cons (ZkK k) AllOK.nil)
theorem Z8E (k : Nat) : SoundAt Try.prog k 42 ZD.E := @Z1 Try.prog ZD Zr 42 Try.f42 Z45 (by kernel_rfl) (by kernel_rfl) (by kernel_rfl) Try.func42 (by kernel_rfl) (by kernel_rfl) (by kernel_rfl) T_ok Z8y ZqW Zrm Zrj k
noncomputable def Z5L : List PK := [PK.mk (Ty.pair (Ty.int .i64) (Ty.pair (Ty.int .i64) (Ty.slice (71 : Nat) (Ty.pair (Ty.int .i64) (Ty.int .i64))))) true none false none, PK.mk Ty.bool false none false none]
noncomputable def ZgK : List PK := [PK.mk (Ty.pair (Ty.int .i64) (Ty.pair (Ty.int .i64) (Ty.slice (71 : Nat) (Ty.pair (Ty.int .i64) (Ty.int .i64))))) true none false none, PK.mk (Ty.int .i64) false none false none]
noncomputable def Zg6 (r : (Int × Int × List (Int × Int)) × Bool) : Tup Z5L × OutD := ((r.1, r.2, ()), none)
noncomputable def Zg0 : Tup Z5L × OutD → Option ((Int × Int × List (Int × Int)) × Bool)
 | (a, none) => some (a.1, a.2.1)
 | _ => none
theorem Zky : ∀ b r, Zg0 b = some r → Zg6 r = b := by
 rintro ⟨a, o⟩ r h
 cases o with
 | none => injection h with h; subst h; rfl
 | some _ => cases h
noncomputable def Z5R : Nat → Int × Int × List (Int × Int) → Int → Option ((Int × Int × List (Int × Int)) × Bool)
 | 0, _, _ => none
 | k + 1, p0, p1 =>
  Option.bind (Z4s k (Prod.fst p0, Prod.fst p0.2, Prod.snd p0.2)) fun z0 => if (!z0) = true then some (((0 : Int), (0 : Int), []), false) else Option.bind (Z4H k (Prod.fst p0, Prod.fst p0.2, Prod.snd p0.2)) fun z1 => if decide ((↑(List.length z1) : Int) > (16 : Int)) = true then some (((0 : Int), (0 : Int), []), false) else if decide (p1 < (0 : Int)) = true then some (((0 : Int), (0 : Int), []), false) else if decide (p1 ≥ shlS (1 : Int) (↑(List.length z1) : Int)) = true then some (((0 : Int), (0 : Int), []), false) else Option.bind (Z4p k (Prod.fst p0, Prod.fst p0.2, Prod.snd p0.2)) fun z2 => Option.bind (ZaM k p1 (↑(List.length z1) : Int)) fun z3 => Option.bind (Zaq k (Prod.fst z2, Prod.fst z2.2, Prod.snd z2.2) z1 z3) fun z4 => some ((Prod.fst z2, Prod.fst z2.2, z4), true)
noncomputable def Z16 : FnDef := .of ZgK Z5L ((Int × Int × List (Int × Int)) × Bool) (fun k x => Z5R k x.1 x.2.1) Zg6 Zg0 Zky
noncomputable def ZbV : Code := Try.f43.body.getD .skip
noncomputable def Z8O : Ctx (Tup Z5L × OutD) := { T := T, G := [(51, Z1g.E), (63, Z1h.E), (54, Z11.E), (80, Z3F.E), (79, Z3J.E)], mvs := [], no := 0, n := 39, res := resOf T ZgK Z5L Try.f43.results.toList, loops := [], regs := [], conds := [], cuts := [] }
theorem ZrG (k : Nat) : EnvOK Try.prog k Z8O.G := (EnvOK.cons (Zau k) (EnvOK.cons (Zar k) (EnvOK.cons (Zb8 k) (EnvOK.cons (Zp2 k) (EnvOK.cons (ZoU k) (EnvOK.nil mixed))))))
theorem Zro (k : Nat) (x : Tup Z16.ps) : Z16.f (k + 1) x = fnK Z16 Z8O ZbV k x := by kernel_rfl
theorem ZrM (x : Tup Z16.ps) : Z16.f 0 x = none := by kernel_rfl
theorem ZrB (k : Nat) : LOK Try.prog Z8O k ZbV := LOK.by [] (by kernel_rfl) AllOK.nil
theorem Zgw (k : Nat) : SoundAt Try.prog k 43 Z16.E := @Z1 Try.prog Z16 Z8O 43 Try.f43 ZbV (by kernel_rfl) (by kernel_rfl) (by kernel_rfl) Try.func43 (by kernel_rfl) (by kernel_rfl) (by kernel_rfl) T_ok ZrG ZrB ZrM Zro k
noncomputable def ZaC : List PK := [PK.mk Ty.bool false none false none]
noncomputable def Zpe : List PK := [PK.mk (Ty.pair (Ty.int .i64) (Ty.pair (Ty.int .i64) (Ty.slice (71 : Nat) (Ty.pair (Ty.int .i64) (Ty.int .i64))))) true none false none]
noncomputable def Zlx (r : Bool) : Tup ZaC × OutD := ((r, ()), none)
noncomputable def ZlE : Tup ZaC × OutD → Option (Bool)
 | (a, none) => some (a.1)
 | _ => none
theorem Zu5 : ∀ b r, ZlE b = some r → Zlx r = b := by
 rintro ⟨a, o⟩ r h
 cases o with
 | none => injection h with h; subst h; rfl
 | some _ => cases h
noncomputable def Zdd : Nat → Int × Int × List (Int × Int) → Option Bool
 | 0, _ => none
 | k + 1, p0 =>
  Option.bind (Z8Z k (Prod.fst p0, Prod.fst p0.2, Prod.snd p0.2)) fun z0 => if z0 = true then Option.bind (Z3H k (Prod.fst p0, Prod.fst p0.2, Prod.snd p0.2)) fun z1 => some (decide ((↑(List.length z1) : Int) ≤ (16 : Int))) else some false
noncomputable def Z4F : FnDef := .of Zpe ZaC (Bool) (fun k x => Zdd k x.1) Zlx ZlE Zu5
noncomputable def Zh0 : Code := Try.f52.body.getD .skip
noncomputable def Zdb : Ctx (Tup ZaC × OutD) := { T := T, G := [(86, Z3u.E), (81, ZZ.E)], mvs := [], no := 0, n := 11, res := resOf T Zpe ZaC Try.f52.results.toList, loops := [], regs := [], conds := [], cuts := [] }
theorem Zzw (k : Nat) : EnvOK Try.prog k Zdb.G := (EnvOK.cons (Zie k) (EnvOK.cons (Z8f k) (EnvOK.nil mixed)))
theorem Zzk (k : Nat) (x : Tup Z4F.ps) : Z4F.f (k + 1) x = fnK Z4F Zdb Zh0 k x := by kernel_rfl
theorem ZzD (x : Tup Z4F.ps) : Z4F.f 0 x = none := by kernel_rfl
theorem ZA2 (k : Nat) : LOK Try.prog Zdb k Zh0 := LOK.by [] (by kernel_rfl) AllOK.nil
theorem Zzh (k : Nat) : SoundAt Try.prog k 52 Z4F.E := @Z1 Try.prog Z4F Zdb 52 Try.f52 Zh0 (by kernel_rfl) (by kernel_rfl) (by kernel_rfl) Try.func52 (by kernel_rfl) (by kernel_rfl) (by kernel_rfl) T_ok Zzw ZA2 ZzD Zzk k
noncomputable def Z7I : List PK := [PK.mk Ty.bool false none false none]
noncomputable def ZiS : List PK := [PK.mk (Ty.pair (Ty.int .i64) (Ty.pair (Ty.int .i64) (Ty.slice (71 : Nat) (Ty.pair (Ty.int .i64) (Ty.int .i64))))) true none false none, PK.mk (Ty.int .i64) false none false none]
noncomputable def ZhL (r : Bool) : Tup Z7I × OutD := ((r, ()), none)
noncomputable def ZhA : Tup Z7I × OutD → Option (Bool)
 | (a, none) => some (a.1)
 | _ => none
theorem Zop : ∀ b r, ZhA b = some r → ZhL r = b := by
 rintro ⟨a, o⟩ r h
 cases o with
 | none => injection h with h; subst h; rfl
 | some _ => cases h
noncomputable def Z7K : Nat → Int × Int × List (Int × Int) → Int → Option Bool
 | 0, _, _ => none
 | k + 1, p0, p1 =>
  Option.bind (Z4s k (Prod.fst p0, Prod.fst p0.2, Prod.snd p0.2)) fun z0 => if z0 = true then if decide (p1 ≥ (0 : Int)) = true then some (decide (p1 < Prod.fst p0.2)) else some false else some false
noncomputable def Z1Q : FnDef := .of ZiS Z7I (Bool) (fun k x => Z7K k x.1 x.2.1) ZhL ZhA Zop
noncomputable def ZdL : Code := Try.f53.body.getD .skip
noncomputable def Z9Z : Ctx (Tup Z7I × OutD) := { T := T, G := [(51, Z1g.E)], mvs := [], no := 0, n := 17, res := resOf T ZiS Z7I Try.f53.results.toList, loops := [], regs := [], conds := [], cuts := [] }
theorem ZvH (k : Nat) : EnvOK Try.prog k Z9Z.G := (EnvOK.cons (Zau k) (EnvOK.nil mixed))
theorem Zuu (k : Nat) (x : Tup Z1Q.ps) : Z1Q.f (k + 1) x = fnK Z1Q Z9Z ZdL k x := by kernel_rfl
theorem ZuD (x : Tup Z1Q.ps) : Z1Q.f 0 x = none := by kernel_rfl
theorem ZvR (k : Nat) : LOK Try.prog Z9Z k ZdL := LOK.by [] (by kernel_rfl) AllOK.nil
theorem Zir (k : Nat) : SoundAt Try.prog k 53 Z1Q.E := @Z1 Try.prog Z1Q Z9Z 53 Try.f53 ZdL (by kernel_rfl) (by kernel_rfl) (by kernel_rfl) Try.func53 (by kernel_rfl) (by kernel_rfl) (by kernel_rfl) T_ok ZvH ZvR ZuD Zuu k
noncomputable def Z8q : List PK := [PK.mk Ty.bool false none false none]
noncomputable def Zkm : List PK := [PK.mk (Ty.pair (Ty.int .i64) (Ty.pair (Ty.int .i64) (Ty.slice (71 : Nat) (Ty.pair (Ty.int .i64) (Ty.int .i64))))) true none false none, PK.mk (Ty.slice (3 : Nat) (Ty.int .i64)) false none false none]
noncomputable def Ziz (r : Bool) : Tup Z8q × OutD := ((r, ()), none)
noncomputable def ZiL : Tup Z8q × OutD → Option (Bool)
 | (a, none) => some (a.1)
 | _ => none
theorem Zpn : ∀ b r, ZiL b = some r → Ziz r = b := by
 rintro ⟨a, o⟩ r h
 cases o with
 | none => injection h with h; subst h; rfl
 | some _ => cases h
noncomputable def Z4o : Nat → Int × Int × List (Int × Int) → List Int → Option Bool
 | 0, _, _ => none
 | k + 1, p0, p1 =>
  Option.bind (Z8Z k (Prod.fst p0, Prod.fst p0.2, Prod.snd p0.2)) fun z0 => if z0 = true then if decide ((↑(List.length p1) : Int) ≤ (60 : Int)) = true then Option.bind (ZcN k p1 (0 : Int) (wrap64 (Prod.fst p0.2 - (1 : Int)))) fun z1 => some z1 else some false else some false
noncomputable def Z3i : FnDef := .of Zkm Z8q (Bool) (fun k x => Z4o k x.1 x.2.1) Ziz ZiL Zpn
noncomputable def ZeF : Code := Try.f61.body.getD .skip
noncomputable def ZaX : Ctx (Tup Z8q × OutD) := { T := T, G := [(86, Z3u.E), (64, Z54.E)], mvs := [], no := 0, n := 19, res := resOf T Zkm Z8q Try.f61.results.toList, loops := [], regs := [], conds := [], cuts := [] }
theorem ZwS (k : Nat) : EnvOK Try.prog k ZaX.G := (EnvOK.cons (Zie k) (EnvOK.cons (ZsH k) (EnvOK.nil mixed)))
theorem ZxF (k : Nat) (x : Tup Z3i.ps) : Z3i.f (k + 1) x = fnK Z3i ZaX ZeF k x := by kernel_rfl
theorem Zxb (x : Tup Z3i.ps) : Z3i.f 0 x = none := by kernel_rfl
theorem ZwJ (k : Nat) : LOK Try.prog ZaX k ZeF := LOK.by [] (by kernel_rfl) AllOK.nil
theorem ZxU (k : Nat) : SoundAt Try.prog k 61 Z3i.E := @Z1 Try.prog Z3i ZaX 61 Try.f61 ZeF (by kernel_rfl) (by kernel_rfl) (by kernel_rfl) Try.func61 (by kernel_rfl) (by kernel_rfl) (by kernel_rfl) T_ok ZwS ZwJ Zxb ZxF k
noncomputable def Z8p : List PK := [PK.mk (Ty.slice (75 : Nat) (Ty.pair (Ty.int .i64) (Ty.pair (Ty.int .i64) (Ty.int .i64)))) false none false none, PK.mk (Ty.pair (Ty.int .i64) (Ty.pair (Ty.int .i64) (Ty.slice (71 : Nat) (Ty.pair (Ty.int .i64) (Ty.int .i64))))) true none false none]
noncomputable def Ztv : List PK := [PK.mk (Ty.pair (Ty.int .i64) (Ty.pair (Ty.int .i64) (Ty.slice (71 : Nat) (Ty.pair (Ty.int .i64) (Ty.int .i64))))) true none false none, PK.mk (Ty.slice (3 : Nat) (Ty.int .i64)) false none false none]
noncomputable def ZqL (r : List (Int × Int × Int) × Int × Int × List (Int × Int)) : Tup Z8p × OutD := ((r.1, r.2, ()), none)
noncomputable def Zqh : Tup Z8p × OutD → Option (List (Int × Int × Int) × Int × Int × List (Int × Int))
 | (a, none) => some (a.1, a.2.1)
 | _ => none
theorem ZxS : ∀ b r, Zqh b = some r → ZqL r = b := by
 rintro ⟨a, o⟩ r h
 cases o with
 | none => injection h with h; subst h; rfl
 | some _ => cases h
noncomputable def Z5a : Nat → Int → Int → List (Int × Int) → Int → Int → List (Int × Int) → List Int → Option (Int × Int × List (Int × Int) × Int × Int × List (Int × Int) × List Int × List Int) := fun k b1_0 b1_1 b1_2 b2_0 b2_1 o3 v1 =>
    Option.bind (Z58 k (b1_0, b1_1, b1_2)) fun z0 => Option.bind (ZF k (b1_0, b1_1, b1_2)) fun z1 => some (b2_0, b2_1, o3, Prod.fst z0, Prod.fst z0.2, Prod.snd z0.2, z1, v1)
noncomputable def Zbv : Nat → Int → Int → List (Int × Int) → Int → Int → List (Int × Int) → List Int → Option (List (Int × Int × List (Int × Int) × Int × Int × List (Int × Int) × List Int × List Int)) := fun k b1_0 b1_1 b1_2 b2_0 b2_1 o3 v1 =>
    joinL (Option.bind (Z58 k (b1_0, b1_1, b1_2)) fun z2 => joinL (Option.bind (ZF k (b1_0, b1_1, b1_2)) fun z3 => some [(b2_0, b2_1, o3, Prod.fst z2, Prod.fst z2.2, Prod.snd z2.2, z3, v1)]) (Option.bind (ZF k (b1_0, b1_1, b1_2)) fun z4 => some [(b2_0, b2_1, o3, Prod.fst z2, Prod.fst z2.2, Prod.snd z2.2, z4, v1)])) (Option.bind (Z58 k (b1_0, b1_1, b1_2)) fun z5 => Option.bind (ZF k (b1_0, b1_1, b1_2)) fun z6 => some [(b2_0, b2_1, o3, Prod.fst z5, Prod.fst z5.2, Prod.snd z5.2, z6, v1)])
noncomputable def Zkg : Spec := Spec.mk [OSh.ro, OSh.box (26 : Nat) [Sh.int .i64, Sh.int .i64, Sh.snap (0 : Nat) (Ty.pair (Ty.int .i64) (Ty.int .i64))], OSh.box (26 : Nat) [Sh.int .i64, Sh.int .i64, Sh.sl (3 : Nat)], OSh.row true (71 : Nat) (Ty.pair (Ty.int .i64) (Ty.int .i64))] [((1 : Nat), TSh.at (Sh.snap (0 : Nat) (Ty.int .i64))), ((2 : Nat), TSh.at (Sh.ptr (1 : Nat) (0 : Nat))), ((5 : Nat), TSh.at (Sh.ptr (2 : Nat) (0 : Nat)))]
noncomputable def Zxf : Spec := Spec.mk [OSh.ro, OSh.box (26 : Nat) [Sh.int .i64, Sh.int .i64, Sh.sl (2 : Nat)], OSh.row true (71 : Nat) (Ty.pair (Ty.int .i64) (Ty.int .i64)), OSh.box (26 : Nat) [Sh.int .i64, Sh.int .i64, Sh.sl (4 : Nat)], OSh.row true (71 : Nat) (Ty.pair (Ty.int .i64) (Ty.int .i64)), OSh.row true (3 : Nat) (Ty.int .i64)] [((1 : Nat), TSh.at (Sh.snap (0 : Nat) (Ty.int .i64))), ((5 : Nat), TSh.at (Sh.ptr (1 : Nat) (0 : Nat))), ((6 : Nat), TSh.at (Sh.ptr (3 : Nat) (0 : Nat))), ((7 : Nat), TSh.at (Sh.sl (5 : Nat)))]
noncomputable def Z60 : LoopDef (Tup Z8p × OutD) := .plain Zkg Zxf (Int × Int × List (Int × Int) × Int × Int × List (Int × Int) × List Int × List Int) (fun k x => Z5a k x.1.2.1.1 x.1.2.1.2.1 x.1.2.1.2.2.1 x.1.2.2.1.1 x.1.2.2.1.2.1 x.1.2.2.2.1 x.2.1) (fun z => (((), (z.1, z.2.1, (), ()), z.2.2.1, (z.2.2.2.1, z.2.2.2.2.1, (), ()), z.2.2.2.2.2.1, z.2.2.2.2.2.2.1, ()), (z.2.2.2.2.2.2.2, (), (), (), ()))) (fun y => (y.1.2.1.1, y.1.2.1.2.1, y.1.2.2.1, y.1.2.2.2.1.1, y.1.2.2.2.1.2.1, y.1.2.2.2.2.1, y.1.2.2.2.2.2.1, y.2.1)) (fun _ => rfl)
theorem Zxv (k : Nat) (b1_0 : Int) (b1_1 : Int) (b1_2 : List (Int × Int)) (b2_0 : Int) (b2_1 : Int) (o3 : List (Int × Int)) (v1 : List Int) : Zbv k b1_0 b1_1 b1_2 b2_0 b2_1 o3 v1 = repl 3 (Z5a k b1_0 b1_1 b1_2 b2_0 b2_1 o3 v1) := by
 first
 | (simp only [Zbv, Z5a, Zi, Zt, Zk, Zj, Zl, Z3, if_true]; done)
 | (simp only [Zbv, Z5a, Zi, Zt, Zk, Zj, Zl, Z3, if_true]; simp only [Z1K, Z1L, Z3L, Z3]; simp only [Z5k]; exact Z2N ⟨fun h => by simp only [h, and_self], fun h => by simp only [h, and_self]⟩)
noncomputable def Z88 : Nat → Int → Int → List (Int × Int) → Int → Int → List (Int × Int) → List Int → List (Int × Int × Int) → List Int → Int → Int → Option (Int × Int × List (Int × Int) × Int × Int × List (Int × Int) × List (Int × Int × Int))
 | 0, _, _, _, _, _, _, _, _, _, _, _ => none
 | k + 1, b1_0, b1_1, o2, b3_0, b3_1, o4, o5, o6, v18, v19, v20 =>
  if decide (v20 < v19) = true then if (0 : Int) ≤ v20 then if v20 < (↑(List.length v18) : Int) then Option.bind (Z1d k (b3_0, b3_1, o4) o5 (List.getD v18 (Int.toNat v20) (0 : Int))) fun z8 => if List.length o6 + List.length [(Prod.fst z8.1, Prod.fst z8.1.2, Prod.snd z8.1.2)] ≤ (140737488355328 / 24 : Nat) then Z88 k b1_0 b1_1 o2 z8.2.1.1 z8.2.1.2.1 z8.2.1.2.2 o5 (o6 ++ [(Prod.fst z8.1, Prod.fst z8.1.2, Prod.snd z8.1.2)]) v18 v19 (wrap64 (v20 + (1 : Int))) else none else none else none else some (b1_0, b1_1, o2, b3_0, b3_1, o4, o6)
noncomputable def Zfk : Spec := Spec.mk [OSh.ro, OSh.box (26 : Nat) [Sh.int .i64, Sh.int .i64, Sh.sl (2 : Nat)], OSh.row true (71 : Nat) (Ty.pair (Ty.int .i64) (Ty.int .i64)), OSh.box (26 : Nat) [Sh.int .i64, Sh.int .i64, Sh.sl (4 : Nat)], OSh.row true (71 : Nat) (Ty.pair (Ty.int .i64) (Ty.int .i64)), OSh.row true (3 : Nat) (Ty.int .i64), OSh.row true (75 : Nat) (Ty.pair (Ty.int .i64) (Ty.pair (Ty.int .i64) (Ty.int .i64)))] [((5 : Nat), TSh.at (Sh.ptr (1 : Nat) (0 : Nat))), ((6 : Nat), TSh.at (Sh.ptr (3 : Nat) (0 : Nat))), ((7 : Nat), TSh.at (Sh.sl (5 : Nat))), ((8 : Nat), TSh.at (Sh.sl (6 : Nat))), ((18 : Nat), TSh.at (Sh.snap (0 : Nat) (Ty.int .i64))), ((19 : Nat), TSh.at (Sh.int .i64)), ((20 : Nat), TSh.at (Sh.int .i64))]
noncomputable def ZyX : Spec := Spec.mk [OSh.ro, OSh.box (26 : Nat) [Sh.int .i64, Sh.int .i64, Sh.sl (2 : Nat)], OSh.row true (71 : Nat) (Ty.pair (Ty.int .i64) (Ty.int .i64)), OSh.box (26 : Nat) [Sh.int .i64, Sh.int .i64, Sh.sl (4 : Nat)], OSh.row true (71 : Nat) (Ty.pair (Ty.int .i64) (Ty.int .i64)), OSh.row true (75 : Nat) (Ty.pair (Ty.int .i64) (Ty.pair (Ty.int .i64) (Ty.int .i64)))] [((5 : Nat), TSh.at (Sh.ptr (1 : Nat) (0 : Nat))), ((6 : Nat), TSh.at (Sh.ptr (3 : Nat) (0 : Nat))), ((8 : Nat), TSh.at (Sh.sl (5 : Nat)))]
noncomputable def Z7o : LoopDef (Tup Z8p × OutD) := .plain Zfk ZyX (Int × Int × List (Int × Int) × Int × Int × List (Int × Int) × List (Int × Int × Int)) (fun k x => Z88 k x.1.2.1.1 x.1.2.1.2.1 x.1.2.2.1 x.1.2.2.2.1.1 x.1.2.2.2.1.2.1 x.1.2.2.2.2.1 x.1.2.2.2.2.2.1 x.1.2.2.2.2.2.2.1 x.2.2.2.2.2.1 x.2.2.2.2.2.2.1 x.2.2.2.2.2.2.2.1) (fun z => (((), (z.1, z.2.1, (), ()), z.2.2.1, (z.2.2.2.1, z.2.2.2.2.1, (), ()), z.2.2.2.2.2.1, z.2.2.2.2.2.2, ()), ((), (), (), ()))) (fun y => (y.1.2.1.1, y.1.2.1.2.1, y.1.2.2.1, y.1.2.2.2.1.1, y.1.2.2.2.1.2.1, y.1.2.2.2.2.1, y.1.2.2.2.2.2.1)) (fun _ => rfl)
noncomputable def Z8u : Nat → Int × Int × List (Int × Int) → List Int → Option (List (Int × Int × Int) × Int × Int × List (Int × Int))
 | 0, _, _ => none
 | k + 1, p0, p1 =>
  Option.bind (Z5a k p0.1 p0.2.1 p0.2.2 (0 : Int) (0 : Int) [] p1) fun z7 => Option.bind (Z88 k z7.1 z7.2.1 z7.2.2.1 z7.2.2.2.1 z7.2.2.2.2.1 z7.2.2.2.2.2.1 z7.2.2.2.2.2.2.1 [] z7.2.2.2.2.2.2.2 (↑(List.length z7.2.2.2.2.2.2.2) : Int) (0 : Int)) fun z9 => some (Prod.snd z9.2.2.2.2.2, Prod.fst z9.2.2.2, Prod.fst z9.2.2.2.2, Prod.fst z9.2.2.2.2.2)
noncomputable def Z6R : FnDef := .of Ztv Z8p (List (Int × Int × Int) × Int × Int × List (Int × Int)) (fun k x => Z8u k x.1 x.2.1) ZqL Zqh ZxS
noncomputable def Zcr : Code := Try.f62.body.getD .skip
noncomputable def Z1X : Ctx (Tup Z8p × OutD) := { T := T, G := [(65, Z3m.E), (92, Z1Z.E), (93, Z6y.E)], mvs := [], no := 0, n := 40, res := resOf T Ztv Z8p Try.f62.results.toList, loops := [(0, Z7o.E)], regs := [(1, Z60.E)], conds := [], cuts := [] }
theorem Zjz (k : Nat) : EnvOK Try.prog k Z1X.G := (EnvOK.cons (ZfO k) (EnvOK.cons (ZfQ k) (EnvOK.cons (Zwm k) (EnvOK.nil mixed))))
noncomputable def ZeC : Array Oper := (findReg 1 Zcr).getD #[]
theorem ZwH (k : Nat) (x : Zkg.D) : execD Z1X.T Z1X.G Z1X.mvs k ZeC (Z60.inp.st Z1X.n x) (outK Z1X Z60) = Zbv k x.1.2.1.1 x.1.2.1.2.1 x.1.2.1.2.2.1 x.1.2.2.1.1 x.1.2.2.1.2.1 x.1.2.2.2.1 x.2.1 := by kernel_rfl
theorem Zuv (k : Nat) : EOK Try.prog Z1X k Z60.E (.region 1 ZeC true) := Z7N (D := Z60) (m := 3) T_ok (Zjz k) (fun x => (ZwH k x).trans (Zxv k x.1.2.1.1 x.1.2.1.2.1 x.1.2.1.2.2.1 x.1.2.2.1.1 x.1.2.2.1.2.1 x.1.2.2.2.1 x.2.1))
noncomputable def Zcb : Code := (findLoop 0 Zcr).getD .skip
theorem Zyp (k : Nat) (x : Zfk.D) : Z7o.lp (k + 1) x = loopK Z1X Z7o 0 Zcb k x := by kernel_rfl
theorem Zyd (k : Nat) : LOK Try.prog Z1X k Zcb := LOK.by [] (by kernel_rfl) AllOK.nil
theorem Zz7 (x : Zfk.D) : Z7o.lp 0 x = none := by kernel_rfl
theorem ZxD (k : Nat) : EOK Try.prog Z1X k Z7o.E (.block 0 (.loop Zcb)) := Z5 T_ok Zjz Zz7 Zyp Zyd k
theorem ZCm (k : Nat) (x : Tup Z6R.ps) : Z6R.f (k + 1) x = fnK Z6R Z1X Zcr k x := by kernel_rfl
theorem ZCA (x : Tup Z6R.ps) : Z6R.f 0 x = none := by kernel_rfl
theorem ZCF (k : Nat) : LOK Try.prog Z1X k Zcr := LOK.by [(Z60.E, .region 1 ZeC true), (Z7o.E, .block 0 (.loop Zcb))] (by kernel_rfl) (AllOK.cons (Zuv k) (AllOK.cons (ZxD k) AllOK.nil))
theorem ZCJ (k : Nat) : SoundAt Try.prog k 62 Z6R.E := @Z1 Try.prog Z6R Z1X 62 Try.f62 Zcr (by kernel_rfl) (by kernel_rfl) (by kernel_rfl) Try.func62 (by kernel_rfl) (by kernel_rfl) (by kernel_rfl) T_ok Zjz ZCF ZCA ZCm k
noncomputable def Z46 : List PK := [PK.mk Ty.bool false none false none]
noncomputable def ZgJ : List PK := [PK.mk (Ty.pair (Ty.int .i64) (Ty.pair (Ty.int .i64) (Ty.slice (71 : Nat) (Ty.pair (Ty.int .i64) (Ty.int .i64))))) true none false none, PK.mk (Ty.slice (3 : Nat) (Ty.int .i64)) false none false none]
noncomputable def Zbs (r : Bool) : Tup Z46 × OutD := ((r, ()), none)
noncomputable def Zbp : Tup Z46 × OutD → Option (Bool)
 | (a, none) => some (a.1)
 | _ => none
theorem Zdp : ∀ b r, Zbp b = some r → Zbs r = b := by
 rintro ⟨a, o⟩ r h
 cases o with
 | none => injection h with h; subst h; rfl
 | some _ => cases h
noncomputable def Z3f : Nat → Int → Int → List (Int × Int) → List Int → Int → Int → Option (LR Unit Bool)
 | 0, _, _, _, _, _, _ => none
 | k + 1, b1_0, b1_1, b1_2, v15, v16, v17 =>
  if decide (v17 < v16) = true then if (0 : Int) ≤ v17 then if v17 < (↑(List.length v15) : Int) then if decide (List.getD v15 (Int.toNat v17) (0 : Int) < (0 : Int)) = true then some (LR.ret false) else if decide (List.getD v15 (Int.toNat v17) (0 : Int) ≥ b1_1) = true then some (LR.ret false) else Z3f k b1_0 b1_1 b1_2 v15 v16 (wrap64 (v17 + (1 : Int))) else none else none else some (LR.go ())
noncomputable def Z9G : Spec := Spec.mk [OSh.ro, OSh.box (26 : Nat) [Sh.int .i64, Sh.int .i64, Sh.snap (0 : Nat) (Ty.pair (Ty.int .i64) (Ty.int .i64))]] [((2 : Nat), TSh.at (Sh.ptr (1 : Nat) (0 : Nat))), ((15 : Nat), TSh.at (Sh.snap (0 : Nat) (Ty.int .i64))), ((16 : Nat), TSh.at (Sh.int .i64)), ((17 : Nat), TSh.at (Sh.int .i64))]
noncomputable def Znw : Spec := Spec.mk [OSh.ro] []
noncomputable def Z2w : LoopDef (Tup Z46 × OutD) := .rets Z9G Znw (Unit) (Bool) (fun k x => Z3f k x.1.2.1.1 x.1.2.1.2.1 x.1.2.1.2.2.1 x.2.2.1 x.2.2.2.1 x.2.2.2.2.1) (fun z => (((), ()), (()))) (fun y => ()) (fun _ => rfl) Zbs Zbp Zdp
noncomputable def Z8L : Nat → Int × Int × List (Int × Int) → List Int → Option Bool
 | 0, _, _ => none
 | k + 1, p0, p1 =>
  Option.bind (Z4s k (Prod.fst p0, Prod.fst p0.2, Prod.snd p0.2)) fun z0 => if (!z0) = true then some false else if decide ((↑(List.length p1) : Int) > (60 : Int)) = true then some false else Option.bind (Z3f k p0.1 p0.2.1 p0.2.2 p1 (↑(List.length p1) : Int) (0 : Int)) fun z1 => LR.on z1 (fun y1 => some true) fun r1 => some r1
noncomputable def Z1H : FnDef := .of ZgJ Z46 (Bool) (fun k x => Z8L k x.1 x.2.1) Zbs Zbp Zdp
noncomputable def Z8F : Code := Try.f66.body.getD .skip
noncomputable def Z2Q : Ctx (Tup Z46 × OutD) := { T := T, G := [(51, Z1g.E)], mvs := [], no := 0, n := 30, res := resOf T ZgJ Z46 Try.f66.results.toList, loops := [(0, Z2w.E)], regs := [], conds := [], cuts := [] }
theorem Zgh (k : Nat) : EnvOK Try.prog k Z2Q.G := (EnvOK.cons (Zau k) (EnvOK.nil mixed))
noncomputable def Z6E : Code := (findLoop 0 Z8F).getD .skip
theorem Zmh (k : Nat) (x : Z9G.D) : Z2w.lp (k + 1) x = loopK Z2Q Z2w 0 Z6E k x := by kernel_rfl
theorem Zn7 (k : Nat) : LOK Try.prog Z2Q k Z6E := LOK.by [] (by kernel_rfl) AllOK.nil
theorem ZlZ (x : Z9G.D) : Z2w.lp 0 x = none := by kernel_rfl
theorem ZkG (k : Nat) : EOK Try.prog Z2Q k Z2w.E (.block 0 (.loop Z6E)) := Z5 T_ok Zgh ZlZ Zmh Zn7 k
theorem ZrC (k : Nat) (x : Tup Z1H.ps) : Z1H.f (k + 1) x = fnK Z1H Z2Q Z8F k x := by kernel_rfl
theorem Zry (x : Tup Z1H.ps) : Z1H.f 0 x = none := by kernel_rfl
theorem Zrd (k : Nat) : LOK Try.prog Z2Q k Z8F := LOK.by [(Z2w.E, .block 0 (.loop Z6E))] (by kernel_rfl) (AllOK.cons (ZkG k) AllOK.nil)
theorem Zrg (k : Nat) : SoundAt Try.prog k 66 Z1H.E := @Z1 Try.prog Z1H Z2Q 66 Try.f66 Z8F (by kernel_rfl) (by kernel_rfl) (by kernel_rfl) Try.func66 (by kernel_rfl) (by kernel_rfl) (by kernel_rfl) T_ok Zgh Zrd Zry ZrC k
noncomputable def Z89 : List PK := [PK.mk (Ty.slice (75 : Nat) (Ty.pair (Ty.int .i64) (Ty.pair (Ty.int .i64) (Ty.int .i64)))) false none false none, PK.mk (Ty.pair (Ty.int .i64) (Ty.pair (Ty.int .i64) (Ty.slice (71 : Nat) (Ty.pair (Ty.int .i64) (Ty.int .i64))))) true none false none]
noncomputable def ZnY : List PK := [PK.mk (Ty.pair (Ty.int .i64) (Ty.pair (Ty.int .i64) (Ty.slice (71 : Nat) (Ty.pair (Ty.int .i64) (Ty.int .i64))))) true none false none, PK.mk (Ty.slice (3 : Nat) (Ty.int .i64)) false none false none]
noncomputable def ZlK (r : List (Int × Int × Int) × Int × Int × List (Int × Int)) : Tup Z89 × OutD := ((r.1, r.2, ()), none)
noncomputable def ZlC : Tup Z89 × OutD → Option (List (Int × Int × Int) × Int × Int × List (Int × Int))
 | (a, none) => some (a.1, a.2.1)
 | _ => none
theorem Zty : ∀ b r, ZlC b = some r → ZlK r = b := by
 rintro ⟨a, o⟩ r h
 cases o with
 | none => injection h with h; subst h; rfl
 | some _ => cases h
noncomputable def Z62 : Nat → Int → Int → List (Int × Int) → Int → Int → List (Int × Int) → List Int → List (Int × Int × Int) → List Int → Int → Int → Option (Int × Int × List (Int × Int) × Int × Int × List (Int × Int) × List (Int × Int × Int))
 | 0, _, _, _, _, _, _, _, _, _, _, _ => none
 | k + 1, b1_0, b1_1, o2, b3_0, b3_1, o4, o5, o6, v18, v19, v20 =>
  if decide (v20 < v19) = true then if (0 : Int) ≤ v20 then if v20 < (↑(List.length v18) : Int) then Option.bind (ZbR k (b3_0, b3_1, o4) o5 (List.getD v18 (Int.toNat v20) (0 : Int))) fun z2 => if List.length o6 + List.length [(Prod.fst z2.1, Prod.fst z2.1.2, Prod.snd z2.1.2)] ≤ (140737488355328 / 24 : Nat) then Z62 k b1_0 b1_1 o2 b3_0 b3_1 z2.2.2 o5 (o6 ++ [(Prod.fst z2.1, Prod.fst z2.1.2, Prod.snd z2.1.2)]) v18 v19 (wrap64 (v20 + (1 : Int))) else none else none else none else some (b1_0, b1_1, o2, b3_0, b3_1, o4, o6)
noncomputable def ZdB : Spec := Spec.mk [OSh.ro, OSh.box (26 : Nat) [Sh.int .i64, Sh.int .i64, Sh.sl (2 : Nat)], OSh.row true (71 : Nat) (Ty.pair (Ty.int .i64) (Ty.int .i64)), OSh.box (26 : Nat) [Sh.int .i64, Sh.int .i64, Sh.sl (4 : Nat)], OSh.row true (71 : Nat) (Ty.pair (Ty.int .i64) (Ty.int .i64)), OSh.row true (3 : Nat) (Ty.int .i64), OSh.row true (75 : Nat) (Ty.pair (Ty.int .i64) (Ty.pair (Ty.int .i64) (Ty.int .i64)))] [((5 : Nat), TSh.at (Sh.ptr (1 : Nat) (0 : Nat))), ((6 : Nat), TSh.at (Sh.ptr (3 : Nat) (0 : Nat))), ((7 : Nat), TSh.at (Sh.sl (5 : Nat))), ((8 : Nat), TSh.at (Sh.sl (6 : Nat))), ((18 : Nat), TSh.at (Sh.snap (0 : Nat) (Ty.int .i64))), ((19 : Nat), TSh.at (Sh.int .i64)), ((20 : Nat), TSh.at (Sh.int .i64))]
noncomputable def Zvx : Spec := Spec.mk [OSh.ro, OSh.box (26 : Nat) [Sh.int .i64, Sh.int .i64, Sh.sl (2 : Nat)], OSh.row true (71 : Nat) (Ty.pair (Ty.int .i64) (Ty.int .i64)), OSh.box (26 : Nat) [Sh.int .i64, Sh.int .i64, Sh.sl (4 : Nat)], OSh.row true (71 : Nat) (Ty.pair (Ty.int .i64) (Ty.int .i64)), OSh.row true (75 : Nat) (Ty.pair (Ty.int .i64) (Ty.pair (Ty.int .i64) (Ty.int .i64)))] [((5 : Nat), TSh.at (Sh.ptr (1 : Nat) (0 : Nat))), ((6 : Nat), TSh.at (Sh.ptr (3 : Nat) (0 : Nat))), ((8 : Nat), TSh.at (Sh.sl (5 : Nat)))]
noncomputable def Z5i : LoopDef (Tup Z89 × OutD) := .plain ZdB Zvx (Int × Int × List (Int × Int) × Int × Int × List (Int × Int) × List (Int × Int × Int)) (fun k x => Z62 k x.1.2.1.1 x.1.2.1.2.1 x.1.2.2.1 x.1.2.2.2.1.1 x.1.2.2.2.1.2.1 x.1.2.2.2.2.1 x.1.2.2.2.2.2.1 x.1.2.2.2.2.2.2.1 x.2.2.2.2.2.1 x.2.2.2.2.2.2.1 x.2.2.2.2.2.2.2.1) (fun z => (((), (z.1, z.2.1, (), ()), z.2.2.1, (z.2.2.2.1, z.2.2.2.2.1, (), ()), z.2.2.2.2.2.1, z.2.2.2.2.2.2, ()), ((), (), (), ()))) (fun y => (y.1.2.1.1, y.1.2.1.2.1, y.1.2.2.1, y.1.2.2.2.1.1, y.1.2.2.2.1.2.1, y.1.2.2.2.2.1, y.1.2.2.2.2.2.1)) (fun _ => rfl)
noncomputable def Zd1 : Nat → Int × Int × List (Int × Int) → List Int → Option (List (Int × Int × Int) × Int × Int × List (Int × Int))
 | 0, _, _ => none
 | k + 1, p0, p1 =>
  Option.bind (Z4p k (Prod.fst p0, Prod.fst p0.2, Prod.snd p0.2)) fun z0 => Option.bind (Z2R k (Prod.fst p0, Prod.fst p0.2, Prod.snd p0.2)) fun z1 => Option.bind (Z62 k (0 : Int) (0 : Int) [] z0.1 z0.2.1 z0.2.2 z1 [] p1 (↑(List.length p1) : Int) (0 : Int)) fun z3 => some (Prod.snd z3.2.2.2.2.2, Prod.fst z3.2.2.2, Prod.fst z3.2.2.2.2, Prod.fst z3.2.2.2.2.2)
noncomputable def Z4t : FnDef := .of ZnY Z89 (List (Int × Int × Int) × Int × Int × List (Int × Int)) (fun k x => Zd1 k x.1 x.2.1) ZlK ZlC Zty
noncomputable def Zdh : Code := Try.f67.body.getD .skip
noncomputable def Z6f : Ctx (Tup Z89 × OutD) := { T := T, G := [(54, Z11.E), (56, ZE.E), (55, Z4U.E)], mvs := [], no := 0, n := 38, res := resOf T ZnY Z89 Try.f67.results.toList, loops := [(0, Z5i.E)], regs := [], conds := [], cuts := [] }
theorem Zo9 (k : Nat) : EnvOK Try.prog k Z6f.G := (EnvOK.cons (Zb8 k) (EnvOK.cons (Z8I k) (EnvOK.cons (Znn k) (EnvOK.nil mixed))))
noncomputable def Zah : Code := (findLoop 0 Zdh).getD .skip
theorem ZvN (k : Nat) (x : ZdB.D) : Z5i.lp (k + 1) x = loopK Z6f Z5i 0 Zah k x := by kernel_rfl
theorem ZuO (k : Nat) : LOK Try.prog Z6f k Zah := LOK.by [] (by kernel_rfl) AllOK.nil
theorem Zva (x : ZdB.D) : Z5i.lp 0 x = none := by kernel_rfl
theorem ZtP (k : Nat) : EOK Try.prog Z6f k Z5i.E (.block 0 (.loop Zah)) := Z5 T_ok Zo9 Zva ZvN ZuO k
theorem ZzB (k : Nat) (x : Tup Z4t.ps) : Z4t.f (k + 1) x = fnK Z4t Z6f Zdh k x := by kernel_rfl
theorem ZzE (x : Tup Z4t.ps) : Z4t.f 0 x = none := by kernel_rfl
theorem ZzF (k : Nat) : LOK Try.prog Z6f k Zdh := LOK.by [(Z5i.E, .block 0 (.loop Zah))] (by kernel_rfl) (AllOK.cons (ZtP k) AllOK.nil)
theorem ZzC (k : Nat) : SoundAt Try.prog k 67 Z4t.E := @Z1 Try.prog Z4t Z6f 67 Try.f67 Zdh (by kernel_rfl) (by kernel_rfl) (by kernel_rfl) Try.func67 (by kernel_rfl) (by kernel_rfl) (by kernel_rfl) T_ok Zo9 ZzF ZzE ZzB k
noncomputable def ZcG : List PK := [PK.mk Ty.bool false none false none]
noncomputable def Ztm : List PK := [PK.mk (Ty.pair (Ty.int .i64) (Ty.pair (Ty.int .i64) (Ty.slice (71 : Nat) (Ty.pair (Ty.int .i64) (Ty.int .i64))))) true none false none, PK.mk (Ty.int .i64) false none false none]
noncomputable def ZqE (r : Bool) : Tup ZcG × OutD := ((r, ()), none)
noncomputable def Zqp : Tup ZcG × OutD → Option (Bool)
 | (a, none) => some (a.1)
 | _ => none
theorem Zxe : ∀ b r, Zqp b = some r → ZqE r = b := by
 rintro ⟨a, o⟩ r h
 cases o with
 | none => injection h with h; subst h; rfl
 | some _ => cases h
noncomputable def ZfV : Nat → Int × Int × List (Int × Int) → Int → Option Bool
 | 0, _, _ => none
 | k + 1, p0, p1 =>
  Option.bind (Z8Z k (Prod.fst p0, Prod.fst p0.2, Prod.snd p0.2)) fun z0 => if z0 = true then Option.bind (Z4V k p1 (0 : Int) (wrap64 (Prod.fst p0.2 - (1 : Int)))) fun z1 => some z1 else some false
noncomputable def Z6V : FnDef := .of Ztm ZcG (Bool) (fun k x => ZfV k x.1 x.2.1) ZqE Zqp Zxe
noncomputable def Zku : Code := Try.f70.body.getD .skip
noncomputable def Zfn : Ctx (Tup ZcG × OutD) := { T := T, G := [(86, Z3u.E), (94, Z3x.E)], mvs := [], no := 0, n := 14, res := resOf T Ztm ZcG Try.f70.results.toList, loops := [], regs := [], conds := [], cuts := [] }
theorem ZC7 (k : Nat) : EnvOK Try.prog k Zfn.G := (EnvOK.cons (Zie k) (EnvOK.cons (ZdX k) (EnvOK.nil mixed)))
theorem ZCv (k : Nat) (x : Tup Z6V.ps) : Z6V.f (k + 1) x = fnK Z6V Zfn Zku k x := by kernel_rfl
theorem ZCk (x : Tup Z6V.ps) : Z6V.f 0 x = none := by kernel_rfl
theorem ZCM (k : Nat) : LOK Try.prog Zfn k Zku := LOK.by [] (by kernel_rfl) AllOK.nil
theorem ZCK (k : Nat) : SoundAt Try.prog k 70 Z6V.E := @Z1 Try.prog Z6V Zfn 70 Try.f70 Zku (by kernel_rfl) (by kernel_rfl) (by kernel_rfl) Try.func70 (by kernel_rfl) (by kernel_rfl) (by kernel_rfl) T_ok ZC7 ZCM ZCk ZCv k
noncomputable def Z8s : List PK := [PK.mk (Ty.pair (Ty.int .i64) (Ty.pair (Ty.int .i64) (Ty.int .i64))) true none false none, PK.mk (Ty.pair (Ty.int .i64) (Ty.pair (Ty.int .i64) (Ty.slice (71 : Nat) (Ty.pair (Ty.int .i64) (Ty.int .i64))))) true none false none]
noncomputable def Zsl : List PK := [PK.mk (Ty.pair (Ty.int .i64) (Ty.pair (Ty.int .i64) (Ty.slice (71 : Nat) (Ty.pair (Ty.int .i64) (Ty.int .i64))))) true none false none, PK.mk (Ty.int .i64) false none false none]
noncomputable def Zqf (r : (Int × Int × Int) × Int × Int × List (Int × Int)) : Tup Z8s × OutD := ((r.1, r.2, ()), none)
noncomputable def ZqO : Tup Z8s × OutD → Option ((Int × Int × Int) × Int × Int × List (Int × Int))
 | (a, none) => some (a.1, a.2.1)
 | _ => none
theorem Zwx : ∀ b r, ZqO b = some r → Zqf r = b := by
 rintro ⟨a, o⟩ r h
 cases o with
 | none => injection h with h; subst h; rfl
 | some _ => cases h
noncomputable def Z7e : Nat → Int → Int → List (Int × Int) → Int → Int → Int → Int → Int → List (Int × Int) → Int → Option (Int × Int × Int × Int × Int × List (Int × Int) × Int × Int × Int × Int × Int × List (Int × Int)) := fun k b1_0 b1_1 b1_2 b2_0 b2_1 b2_2 b3_0 b3_1 o4 v1 =>
    Option.bind (ZF k (b1_0, b1_1, b1_2)) fun z0 => Option.bind (Z1d k (b1_0, b1_1, b1_2) z0 v1) fun z1 => some (b2_0, b2_1, b2_2, b3_0, b3_1, o4, Prod.fst z1.1, Prod.fst z1.1.2, Prod.snd z1.1.2, Prod.fst z1.2.1, Prod.fst z1.2.1.2, Prod.snd z1.2.1.2)
noncomputable def Zb6 : Nat → Int → Int → List (Int × Int) → Int → Int → Int → Int → Int → List (Int × Int) → Int → Option (List (Int × Int × Int × Int × Int × List (Int × Int) × Int × Int × Int × Int × Int × List (Int × Int))) := fun k b1_0 b1_1 b1_2 b2_0 b2_1 b2_2 b3_0 b3_1 o4 v1 =>
    joinL (Option.bind (ZF k (b1_0, b1_1, b1_2)) fun z2 => joinL (Option.bind (Z1d k (b1_0, b1_1, b1_2) z2 v1) fun z3 => joinL (some [(b2_0, b2_1, b2_2, b3_0, b3_1, o4, Prod.fst z3.1, Prod.fst z3.1.2, Prod.snd z3.1.2, Prod.fst z3.2.1, Prod.fst z3.2.1.2, Prod.snd z3.2.1.2)]) (some [(b2_0, b2_1, b2_2, b3_0, b3_1, o4, Prod.fst z3.1, Prod.fst z3.1.2, Prod.snd z3.1.2, Prod.fst z3.2.1, Prod.fst z3.2.1.2, Prod.snd z3.2.1.2)])) (joinL (joinL (Option.bind (Z1d k (b1_0, b1_1, b1_2) z2 v1) fun z4 => some [(b2_0, b2_1, b2_2, b3_0, b3_1, o4, Prod.fst z4.1, Prod.fst z4.1.2, Prod.snd z4.1.2, Prod.fst z4.2.1, Prod.fst z4.2.1.2, Prod.snd z4.2.1.2)]) (Option.bind (Z1d k (b1_0, b1_1, b1_2) z2 v1) fun z5 => some [(b2_0, b2_1, b2_2, b3_0, b3_1, o4, Prod.fst z5.1, Prod.fst z5.1.2, Prod.snd z5.1.2, Prod.fst z5.2.1, Prod.fst z5.2.1.2, Prod.snd z5.2.1.2)])) (joinL (Option.bind (Z1d k (b1_0, b1_1, b1_2) z2 v1) fun z6 => some [(b2_0, b2_1, b2_2, b3_0, b3_1, o4, Prod.fst z6.1, Prod.fst z6.1.2, Prod.snd z6.1.2, Prod.fst z6.2.1, Prod.fst z6.2.1.2, Prod.snd z6.2.1.2)]) (Option.bind (Z1d k (b1_0, b1_1, b1_2) z2 v1) fun z7 => some [(b2_0, b2_1, b2_2, b3_0, b3_1, o4, Prod.fst z7.1, Prod.fst z7.1.2, Prod.snd z7.1.2, Prod.fst z7.2.1, Prod.fst z7.2.1.2, Prod.snd z7.2.1.2)])))) (joinL (joinL (Option.bind (ZF k (b1_0, b1_1, b1_2)) fun z8 => joinL (Option.bind (Z1d k (b1_0, b1_1, b1_2) z8 v1) fun z9 => some [(b2_0, b2_1, b2_2, b3_0, b3_1, o4, Prod.fst z9.1, Prod.fst z9.1.2, Prod.snd z9.1.2, Prod.fst z9.2.1, Prod.fst z9.2.1.2, Prod.snd z9.2.1.2)]) (Option.bind (Z1d k (b1_0, b1_1, b1_2) z8 v1) fun z10 => some [(b2_0, b2_1, b2_2, b3_0, b3_1, o4, Prod.fst z10.1, Prod.fst z10.1.2, Prod.snd z10.1.2, Prod.fst z10.2.1, Prod.fst z10.2.1.2, Prod.snd z10.2.1.2)])) (Option.bind (ZF k (b1_0, b1_1, b1_2)) fun z11 => Option.bind (Z1d k (b1_0, b1_1, b1_2) z11 v1) fun z12 => some [(b2_0, b2_1, b2_2, b3_0, b3_1, o4, Prod.fst z12.1, Prod.fst z12.1.2, Prod.snd z12.1.2, Prod.fst z12.2.1, Prod.fst z12.2.1.2, Prod.snd z12.2.1.2)])) (joinL (Option.bind (ZF k (b1_0, b1_1, b1_2)) fun z13 => joinL (Option.bind (Z1d k (b1_0, b1_1, b1_2) z13 v1) fun z14 => some [(b2_0, b2_1, b2_2, b3_0, b3_1, o4, Prod.fst z14.1, Prod.fst z14.1.2, Prod.snd z14.1.2, Prod.fst z14.2.1, Prod.fst z14.2.1.2, Prod.snd z14.2.1.2)]) (Option.bind (Z1d k (b1_0, b1_1, b1_2) z13 v1) fun z15 => some [(b2_0, b2_1, b2_2, b3_0, b3_1, o4, Prod.fst z15.1, Prod.fst z15.1.2, Prod.snd z15.1.2, Prod.fst z15.2.1, Prod.fst z15.2.1.2, Prod.snd z15.2.1.2)])) (Option.bind (ZF k (b1_0, b1_1, b1_2)) fun z16 => Option.bind (Z1d k (b1_0, b1_1, b1_2) z16 v1) fun z17 => some [(b2_0, b2_1, b2_2, b3_0, b3_1, o4, Prod.fst z17.1, Prod.fst z17.1.2, Prod.snd z17.1.2, Prod.fst z17.2.1, Prod.fst z17.2.1.2, Prod.snd z17.2.1.2)])))
noncomputable def ZjV : Spec := Spec.mk [OSh.ro, OSh.box (26 : Nat) [Sh.int .i64, Sh.int .i64, Sh.snap (0 : Nat) (Ty.pair (Ty.int .i64) (Ty.int .i64))], OSh.box (75 : Nat) [Sh.int .i64, Sh.int .i64, Sh.int .i64], OSh.box (26 : Nat) [Sh.int .i64, Sh.int .i64, Sh.sl (4 : Nat)], OSh.row true (71 : Nat) (Ty.pair (Ty.int .i64) (Ty.int .i64))] [((1 : Nat), TSh.at (Sh.int .i64)), ((2 : Nat), TSh.at (Sh.ptr (1 : Nat) (0 : Nat))), ((4 : Nat), TSh.at (Sh.ptr (2 : Nat) (0 : Nat))), ((5 : Nat), TSh.at (Sh.ptr (3 : Nat) (0 : Nat)))]
noncomputable def ZwW : Spec := Spec.mk [OSh.ro, OSh.box (75 : Nat) [Sh.int .i64, Sh.int .i64, Sh.int .i64], OSh.box (26 : Nat) [Sh.int .i64, Sh.int .i64, Sh.sl (3 : Nat)], OSh.row true (71 : Nat) (Ty.pair (Ty.int .i64) (Ty.int .i64)), OSh.box (75 : Nat) [Sh.int .i64, Sh.int .i64, Sh.int .i64], OSh.box (26 : Nat) [Sh.int .i64, Sh.int .i64, Sh.sl (6 : Nat)], OSh.row true (71 : Nat) (Ty.pair (Ty.int .i64) (Ty.int .i64))] [((4 : Nat), TSh.at (Sh.ptr (1 : Nat) (0 : Nat))), ((5 : Nat), TSh.at (Sh.ptr (2 : Nat) (0 : Nat))), ((6 : Nat), TSh.at (Sh.ptr (4 : Nat) (0 : Nat))), ((7 : Nat), TSh.at (Sh.ptr (5 : Nat) (0 : Nat)))]
noncomputable def Z6c : LoopDef (Tup Z8s × OutD) := .plain ZjV ZwW (Int × Int × Int × Int × Int × List (Int × Int) × Int × Int × Int × Int × Int × List (Int × Int)) (fun k x => Z7e k x.1.2.1.1 x.1.2.1.2.1 x.1.2.1.2.2.1 x.1.2.2.1.1 x.1.2.2.1.2.1 x.1.2.2.1.2.2.1 x.1.2.2.2.1.1 x.1.2.2.2.1.2.1 x.1.2.2.2.2.1 x.2.1) (fun z => (((), (z.1, z.2.1, z.2.2.1, ()), (z.2.2.2.1, z.2.2.2.2.1, (), ()), z.2.2.2.2.2.1, (z.2.2.2.2.2.2.1, z.2.2.2.2.2.2.2.1, z.2.2.2.2.2.2.2.2.1, ()), (z.2.2.2.2.2.2.2.2.2.1, z.2.2.2.2.2.2.2.2.2.2.1, (), ()), z.2.2.2.2.2.2.2.2.2.2.2, ()), ((), (), (), (), ()))) (fun y => (y.1.2.1.1, y.1.2.1.2.1, y.1.2.1.2.2.1, y.1.2.2.1.1, y.1.2.2.1.2.1, y.1.2.2.2.1, y.1.2.2.2.2.1.1, y.1.2.2.2.2.1.2.1, y.1.2.2.2.2.1.2.2.1, y.1.2.2.2.2.2.1.1, y.1.2.2.2.2.2.1.2.1, y.1.2.2.2.2.2.2.1)) (fun _ => rfl)
theorem ZwD (k : Nat) (b1_0 : Int) (b1_1 : Int) (b1_2 : List (Int × Int)) (b2_0 : Int) (b2_1 : Int) (b2_2 : Int) (b3_0 : Int) (b3_1 : Int) (o4 : List (Int × Int)) (v1 : Int) : Zb6 k b1_0 b1_1 b1_2 b2_0 b2_1 b2_2 b3_0 b3_1 o4 v1 = repl 12 (Z7e k b1_0 b1_1 b1_2 b2_0 b2_1 b2_2 b3_0 b3_1 o4 v1) := by
 first
 | (simp only [Zb6, Z7e, Zi, Zt, Zk, Zj, Zl, Z3, if_true]; done)
 | (simp only [Zb6, Z7e, Zi, Zt, Zk, Zj, Zl, Z3, if_true]; simp only [Z1K, Z1L, Z3L, Z3]; simp only [Z5k]; exact Z2N ⟨fun h => by simp only [h, and_self], fun h => by simp only [h, and_self]⟩)
noncomputable def Z7f : Nat → Int → Int → Int → Int → Int → List (Int × Int) → Int → Int → Int → Int → Int → List (Int × Int) → Option (Int × Int × Int × Int × Int × List (Int × Int)) := fun k b1_0 b1_1 b1_2 b2_0 b2_1 o3 b4_0 b4_1 b4_2 b5_0 b5_1 o6 =>
    some (b4_0, b4_1, b4_2, b5_0, b5_1, o6)
noncomputable def Zbu : Nat → Int → Int → Int → Int → Int → List (Int × Int) → Int → Int → Int → Int → Int → List (Int × Int) → Option (List (Int × Int × Int × Int × Int × List (Int × Int))) := fun k b1_0 b1_1 b1_2 b2_0 b2_1 o3 b4_0 b4_1 b4_2 b5_0 b5_1 o6 =>
    joinL (some [(b4_0, b4_1, b4_2, b5_0, b5_1, o6)]) (some [(b4_0, b4_1, b4_2, b5_0, b5_1, o6)])
noncomputable def Zks : Spec := Spec.mk [OSh.ro, OSh.box (75 : Nat) [Sh.int .i64, Sh.int .i64, Sh.int .i64], OSh.box (26 : Nat) [Sh.int .i64, Sh.int .i64, Sh.sl (3 : Nat)], OSh.row true (71 : Nat) (Ty.pair (Ty.int .i64) (Ty.int .i64)), OSh.box (75 : Nat) [Sh.int .i64, Sh.int .i64, Sh.int .i64], OSh.box (26 : Nat) [Sh.int .i64, Sh.int .i64, Sh.sl (6 : Nat)], OSh.row true (71 : Nat) (Ty.pair (Ty.int .i64) (Ty.int .i64))] [((4 : Nat), TSh.at (Sh.ptr (1 : Nat) (0 : Nat))), ((5 : Nat), TSh.at (Sh.ptr (2 : Nat) (0 : Nat))), ((6 : Nat), TSh.at (Sh.ptr (4 : Nat) (0 : Nat))), ((7 : Nat), TSh.at (Sh.ptr (5 : Nat) (0 : Nat)))]
noncomputable def Zxy : Spec := Spec.mk [OSh.ro, OSh.box (75 : Nat) [Sh.int .i64, Sh.int .i64, Sh.int .i64], OSh.box (26 : Nat) [Sh.int .i64, Sh.int .i64, Sh.sl (3 : Nat)], OSh.row true (71 : Nat) (Ty.pair (Ty.int .i64) (Ty.int .i64))] [((4 : Nat), TSh.at (Sh.ptr (1 : Nat) (0 : Nat))), ((5 : Nat), TSh.at (Sh.ptr (2 : Nat) (0 : Nat)))]
noncomputable def Z6h : LoopDef (Tup Z8s × OutD) := .plain Zks Zxy (Int × Int × Int × Int × Int × List (Int × Int)) (fun k x => Z7f k x.1.2.1.1 x.1.2.1.2.1 x.1.2.1.2.2.1 x.1.2.2.1.1 x.1.2.2.1.2.1 x.1.2.2.2.1 x.1.2.2.2.2.1.1 x.1.2.2.2.2.1.2.1 x.1.2.2.2.2.1.2.2.1 x.1.2.2.2.2.2.1.1 x.1.2.2.2.2.2.1.2.1 x.1.2.2.2.2.2.2.1) (fun z => (((), (z.1, z.2.1, z.2.2.1, ()), (z.2.2.2.1, z.2.2.2.2.1, (), ()), z.2.2.2.2.2, ()), ((), (), ()))) (fun y => (y.1.2.1.1, y.1.2.1.2.1, y.1.2.1.2.2.1, y.1.2.2.1.1, y.1.2.2.1.2.1, y.1.2.2.2.1)) (fun _ => rfl)
theorem Zxo (k : Nat) (b1_0 : Int) (b1_1 : Int) (b1_2 : Int) (b2_0 : Int) (b2_1 : Int) (o3 : List (Int × Int)) (b4_0 : Int) (b4_1 : Int) (b4_2 : Int) (b5_0 : Int) (b5_1 : Int) (o6 : List (Int × Int)) : Zbu k b1_0 b1_1 b1_2 b2_0 b2_1 o3 b4_0 b4_1 b4_2 b5_0 b5_1 o6 = repl 2 (Z7f k b1_0 b1_1 b1_2 b2_0 b2_1 o3 b4_0 b4_1 b4_2 b5_0 b5_1 o6) := by
 first
 | (simp only [Zbu, Z7f, Zi, Zt, Zk, Zj, Zl, Z3, if_true]; done)
 | (simp only [Zbu, Z7f, Zi, Zt, Zk, Zj, Zl, Z3, if_true]; simp only [Z1K, Z1L, Z3L, Z3]; simp only [Z5k]; exact Z2N ⟨fun h => by simp only [h, and_self], fun h => by simp only [h, and_self]⟩)
noncomputable def Zfw : Nat → Int × Int × List (Int × Int) → Int → Option ((Int × Int × Int) × Int × Int × List (Int × Int))
 | 0, _, _ => none
 | k + 1, p0, p1 =>
  Option.bind (Z7e k p0.1 p0.2.1 p0.2.2 (0 : Int) (0 : Int) (0 : Int) (0 : Int) (0 : Int) [] p1) fun z18 => Option.bind (Z7f k z18.1 z18.2.1 z18.2.2.1 z18.2.2.2.1 z18.2.2.2.2.1 z18.2.2.2.2.2.1 z18.2.2.2.2.2.2.1 z18.2.2.2.2.2.2.2.1 z18.2.2.2.2.2.2.2.2.1 z18.2.2.2.2.2.2.2.2.2.1 z18.2.2.2.2.2.2.2.2.2.2.1 z18.2.2.2.2.2.2.2.2.2.2.2) fun z19 => some ((Prod.fst z19, Prod.fst z19.2, Prod.fst z19.2.2), Prod.fst z19.2.2.2, Prod.fst z19.2.2.2.2, Prod.snd z19.2.2.2.2)
noncomputable def Z6Z : FnDef := .of Zsl Z8s ((Int × Int × Int) × Int × Int × List (Int × Int)) (fun k x => Zfw k x.1 x.2.1) Zqf ZqO Zwx
noncomputable def ZcR : Code := Try.f71.body.getD .skip
noncomputable def ZT : Ctx (Tup Z8s × OutD) := { T := T, G := [(92, Z1Z.E), (93, Z6y.E)], mvs := [], no := 0, n := 20, res := resOf T Zsl Z8s Try.f71.results.toList, loops := [], regs := [(1, Z6c.E), (2, Z6h.E)], conds := [], cuts := [] }
theorem ZjG (k : Nat) : EnvOK Try.prog k ZT.G := (EnvOK.cons (ZfQ k) (EnvOK.cons (Zwm k) (EnvOK.nil mixed)))
noncomputable def ZeT : Array Oper := (findReg 1 ZcR).getD #[]
theorem ZwI (k : Nat) (x : ZjV.D) : execD ZT.T ZT.G ZT.mvs k ZeT (Z6c.inp.st ZT.n x) (outK ZT Z6c) = Zb6 k x.1.2.1.1 x.1.2.1.2.1 x.1.2.1.2.2.1 x.1.2.2.1.1 x.1.2.2.1.2.1 x.1.2.2.1.2.2.1 x.1.2.2.2.1.1 x.1.2.2.2.1.2.1 x.1.2.2.2.2.1 x.2.1 := by kernel_rfl
theorem Zus (k : Nat) : EOK Try.prog ZT k Z6c.E (.region 1 ZeT true) := Z7N (D := Z6c) (m := 12) T_ok (ZjG k) (fun x => (ZwI k x).trans (ZwD k x.1.2.1.1 x.1.2.1.2.1 x.1.2.1.2.2.1 x.1.2.2.1.1 x.1.2.2.1.2.1 x.1.2.2.1.2.2.1 x.1.2.2.2.1.1 x.1.2.2.2.1.2.1 x.1.2.2.2.2.1 x.2.1))
noncomputable def ZeB : Array Oper := (findReg 2 ZcR).getD #[]
theorem ZxB (k : Nat) (x : Zks.D) : execD ZT.T ZT.G ZT.mvs k ZeB (Z6h.inp.st ZT.n x) (outK ZT Z6h) = Zbu k x.1.2.1.1 x.1.2.1.2.1 x.1.2.1.2.2.1 x.1.2.2.1.1 x.1.2.2.1.2.1 x.1.2.2.2.1 x.1.2.2.2.2.1.1 x.1.2.2.2.2.1.2.1 x.1.2.2.2.2.1.2.2.1 x.1.2.2.2.2.2.1.1 x.1.2.2.2.2.2.1.2.1 x.1.2.2.2.2.2.2.1 := by kernel_rfl
theorem ZuJ (k : Nat) : EOK Try.prog ZT k Z6h.E (.region 2 ZeB true) := Z7N (D := Z6h) (m := 2) T_ok (ZjG k) (fun x => (ZxB k x).trans (Zxo k x.1.2.1.1 x.1.2.1.2.1 x.1.2.1.2.2.1 x.1.2.2.1.1 x.1.2.2.1.2.1 x.1.2.2.2.1 x.1.2.2.2.2.1.1 x.1.2.2.2.2.1.2.1 x.1.2.2.2.2.1.2.2.1 x.1.2.2.2.2.2.1.1 x.1.2.2.2.2.2.1.2.1 x.1.2.2.2.2.2.2.1))
theorem ZCg (k : Nat) (x : Tup Z6Z.ps) : Z6Z.f (k + 1) x = fnK Z6Z ZT ZcR k x := by kernel_rfl
theorem ZCI (x : Tup Z6Z.ps) : Z6Z.f 0 x = none := by kernel_rfl
theorem ZCH (k : Nat) : LOK Try.prog ZT k ZcR := LOK.by [(Z6c.E, .region 1 ZeT true), (Z6h.E, .region 2 ZeB true)] (by kernel_rfl) (AllOK.cons (Zus k) (AllOK.cons (ZuJ k) AllOK.nil))
theorem ZCQ (k : Nat) : SoundAt Try.prog k 71 Z6Z.E := @Z1 Try.prog Z6Z ZT 71 Try.f71 ZcR (by kernel_rfl) (by kernel_rfl) (by kernel_rfl) Try.func71 (by kernel_rfl) (by kernel_rfl) (by kernel_rfl) T_ok ZjG ZCH ZCI ZCg k
noncomputable def Z3G : List PK := [PK.mk (Ty.pair (Ty.int .i64) (Ty.pair (Ty.int .i64) (Ty.slice (71 : Nat) (Ty.pair (Ty.int .i64) (Ty.int .i64))))) true none false none]
noncomputable def Zg9 : List PK := [PK.mk (Ty.pair (Ty.slice (5 : Nat) (Ty.int .u8)) (Ty.pair (Ty.int .i64) (Ty.int .u64))) false none false (some (58 : Nat)), PK.mk (Ty.int .i64) false none false none, PK.mk (Ty.int .i64) false none false none]
noncomputable def Zf8 (r : (Int × Int × List (Int × Int)) × Int × Int) : Tup Z3G × OutD := ((r.1, ()), some ⟨Ty.pair (Ty.slice (5 : Nat) (Ty.int .u8)) (Ty.pair (Ty.int .i64) (Ty.int .u64)), [([], r.2)]⟩)
noncomputable def ZaQ : Tup Z3G × OutD → Option ((Int × Int × List (Int × Int)) × Int × Int)
 | (a, some ⟨u, ys⟩) => if h : u = Ty.pair (Ty.slice (5 : Nat) (Ty.int .u8)) (Ty.pair (Ty.int .i64) (Ty.int .u64)) then (match castU h ys with
  | [([], y)] => some (a.1, y)
  | _ => none) else none
 | _ => none
theorem ZjU : ∀ b r, ZaQ b = some r → Zf8 r = b := by
 rintro ⟨a, o⟩ r h
 cases o with
 | none => cases h
 | some s =>
  obtain ⟨u, ys⟩ := s
  simp only [ZaQ] at h
  split at h
  ·rename_i hu
   subst hu
   match ys, h with
   | [], h => cases (show (none : Option _) = some r from h)
   | [([], y)], h => injection (show some _ = some r from h) with h; subst h; rfl
   | [(_ :: _, y)], h => cases (show (none : Option _) = some r from h)
   | (h1, _) :: _ :: _, h => cases h1 <;> cases (show (none : Option _) = some r from h)
  ·cases h
noncomputable def Z6 : Nat → Int → Int → List Int → Int → Int → List (Int × Int) → Int → Int → List (Int × Int) → Int → Int → Int → Option (Int × Int × List Int × Int × Int × List (Int × Int) × Int × Int × List (Int × Int))
 | 0, _, _, _, _, _, _, _, _, _, _, _, _ => none
 | k + 1, b1_1, b1_2, o2, b3_0, b3_1, o4, b5_0, b5_1, o6, v1, v2, v8 =>
  if decide ((↑(List.length o6) : Int) < wrap64 (v1 * v2)) = true then Option.bind (Zc k (o2, b1_1, b1_2) v8) fun z1 => if Prod.fst z1 = true then Option.bind (Z3N k (o2, Prod.fst z1.2, Prod.snd z1.2)) fun z2 => if decide (Prod.fst z2.1 = (5 : Int)) = true then Option.bind (Zc k (o2, Prod.fst z2.2, Prod.snd z2.2) (3 : Int)) fun z3 => if (!Prod.fst z3) = true then Option.bind (Z0 k (o2, Prod.fst z3.2, Prod.snd z3.2) (2 : Int)) fun z4 => if List.length o6 + List.length [((3 : Int), Prod.fst z4)] ≤ (140737488355328 / 16 : Nat) then Z6 k z4.2.1 z4.2.2 o2 b3_0 b3_1 o4 b5_0 b5_1 (o6 ++ [((3 : Int), Prod.fst z4)]) v1 v2 v8 else none else if List.length o6 + List.length [(Prod.fst z2.1, Prod.snd z2.1)] ≤ (140737488355328 / 16 : Nat) then Z6 k z3.2.1 z3.2.2 o2 b3_0 b3_1 o4 b5_0 b5_1 (o6 ++ [(Prod.fst z2.1, Prod.snd z2.1)]) v1 v2 v8 else none else if List.length o6 + List.length [(Prod.fst z2.1, Prod.snd z2.1)] ≤ (140737488355328 / 16 : Nat) then Z6 k z2.2.1 z2.2.2 o2 b3_0 b3_1 o4 b5_0 b5_1 (o6 ++ [(Prod.fst z2.1, Prod.snd z2.1)]) v1 v2 v8 else none else Option.bind (Zc k (o2, Prod.fst z1.2, Prod.snd z1.2) (3 : Int)) fun z5 => if Prod.fst z5 = true then Option.bind (Z3N k (o2, Prod.fst z5.2, Prod.snd z5.2)) fun z6 => if decide (Prod.fst z6.1 = (5 : Int)) = true then Option.bind (Zc k (o2, Prod.fst z6.2, Prod.snd z6.2) (3 : Int)) fun z7 => if (!Prod.fst z7) = true then Option.bind (Z0 k (o2, Prod.fst z7.2, Prod.snd z7.2) (2 : Int)) fun z8 => if List.length o6 + List.length [((3 : Int), Prod.fst z8)] ≤ (140737488355328 / 16 : Nat) then Z6 k z8.2.1 z8.2.2 o2 b3_0 b3_1 o4 b5_0 b5_1 (o6 ++ [((3 : Int), Prod.fst z8)]) v1 v2 v8 else none else if List.length o6 + List.length [(Prod.fst z6.1, Prod.snd z6.1)] ≤ (140737488355328 / 16 : Nat) then Z6 k z7.2.1 z7.2.2 o2 b3_0 b3_1 o4 b5_0 b5_1 (o6 ++ [(Prod.fst z6.1, Prod.snd z6.1)]) v1 v2 v8 else none else if List.length o6 + List.length [(Prod.fst z6.1, Prod.snd z6.1)] ≤ (140737488355328 / 16 : Nat) then Z6 k z6.2.1 z6.2.2 o2 b3_0 b3_1 o4 b5_0 b5_1 (o6 ++ [(Prod.fst z6.1, Prod.snd z6.1)]) v1 v2 v8 else none else if List.length o6 + List.length [((0 : Int), (0 : Int))] ≤ (140737488355328 / 16 : Nat) then Z6 k z5.2.1 z5.2.2 o2 b3_0 b3_1 o4 b5_0 b5_1 (o6 ++ [((0 : Int), (0 : Int))]) v1 v2 v8 else none else some (b1_1, b1_2, o2, b3_0, b3_1, o4, b5_0, b5_1, o6)
noncomputable def Z8T : Spec := Spec.mk [OSh.ro, OSh.box (58 : Nat) [Sh.sl (2 : Nat), Sh.int .i64, Sh.int .u64], OSh.fx (Ty.int .u8), OSh.box (26 : Nat) [Sh.int .i64, Sh.int .i64, Sh.sl (4 : Nat)], OSh.row true (71 : Nat) (Ty.pair (Ty.int .i64) (Ty.int .i64)), OSh.box (26 : Nat) [Sh.int .i64, Sh.int .i64, Sh.sl (6 : Nat)], OSh.row true (71 : Nat) (Ty.pair (Ty.int .i64) (Ty.int .i64))] [((0 : Nat), TSh.at (Sh.ptr (1 : Nat) (0 : Nat))), ((1 : Nat), TSh.at (Sh.int .i64)), ((2 : Nat), TSh.at (Sh.int .i64)), ((6 : Nat), TSh.at (Sh.ptr (3 : Nat) (0 : Nat))), ((7 : Nat), TSh.at (Sh.ptr (5 : Nat) (0 : Nat))), ((8 : Nat), TSh.at (Sh.int .i64))]
noncomputable def ZkS : Spec := Spec.mk [OSh.ro, OSh.box (58 : Nat) [Sh.sl (2 : Nat), Sh.int .i64, Sh.int .u64], OSh.fx (Ty.int .u8), OSh.box (26 : Nat) [Sh.int .i64, Sh.int .i64, Sh.sl (4 : Nat)], OSh.row true (71 : Nat) (Ty.pair (Ty.int .i64) (Ty.int .i64)), OSh.box (26 : Nat) [Sh.int .i64, Sh.int .i64, Sh.sl (6 : Nat)], OSh.row true (71 : Nat) (Ty.pair (Ty.int .i64) (Ty.int .i64))] [((6 : Nat), TSh.at (Sh.ptr (3 : Nat) (0 : Nat))), ((7 : Nat), TSh.at (Sh.ptr (5 : Nat) (0 : Nat)))]
noncomputable def Z2a : LoopDef (Tup Z3G × OutD) := .plain Z8T ZkS (Int × Int × List Int × Int × Int × List (Int × Int) × Int × Int × List (Int × Int)) (fun k x => Z6 k x.1.2.1.2.1 x.1.2.1.2.2.1 x.1.2.2.1 x.1.2.2.2.1.1 x.1.2.2.2.1.2.1 x.1.2.2.2.2.1 x.1.2.2.2.2.2.1.1 x.1.2.2.2.2.2.1.2.1 x.1.2.2.2.2.2.2.1 x.2.2.1 x.2.2.2.1 x.2.2.2.2.2.2.1) (fun z => (((), ((), z.1, z.2.1, ()), z.2.2.1, (z.2.2.2.1, z.2.2.2.2.1, (), ()), z.2.2.2.2.2.1, (z.2.2.2.2.2.2.1, z.2.2.2.2.2.2.2.1, (), ()), z.2.2.2.2.2.2.2.2, ()), ((), (), ()))) (fun y => (y.1.2.1.2.1, y.1.2.1.2.2.1, y.1.2.2.1, y.1.2.2.2.1.1, y.1.2.2.2.1.2.1, y.1.2.2.2.2.1, y.1.2.2.2.2.2.1.1, y.1.2.2.2.2.2.1.2.1, y.1.2.2.2.2.2.2.1)) (fun _ => rfl)
noncomputable def Z2f : Nat → List Int × Int × Int → Int → Int → Option ((Int × Int × List (Int × Int)) × Int × Int)
 | 0, _, _, _ => none
 | k + 1, p0, p1, p2 =>
  Option.bind (Za k (Prod.fst p0, Prod.fst p0.2, Prod.snd p0.2) [(1 : Int), (2 : Int), (2 : Int)]) fun z0 => Option.bind (Z6 k z0.2.1 z0.2.2 p0.1 (0 : Int) (0 : Int) [] p1 p2 [] p1 p2 z0.1) fun z9 => some ((Prod.fst z9.2.2.2.2.2.2, Prod.fst z9.2.2.2.2.2.2.2, Prod.snd z9.2.2.2.2.2.2.2), Prod.fst z9, Prod.fst z9.2)
noncomputable def ZU : FnDef := .of Zg9 Z3G ((Int × Int × List (Int × Int)) × Int × Int) (fun k x => Z2f k x.1 x.2.1 x.2.2.1) Zf8 ZaQ ZjU
noncomputable def Z7X : Code := Try.f78.body.getD .skip
noncomputable def Z2j : Ctx (Tup Z3G × OutD) := { T := T, G := [(60, Zq.E), (58, ZG.E), (73, Z1N.E), (57, Zd.E)], mvs := [], no := 2, n := 51, res := resOf T Zg9 Z3G Try.f78.results.toList, loops := [(0, Z2a.E)], regs := [], conds := [], cuts := [] }
theorem Zfi (k : Nat) : EnvOK Try.prog k Z2j.G := (EnvOK.cons (Z3j k) (EnvOK.cons (Z5X k) (EnvOK.cons (ZiF k) (EnvOK.cons (ZH k) (EnvOK.nil mixed)))))
noncomputable def Z5H : Code := (findLoop 0 Z7X).getD .skip
theorem ZkX (k : Nat) (x : Z8T.D) : Z2a.lp (k + 1) x = loopK Z2j Z2a 0 Z5H k x := by kernel_rfl
theorem ZkD (k : Nat) : LOK Try.prog Z2j k Z5H := LOK.by [] (by kernel_rfl) AllOK.nil
theorem ZkL (x : Z8T.D) : Z2a.lp 0 x = none := by kernel_rfl
theorem Zkf (k : Nat) : EOK Try.prog Z2j k Z2a.E (.block 0 (.loop Z5H)) := Z5 T_ok Zfi ZkL ZkX ZkD k
theorem ZpO (k : Nat) (x : Tup ZU.ps) : ZU.f (k + 1) x = fnK ZU Z2j Z7X k x := by kernel_rfl
theorem ZpW (x : Tup ZU.ps) : ZU.f 0 x = none := by kernel_rfl
theorem Zpr (k : Nat) : LOK Try.prog Z2j k Z7X := LOK.by [(Z2a.E, .block 0 (.loop Z5H))] (by kernel_rfl) (AllOK.cons (Zkf k) AllOK.nil)
theorem ZfZ (k : Nat) : SoundAt Try.prog k 78 ZU.E := @Z1 Try.prog ZU Z2j 78 Try.f78 Z7X (by kernel_rfl) (by kernel_rfl) (by kernel_rfl) Try.func78 (by kernel_rfl) (by kernel_rfl) (by kernel_rfl) T_ok Zfi Zpr ZpW ZpO k
noncomputable def Z9l : List PK := [PK.mk (Ty.int .i64) false none false none]
noncomputable def ZlR : List PK := [PK.mk (Ty.pair (Ty.int .i64) (Ty.pair (Ty.int .i64) (Ty.slice (71 : Nat) (Ty.pair (Ty.int .i64) (Ty.int .i64))))) true none false none]
noncomputable def ZjT (r : Int) : Tup Z9l × OutD := ((r, ()), none)
noncomputable def ZjK : Tup Z9l × OutD → Option (Int)
 | (a, none) => some (a.1)
 | _ => none
theorem Zrv : ∀ b r, ZjK b = some r → ZjT r = b := by
 rintro ⟨a, o⟩ r h
 cases o with
 | none => injection h with h; subst h; rfl
 | some _ => cases h
noncomputable def Zce : Nat → Int × Int × List (Int × Int) → Option Int
 | 0, _ => none
 | k + 1, p0 =>
  Option.bind (Z3H k (Prod.fst p0, Prod.fst p0.2, Prod.snd p0.2)) fun z0 => some (shlS (1 : Int) (IntKind.wrap IntKind.u64 (↑(List.length z0) : Int)))
noncomputable def Z3T : FnDef := .of ZlR Z9l (Int) (fun k x => Zce k x.1) ZjT ZjK Zrv
noncomputable def ZfW : Code := Try.f82.body.getD .skip
noncomputable def Zc6 : Ctx (Tup Z9l × OutD) := { T := T, G := [(81, ZZ.E)], mvs := [], no := 0, n := 8, res := resOf T ZlR Z9l Try.f82.results.toList, loops := [], regs := [], conds := [], cuts := [] }
theorem ZyE (k : Nat) : EnvOK Try.prog k Zc6.G := (EnvOK.cons (Z8f k) (EnvOK.nil mixed))
theorem Zz0 (k : Nat) (x : Tup Z3T.ps) : Z3T.f (k + 1) x = fnK Z3T Zc6 ZfW k x := by kernel_rfl
theorem Zyz (x : Tup Z3T.ps) : Z3T.f 0 x = none := by kernel_rfl
theorem ZxV (k : Nat) : LOK Try.prog Zc6 k ZfW := LOK.by [] (by kernel_rfl) AllOK.nil
theorem Zz2 (k : Nat) : SoundAt Try.prog k 82 Z3T.E := @Z1 Try.prog Z3T Zc6 82 Try.f82 ZfW (by kernel_rfl) (by kernel_rfl) (by kernel_rfl) Try.func82 (by kernel_rfl) (by kernel_rfl) (by kernel_rfl) T_ok ZyE ZxV Zyz Zz0 k
noncomputable def Z8Y : List PK := [PK.mk (Ty.slice (3 : Nat) (Ty.int .i64)) false none false none]
noncomputable def ZqB : List PK := [PK.mk (Ty.pair (Ty.int .i64) (Ty.pair (Ty.int .i64) (Ty.slice (71 : Nat) (Ty.pair (Ty.int .i64) (Ty.int .i64))))) true none false none]
noncomputable def ZnW (r : List Int) : Tup Z8Y × OutD := ((r, ()), none)
noncomputable def ZoC : Tup Z8Y × OutD → Option (List Int)
 | (a, none) => some (a.1)
 | _ => none
theorem ZuQ : ∀ b r, ZoC b = some r → ZnW r = b := by
 rintro ⟨a, o⟩ r h
 cases o with
 | none => injection h with h; subst h; rfl
 | some _ => cases h
noncomputable def Z71 : Nat → Int → Int → List (Int × Int) → List Int → List (List Int) → Int → Int → Option (List Int)
 | 0, _, _, _, _, _, _, _ => none
 | k + 1, b1_0, b1_1, b1_2, o2, o3, v8, v9 =>
  if decide (v9 < v8) = true then if (0 : Int) ≤ v9 then if v9 < (↑(List.length o3) : Int) then if (0 : Int) < (↑(List.length (List.getD o3 (Int.toNat v9) [])) : Int) then if (0 : Int) ≤ List.getD (List.getD o3 (Int.toNat v9) []) (Int.toNat (0 : Int)) (0 : Int) then if List.getD (List.getD o3 (Int.toNat v9) []) (Int.toNat (0 : Int)) (0 : Int) < (↑(List.length b1_2) : Int) then if List.length o2 + List.length [Prod.snd (List.getD b1_2 (Int.toNat (List.getD (List.getD o3 (Int.toNat v9) []) (Int.toNat (0 : Int)) (0 : Int))) ((0 : Int), (0 : Int)))] ≤ (140737488355328 / 8 : Nat) then Z71 k b1_0 b1_1 b1_2 (o2 ++ [Prod.snd (List.getD b1_2 (Int.toNat (List.getD (List.getD o3 (Int.toNat v9) []) (Int.toNat (0 : Int)) (0 : Int))) ((0 : Int), (0 : Int)))]) o3 v8 (wrap64 (v9 + (1 : Int))) else none else none else none else none else none else none else some o2
noncomputable def Zez : Spec := Spec.mk [OSh.ro, OSh.box (26 : Nat) [Sh.int .i64, Sh.int .i64, Sh.snap (0 : Nat) (Ty.pair (Ty.int .i64) (Ty.int .i64))], OSh.row true (3 : Nat) (Ty.int .i64), OSh.row true (36 : Nat) (Ty.slice (3 : Nat) (Ty.int .i64))] [((1 : Nat), TSh.at (Sh.ptr (1 : Nat) (0 : Nat))), ((3 : Nat), TSh.at (Sh.sl (2 : Nat))), ((7 : Nat), TSh.at (Sh.sl (3 : Nat))), ((8 : Nat), TSh.at (Sh.int .i64)), ((9 : Nat), TSh.at (Sh.int .i64))]
noncomputable def Zwv : Spec := Spec.mk [OSh.ro, OSh.row true (3 : Nat) (Ty.int .i64)] [((3 : Nat), TSh.at (Sh.sl (1 : Nat)))]
noncomputable def Z66 : LoopDef (Tup Z8Y × OutD) := .plain Zez Zwv (List Int) (fun k x => Z71 k x.1.2.1.1 x.1.2.1.2.1 x.1.2.1.2.2.1 x.1.2.2.1 x.1.2.2.2.1 x.2.2.2.2.1 x.2.2.2.2.2.1) (fun z => (((), z, ()), ((), ()))) (fun y => (y.1.2.1)) (fun _ => rfl)
noncomputable def Zes : Nat → Int × Int × List (Int × Int) → Option (List Int)
 | 0, _ => none
 | k + 1, p0 =>
  Option.bind (Z3H k (Prod.fst p0, Prod.fst p0.2, Prod.snd p0.2)) fun z0 => Option.bind (Z71 k p0.1 p0.2.1 p0.2.2 [] z0 (↑(List.length z0) : Int) (0 : Int)) fun z1 => some z1
noncomputable def Z5v : FnDef := .of ZqB Z8Y (List Int) (fun k x => Zes k x.1) ZnW ZoC ZuQ
noncomputable def Zet : Code := Try.f83.body.getD .skip
noncomputable def Z7B : Ctx (Tup Z8Y × OutD) := { T := T, G := [(81, ZZ.E)], mvs := [], no := 0, n := 26, res := resOf T ZqB Z8Y Try.f83.results.toList, loops := [(0, Z66.E)], regs := [], conds := [], cuts := [] }
theorem ZpZ (k : Nat) : EnvOK Try.prog k Z7B.G := (EnvOK.cons (Z8f k) (EnvOK.nil mixed))
noncomputable def Zbg : Code := (findLoop 0 Zet).getD .skip
theorem ZwG (k : Nat) (x : Zez.D) : Z66.lp (k + 1) x = loopK Z7B Z66 0 Zbg k x := by kernel_rfl
theorem Zxz (k : Nat) : LOK Try.prog Z7B k Zbg := LOK.by [] (by kernel_rfl) AllOK.nil
theorem ZwZ (x : Zez.D) : Z66.lp 0 x = none := by kernel_rfl
theorem Zv0 (k : Nat) : EOK Try.prog Z7B k Z66.E (.block 0 (.loop Zbg)) := Z5 T_ok ZpZ ZwZ ZwG Zxz k
theorem ZAC (k : Nat) (x : Tup Z5v.ps) : Z5v.f (k + 1) x = fnK Z5v Z7B Zet k x := by kernel_rfl
theorem ZAZ (x : Tup Z5v.ps) : Z5v.f 0 x = none := by kernel_rfl
theorem ZAM (k : Nat) : LOK Try.prog Z7B k Zet := LOK.by [(Z66.E, .block 0 (.loop Zbg))] (by kernel_rfl) (AllOK.cons (Zv0 k) AllOK.nil)
theorem ZBd (k : Nat) : SoundAt Try.prog k 83 Z5v.E := @Z1 Try.prog Z5v Z7B 83 Try.f83 Zet (by kernel_rfl) (by kernel_rfl) (by kernel_rfl) Try.func83 (by kernel_rfl) (by kernel_rfl) (by kernel_rfl) T_ok ZpZ ZAM ZAZ ZAC k
noncomputable def Z8W : List PK := [PK.mk (Ty.pair (Ty.int .i64) (Ty.pair (Ty.int .i64) (Ty.slice (71 : Nat) (Ty.pair (Ty.int .i64) (Ty.int .i64))))) true none false none]
noncomputable def ZqK : List PK := [PK.mk (Ty.pair (Ty.int .i64) (Ty.pair (Ty.int .i64) (Ty.slice (71 : Nat) (Ty.pair (Ty.int .i64) (Ty.int .i64))))) true none false none, PK.mk (Ty.slice (3 : Nat) (Ty.int .i64)) false none false none]
noncomputable def ZoY (r : Int × Int × List (Int × Int)) : Tup Z8W × OutD := ((r, ()), none)
noncomputable def Zob : Tup Z8W × OutD → Option (Int × Int × List (Int × Int))
 | (a, none) => some (a.1)
 | _ => none
theorem ZvO : ∀ b r, Zob b = some r → ZoY r = b := by
 rintro ⟨a, o⟩ r h
 cases o with
 | none => injection h with h; subst h; rfl
 | some _ => cases h
noncomputable def Z5d : Nat → Int → Int → List (Int × Int) → Int → Int → List (Int × Int) → Int → Int → List (Int × Int) → List (List Int) → List Int → Int → Int → Option (Int × Int × List (Int × Int) × Int × Int × List (Int × Int))
 | 0, _, _, _, _, _, _, _, _, _, _, _, _, _ => none
 | k + 1, b1_0, b1_1, b1_2, b2_0, b2_1, o3, b4_0, b4_1, o5, o6, v1, v12, v13 =>
  if decide (v13 < v12) = true then if (0 : Int) ≤ v13 then if v13 < (↑(List.length o6) : Int) then if (0 : Int) < (↑(List.length (List.getD o6 (Int.toNat v13) [])) : Int) then if (0 : Int) ≤ List.getD (List.getD o6 (Int.toNat v13) []) (Int.toNat (0 : Int)) (0 : Int) then if List.getD (List.getD o6 (Int.toNat v13) []) (Int.toNat (0 : Int)) (0 : Int) < (↑(List.length b1_2) : Int) then if (0 : Int) ≤ v13 then if v13 < (↑(List.length v1) : Int) then if decide (Prod.snd (List.getD b1_2 (Int.toNat (List.getD (List.getD o6 (Int.toNat v13) []) (Int.toNat (0 : Int)) (0 : Int))) ((0 : Int), (0 : Int))) ≠ List.getD v1 (Int.toNat v13) (0 : Int)) = true then Option.bind (Zeh k (b4_0, b4_1, o5) (List.getD o6 (Int.toNat v13) [])) fun z2 => Z5d k b1_0 b1_1 b1_2 b2_0 b2_1 o3 b4_0 b4_1 z2 o6 v1 v12 (wrap64 (v13 + (1 : Int))) else Z5d k b1_0 b1_1 b1_2 b2_0 b2_1 o3 b4_0 b4_1 o5 o6 v1 v12 (wrap64 (v13 + (1 : Int))) else none else none else none else none else none else none else none else some (b2_0, b2_1, o3, b4_0, b4_1, o5)
noncomputable def ZeK : Spec := Spec.mk [OSh.ro, OSh.box (26 : Nat) [Sh.int .i64, Sh.int .i64, Sh.snap (0 : Nat) (Ty.pair (Ty.int .i64) (Ty.int .i64))], OSh.box (26 : Nat) [Sh.int .i64, Sh.int .i64, Sh.sl (3 : Nat)], OSh.row true (71 : Nat) (Ty.pair (Ty.int .i64) (Ty.int .i64)), OSh.box (26 : Nat) [Sh.int .i64, Sh.int .i64, Sh.sl (5 : Nat)], OSh.row true (71 : Nat) (Ty.pair (Ty.int .i64) (Ty.int .i64)), OSh.row true (36 : Nat) (Ty.slice (3 : Nat) (Ty.int .i64))] [((1 : Nat), TSh.at (Sh.snap (0 : Nat) (Ty.int .i64))), ((2 : Nat), TSh.at (Sh.ptr (1 : Nat) (0 : Nat))), ((4 : Nat), TSh.at (Sh.ptr (2 : Nat) (0 : Nat))), ((5 : Nat), TSh.at (Sh.ptr (4 : Nat) (0 : Nat))), ((11 : Nat), TSh.at (Sh.sl (6 : Nat))), ((12 : Nat), TSh.at (Sh.int .i64)), ((13 : Nat), TSh.at (Sh.int .i64))]
noncomputable def Zxk : Spec := Spec.mk [OSh.ro, OSh.box (26 : Nat) [Sh.int .i64, Sh.int .i64, Sh.sl (2 : Nat)], OSh.row true (71 : Nat) (Ty.pair (Ty.int .i64) (Ty.int .i64)), OSh.box (26 : Nat) [Sh.int .i64, Sh.int .i64, Sh.sl (4 : Nat)], OSh.row true (71 : Nat) (Ty.pair (Ty.int .i64) (Ty.int .i64))] [((4 : Nat), TSh.at (Sh.ptr (1 : Nat) (0 : Nat))), ((5 : Nat), TSh.at (Sh.ptr (3 : Nat) (0 : Nat)))]
noncomputable def Z6g : LoopDef (Tup Z8W × OutD) := .plain ZeK Zxk (Int × Int × List (Int × Int) × Int × Int × List (Int × Int)) (fun k x => Z5d k x.1.2.1.1 x.1.2.1.2.1 x.1.2.1.2.2.1 x.1.2.2.1.1 x.1.2.2.1.2.1 x.1.2.2.2.1 x.1.2.2.2.2.1.1 x.1.2.2.2.2.1.2.1 x.1.2.2.2.2.2.1 x.1.2.2.2.2.2.2.1 x.2.1 x.2.2.2.2.2.2.1 x.2.2.2.2.2.2.2.1) (fun z => (((), (z.1, z.2.1, (), ()), z.2.2.1, (z.2.2.2.1, z.2.2.2.2.1, (), ()), z.2.2.2.2.2, ()), ((), (), ()))) (fun y => (y.1.2.1.1, y.1.2.1.2.1, y.1.2.2.1, y.1.2.2.2.1.1, y.1.2.2.2.1.2.1, y.1.2.2.2.2.1)) (fun _ => rfl)
noncomputable def Zex : Nat → Int × Int × List (Int × Int) → List Int → Option (Int × Int × List (Int × Int))
 | 0, _, _ => none
 | k + 1, p0, p1 =>
  Option.bind (Z58 k (Prod.fst p0, Prod.fst p0.2, Prod.snd p0.2)) fun z0 => Option.bind (Z3H k (Prod.fst p0, Prod.fst p0.2, Prod.snd p0.2)) fun z1 => Option.bind (Z5d k p0.1 p0.2.1 p0.2.2 (0 : Int) (0 : Int) [] z0.1 z0.2.1 z0.2.2 z1 p1 (↑(List.length z1) : Int) (0 : Int)) fun z3 => some (Prod.fst z3.2.2.2, Prod.fst z3.2.2.2.2, Prod.snd z3.2.2.2.2)
noncomputable def Z5x : FnDef := .of ZqK Z8W (Int × Int × List (Int × Int)) (fun k x => Zex k x.1 x.2.1) ZoY Zob ZvO
noncomputable def Zer : Code := Try.f84.body.getD .skip
noncomputable def Z7E : Ctx (Tup Z8W × OutD) := { T := T, G := [(65, Z3m.E), (81, ZZ.E), (99, Z5u.E)], mvs := [], no := 0, n := 36, res := resOf T ZqK Z8W Try.f84.results.toList, loops := [(0, Z6g.E)], regs := [], conds := [], cuts := [] }
theorem ZqG (k : Nat) : EnvOK Try.prog k Z7E.G := (EnvOK.cons (ZfO k) (EnvOK.cons (Z8f k) (EnvOK.cons (ZBN k) (EnvOK.nil mixed))))
noncomputable def Zbe : Code := (findLoop 0 Zer).getD .skip
theorem Zx7 (k : Nat) (x : ZeK.D) : Z6g.lp (k + 1) x = loopK Z7E Z6g 0 Zbe k x := by kernel_rfl
theorem ZwE (k : Nat) : LOK Try.prog Z7E k Zbe := LOK.by [] (by kernel_rfl) AllOK.nil
theorem ZwC (x : ZeK.D) : Z6g.lp 0 x = none := by kernel_rfl
theorem ZuL (k : Nat) : EOK Try.prog Z7E k Z6g.E (.block 0 (.loop Zbe)) := Z5 T_ok ZqG ZwC Zx7 ZwE k
theorem ZBc (k : Nat) (x : Tup Z5x.ps) : Z5x.f (k + 1) x = fnK Z5x Z7E Zer k x := by kernel_rfl
theorem ZAY (x : Tup Z5x.ps) : Z5x.f 0 x = none := by kernel_rfl
theorem ZBA (k : Nat) : LOK Try.prog Z7E k Zer := LOK.by [(Z6g.E, .block 0 (.loop Zbe))] (by kernel_rfl) (AllOK.cons (ZuL k) AllOK.nil)
theorem ZB6 (k : Nat) : SoundAt Try.prog k 84 Z5x.E := @Z1 Try.prog Z5x Z7E 84 Try.f84 Zer (by kernel_rfl) (by kernel_rfl) (by kernel_rfl) Try.func84 (by kernel_rfl) (by kernel_rfl) (by kernel_rfl) T_ok ZqG ZBA ZAY ZBc k
noncomputable def Z53 : List PK := [PK.mk (Ty.pair (Ty.int .i64) (Ty.int .i64)) true none false none]
noncomputable def Zfq : List PK := [PK.mk (Ty.pair (Ty.slice (5 : Nat) (Ty.int .u8)) (Ty.pair (Ty.int .i64) (Ty.int .u64))) false none false (some (58 : Nat))]
noncomputable def Zf2 (r : (Int × Int) × Int × Int) : Tup Z53 × OutD := ((r.1, ()), some ⟨Ty.pair (Ty.slice (5 : Nat) (Ty.int .u8)) (Ty.pair (Ty.int .i64) (Ty.int .u64)), [([], r.2)]⟩)
noncomputable def Zao : Tup Z53 × OutD → Option ((Int × Int) × Int × Int)
 | (a, some ⟨u, ys⟩) => if h : u = Ty.pair (Ty.slice (5 : Nat) (Ty.int .u8)) (Ty.pair (Ty.int .i64) (Ty.int .u64)) then (match castU h ys with
  | [([], y)] => some (a.1, y)
  | _ => none) else none
 | _ => none
theorem Zkq : ∀ b r, Zao b = some r → Zf2 r = b := by
 rintro ⟨a, o⟩ r h
 cases o with
 | none => cases h
 | some s =>
  obtain ⟨u, ys⟩ := s
  simp only [Zao] at h
  split at h
  ·rename_i hu
   subst hu
   match ys, h with
   | [], h => cases (show (none : Option _) = some r from h)
   | [([], y)], h => injection (show some _ = some r from h) with h; subst h; rfl
   | [(_ :: _, y)], h => cases (show (none : Option _) = some r from h)
   | (h1, _) :: _ :: _, h => cases h1 <;> cases (show (none : Option _) = some r from h)
  ·cases h
noncomputable def ZV : Nat → List Int × Int × Int → Option ((Int × Int) × Int × Int)
 | 0, _ => none
 | k + 1, p0 =>
  Option.bind (Z3N k (Prod.fst p0, Prod.fst p0.2, Prod.snd p0.2)) fun z0 => Option.bind (Z0 k (Prod.fst p0, Prod.fst z0.2, Prod.snd z0.2) (20 : Int)) fun z1 => if decide (Prod.fst z1 = (0 : Int)) = true then Option.bind (Za k (Prod.fst p0, Prod.fst z1.2, Prod.snd z1.2) [(-1 : Int), (8 : Int)]) fun z2 => some ((Prod.fst z2, Prod.snd z0.1), Prod.fst z2.2, Prod.snd z2.2) else if decide (Prod.fst z1 = (1 : Int)) = true then Option.bind (Za k (Prod.fst p0, Prod.fst z1.2, Prod.snd z1.2) [(-1 : Int), (1 : Int), (2 : Int)]) fun z3 => some ((Prod.fst z0.1, Prod.fst z3), Prod.fst z3.2, Prod.snd z3.2) else some ((Prod.fst z0.1, Prod.snd z0.1), Prod.fst z1.2, Prod.snd z1.2)
noncomputable def Z1n : FnDef := .of Zfq Z53 ((Int × Int) × Int × Int) (fun k x => ZV k x.1) Zf2 Zao Zkq
noncomputable def ZaZ : Code := Try.f96.body.getD .skip
noncomputable def Z7S : Ctx (Tup Z53 × OutD) := { T := T, G := [(73, Z1N.E), (57, Zd.E), (60, Zq.E)], mvs := [], no := 2, n := 21, res := resOf T Zfq Z53 Try.f96.results.toList, loops := [], regs := [], conds := [], cuts := [] }
theorem Zpz (k : Nat) : EnvOK Try.prog k Z7S.G := (EnvOK.cons (ZiF k) (EnvOK.cons (ZH k) (EnvOK.cons (Z3j k) (EnvOK.nil mixed))))
theorem ZpM (k : Nat) (x : Tup Z1n.ps) : Z1n.f (k + 1) x = fnK Z1n Z7S ZaZ k x := by kernel_rfl
theorem ZpC (x : Tup Z1n.ps) : Z1n.f 0 x = none := by kernel_rfl
theorem Zpk (k : Nat) : LOK Try.prog Z7S k ZaZ := LOK.by [] (by kernel_rfl) AllOK.nil
theorem ZpR (k : Nat) : SoundAt Try.prog k 96 Z1n.E := @Z1 Try.prog Z1n Z7S 96 Try.f96 ZaZ (by kernel_rfl) (by kernel_rfl) (by kernel_rfl) Try.func96 (by kernel_rfl) (by kernel_rfl) (by kernel_rfl) T_ok Zpz Zpk ZpC ZpM k
end
end Go.Proofs.Ytglkedenkcpcbaa.Vs

set_option maxRecDepth 100000
set_option maxHeartbeats 2000000
set_option linter.unusedVariables false
set_option linter.unusedSimpArgs false
namespace Go.Proofs.Ytglkedenkcpcbaa.Vs
open Go.RowKit
noncomputable section
noncomputable def Z6O : List PK := [PK.mk (Ty.int .i64) false none false none, PK.mk Ty.bool false none false none]
noncomputable def Zho : List PK := [PK.mk (Ty.pair (Ty.int .i64) (Ty.pair (Ty.int .i64) (Ty.slice (71 : Nat) (Ty.pair (Ty.int .i64) (Ty.int .i64))))) true none false none]
noncomputable def ZgE (r : Int × Bool) : Tup Z6O × OutD := ((r.1, r.2, ()), none)
noncomputable def ZgI : Tup Z6O × OutD → Option (Int × Bool)
 | (a, none) => some (a.1, a.2.1)
 | _ => none
theorem Zmg : ∀ b r, ZgI b = some r → ZgE r = b := by
 rintro ⟨a, o⟩ r h
 cases o with
 | none => injection h with h; subst h; rfl
 | some _ => cases h
noncomputable def Z96 : Nat → Int × Int × List (Int × Int) → Option (Int × Bool)
 | 0, _ => none
 | k + 1, p0 =>
  Option.bind (Z4s k (Prod.fst p0, Prod.fst p0.2, Prod.snd p0.2)) fun z0 => if (!z0) = true then some ((0 : Int), false) else Option.bind (Z93 k (Prod.fst p0, Prod.fst p0.2, Prod.snd p0.2)) fun z1 => if decide ((↑(List.length z1) : Int) > (16 : Int)) = true then some ((0 : Int), false) else Option.bind (Z56 k z1) fun z2 => some (z2, true)
noncomputable def Z26 : FnDef := .of Zho Z6O (Int × Bool) (fun k x => Z96 k x.1) ZgE ZgI Zmg
noncomputable def ZcH : Code := Try.f18.body.getD .skip
noncomputable def Z98 : Ctx (Tup Z6O × OutD) := { T := T, G := [(51, Z1g.E), (41, Z3v.E), (40, Z1m.E)], mvs := [], no := 0, n := 15, res := resOf T Zho Z6O Try.f18.results.toList, loops := [], regs := [], conds := [], cuts := [] }
theorem Zth (k : Nat) : EnvOK Try.prog k Z98.G := (EnvOK.cons (Zau k) (EnvOK.cons (Zi8 k) (EnvOK.cons (Zcc k) (EnvOK.nil mixed))))
theorem ZsL (k : Nat) (x : Tup Z26.ps) : Z26.f (k + 1) x = fnK Z26 Z98 ZcH k x := by kernel_rfl
theorem Zsh (x : Tup Z26.ps) : Z26.f 0 x = none := by kernel_rfl
theorem Zsp (k : Nat) : LOK Try.prog Z98 k ZcH := LOK.by [] (by kernel_rfl) AllOK.nil
theorem Zu2 (k : Nat) : SoundAt Try.prog k 18 Z26.E := @Z1 Try.prog Z26 Z98 18 Try.f18 ZcH (by kernel_rfl) (by kernel_rfl) (by kernel_rfl) Try.func18 (by kernel_rfl) (by kernel_rfl) (by kernel_rfl) T_ok Zth Zsp Zsh ZsL k
noncomputable def Z7L : List PK := [PK.mk (Ty.pair (Ty.int .i64) (Ty.pair (Ty.int .i64) (Ty.slice (71 : Nat) (Ty.pair (Ty.int .i64) (Ty.int .i64))))) true none false none, PK.mk Ty.bool false none false none]
noncomputable def Zis : List PK := [PK.mk (Ty.pair (Ty.int .i64) (Ty.pair (Ty.int .i64) (Ty.slice (71 : Nat) (Ty.pair (Ty.int .i64) (Ty.int .i64))))) true none false none, PK.mk (Ty.int .i64) false none false none]
noncomputable def ZhU (r : (Int × Int × List (Int × Int)) × Bool) : Tup Z7L × OutD := ((r.1, r.2, ()), none)
noncomputable def ZhE : Tup Z7L × OutD → Option ((Int × Int × List (Int × Int)) × Bool)
 | (a, none) => some (a.1, a.2.1)
 | _ => none
theorem Zo0 : ∀ b r, ZhE b = some r → ZhU r = b := by
 rintro ⟨a, o⟩ r h
 cases o with
 | none => injection h with h; subst h; rfl
 | some _ => cases h
noncomputable def Zaf : Nat → Int × Int × List (Int × Int) → Int → Option ((Int × Int × List (Int × Int)) × Bool)
 | 0, _, _ => none
 | k + 1, p0, p1 =>
  Option.bind (Z7K k (Prod.fst p0, Prod.fst p0.2, Prod.snd p0.2) p1) fun z0 => if (!z0) = true then some (((0 : Int), (0 : Int), []), false) else Option.bind (Z4p k (Prod.fst p0, Prod.fst p0.2, Prod.snd p0.2)) fun z1 => Option.bind (Z2R k (Prod.fst p0, Prod.fst p0.2, Prod.snd p0.2)) fun z2 => Option.bind (ZbR k (Prod.fst z1, Prod.fst z1.2, Prod.snd z1.2) z2 p1) fun z3 => some ((Prod.fst z1, Prod.fst z1.2, Prod.snd z3.2), true)
noncomputable def Z2I : FnDef := .of Zis Z7L ((Int × Int × List (Int × Int)) × Bool) (fun k x => Zaf k x.1 x.2.1) ZhU ZhE Zo0
noncomputable def ZdC : Code := Try.f21.body.getD .skip
noncomputable def Za2 : Ctx (Tup Z7L × OutD) := { T := T, G := [(53, Z1Q.E), (54, Z11.E), (56, ZE.E), (55, Z4U.E)], mvs := [], no := 0, n := 20, res := resOf T Zis Z7L Try.f21.results.toList, loops := [], regs := [], conds := [], cuts := [] }
theorem ZuF (k : Nat) : EnvOK Try.prog k Za2.G := (EnvOK.cons (Zir k) (EnvOK.cons (Zb8 k) (EnvOK.cons (Z8I k) (EnvOK.cons (Znn k) (EnvOK.nil mixed)))))
theorem Zvp (k : Nat) (x : Tup Z2I.ps) : Z2I.f (k + 1) x = fnK Z2I Za2 ZdC k x := by kernel_rfl
theorem Zuy (x : Tup Z2I.ps) : Z2I.f 0 x = none := by kernel_rfl
theorem ZuC (k : Nat) : LOK Try.prog Za2 k ZdC := LOK.by [] (by kernel_rfl) AllOK.nil
theorem Zvg (k : Nat) : SoundAt Try.prog k 21 Z2I.E := @Z1 Try.prog Z2I Za2 21 Try.f21 ZdC (by kernel_rfl) (by kernel_rfl) (by kernel_rfl) Try.func21 (by kernel_rfl) (by kernel_rfl) (by kernel_rfl) T_ok ZuF ZuC Zuy Zvp k
noncomputable def Z28 : List PK := [PK.mk (Ty.pair (Ty.int .i64) (Ty.pair (Ty.int .i64) (Ty.slice (71 : Nat) (Ty.pair (Ty.int .i64) (Ty.int .i64))))) true none false none, PK.mk Ty.bool false none false none]
noncomputable def Zhy : List PK := [PK.mk (Ty.pair (Ty.int .i64) (Ty.pair (Ty.int .i64) (Ty.slice (71 : Nat) (Ty.pair (Ty.int .i64) (Ty.int .i64))))) true none false none, PK.mk (Ty.slice (3 : Nat) (Ty.int .i64)) false none false none]
noncomputable def Z5M (r : (Int × Int × List (Int × Int)) × Bool) : Tup Z28 × OutD := ((r.1, r.2, ()), none)
noncomputable def Z5Q : Tup Z28 × OutD → Option ((Int × Int × List (Int × Int)) × Bool)
 | (a, none) => some (a.1, a.2.1)
 | _ => none
theorem Z6G : ∀ b r, Z5Q b = some r → Z5M r = b := by
 rintro ⟨a, o⟩ r h
 cases o with
 | none => injection h with h; subst h; rfl
 | some _ => cases h
noncomputable def Z3I : Nat → Int → Int → List (Int × Int) → Int → Int → List (Int × Int) → List Int → List Int → Int → Int → Option (LR (Int × Int × List (Int × Int) × Int × Int × List (Int × Int) × List Int) ((Int × Int × List (Int × Int)) × Bool))
 | 0, _, _, _, _, _, _, _, _, _, _ => none
 | k + 1, b1_0, b1_1, b1_2, b2_0, b2_1, o3, v1, v29, v30, v31 =>
  if decide (v31 < v30) = true then if (0 : Int) ≤ v31 then if v31 < (↑(List.length v29) : Int) then if decide (List.getD v29 (Int.toNat v31) (0 : Int) < (0 : Int)) = true then some (LR.ret (((0 : Int), (0 : Int), []), false)) else if decide (List.getD v29 (Int.toNat v31) (0 : Int) ≥ b1_1) = true then some (LR.ret (((0 : Int), (0 : Int), []), false)) else Z3I k b1_0 b1_1 b1_2 b2_0 b2_1 o3 v1 v29 v30 (wrap64 (v31 + (1 : Int))) else none else none else some (LR.go (b1_0, b1_1, b1_2, b2_0, b2_1, o3, v1))
noncomputable def ZaA : Spec := Spec.mk [OSh.ro, OSh.box (26 : Nat) [Sh.int .i64, Sh.int .i64, Sh.snap (0 : Nat) (Ty.pair (Ty.int .i64) (Ty.int .i64))], OSh.box (26 : Nat) [Sh.int .i64, Sh.int .i64, Sh.sl (3 : Nat)], OSh.row true (71 : Nat) (Ty.pair (Ty.int .i64) (Ty.int .i64))] [((1 : Nat), TSh.at (Sh.snap (0 : Nat) (Ty.int .i64))), ((2 : Nat), TSh.at (Sh.ptr (1 : Nat) (0 : Nat))), ((4 : Nat), TSh.at (Sh.ptr (2 : Nat) (0 : Nat))), ((29 : Nat), TSh.at (Sh.snap (0 : Nat) (Ty.int .i64))), ((30 : Nat), TSh.at (Sh.int .i64)), ((31 : Nat), TSh.at (Sh.int .i64))]
noncomputable def ZoF : Spec := Spec.mk [OSh.ro, OSh.box (26 : Nat) [Sh.int .i64, Sh.int .i64, Sh.snap (0 : Nat) (Ty.pair (Ty.int .i64) (Ty.int .i64))], OSh.box (26 : Nat) [Sh.int .i64, Sh.int .i64, Sh.sl (3 : Nat)], OSh.row true (71 : Nat) (Ty.pair (Ty.int .i64) (Ty.int .i64))] [((1 : Nat), TSh.at (Sh.snap (0 : Nat) (Ty.int .i64))), ((2 : Nat), TSh.at (Sh.ptr (1 : Nat) (0 : Nat))), ((4 : Nat), TSh.at (Sh.ptr (2 : Nat) (0 : Nat)))]
noncomputable def Z35 : LoopDef (Tup Z28 × OutD) := .rets ZaA ZoF (Int × Int × List (Int × Int) × Int × Int × List (Int × Int) × List Int) ((Int × Int × List (Int × Int)) × Bool) (fun k x => Z3I k x.1.2.1.1 x.1.2.1.2.1 x.1.2.1.2.2.1 x.1.2.2.1.1 x.1.2.2.1.2.1 x.1.2.2.2.1 x.2.1 x.2.2.2.2.1 x.2.2.2.2.2.1 x.2.2.2.2.2.2.1) (fun z => (((), (z.1, z.2.1, z.2.2.1, ()), (z.2.2.2.1, z.2.2.2.2.1, (), ()), z.2.2.2.2.2.1, ()), (z.2.2.2.2.2.2, (), (), ()))) (fun y => (y.1.2.1.1, y.1.2.1.2.1, y.1.2.1.2.2.1, y.1.2.2.1.1, y.1.2.2.1.2.1, y.1.2.2.2.1, y.2.1)) (fun _ => rfl) Z5M Z5Q Z6G
noncomputable def Z2i : Nat → Int → Int → List (Int × Int) → Int → Int → List (Int × Int) → List (List Int) → Int → Int → Int → Int → Int → Int → Option (LR (Int × Int × List (Int × Int) × Int × Int × List (Int × Int) × List (List Int) × Int × Int) ((Int × Int × List (Int × Int)) × Bool))
 | 0, _, _, _, _, _, _, _, _, _, _, _, _, _ => none
 | k + 1, b1_0, b1_1, b1_2, b2_0, b2_1, o3, o4, v9, v10, v11, v61, v62, v63 =>
  if decide (v63 < v62) = true then if (0 : Int) ≤ v63 then if v63 < (↑(List.length (List.getD o4 (Int.toNat v61) [])) : Int) then if decide (List.getD (List.getD o4 (Int.toNat v61) []) (Int.toNat v63) (0 : Int) = v9) = true then if decide (v11 ≥ (0 : Int)) = true then some (LR.ret (((0 : Int), (0 : Int), []), false)) else Z2i k b1_0 b1_1 b1_2 b2_0 b2_1 o3 o4 v9 v10 v63 v61 v62 (wrap64 (v63 + (1 : Int))) else Z2i k b1_0 b1_1 b1_2 b2_0 b2_1 o3 o4 v9 v10 v11 v61 v62 (wrap64 (v63 + (1 : Int))) else none else none else some (LR.go (b1_0, b1_1, b1_2, b2_0, b2_1, o3, o4, v10, v11))
noncomputable def Zal : Spec := Spec.mk [OSh.ro, OSh.box (26 : Nat) [Sh.int .i64, Sh.int .i64, Sh.snap (0 : Nat) (Ty.pair (Ty.int .i64) (Ty.int .i64))], OSh.box (26 : Nat) [Sh.int .i64, Sh.int .i64, Sh.sl (3 : Nat)], OSh.row true (71 : Nat) (Ty.pair (Ty.int .i64) (Ty.int .i64)), OSh.row true (36 : Nat) (Ty.slice (3 : Nat) (Ty.int .i64))] [((2 : Nat), TSh.at (Sh.ptr (1 : Nat) (0 : Nat))), ((4 : Nat), TSh.at (Sh.ptr (2 : Nat) (0 : Nat))), ((8 : Nat), TSh.at (Sh.sl (4 : Nat))), ((9 : Nat), TSh.at (Sh.int .i64)), ((10 : Nat), TSh.at (Sh.int .i64)), ((11 : Nat), TSh.at (Sh.int .i64)), ((61 : Nat), TSh.at (Sh.inn (4 : Nat))), ((62 : Nat), TSh.at (Sh.int .i64)), ((63 : Nat), TSh.at (Sh.int .i64))]
noncomputable def Zom : Spec := Spec.mk [OSh.ro, OSh.box (26 : Nat) [Sh.int .i64, Sh.int .i64, Sh.snap (0 : Nat) (Ty.pair (Ty.int .i64) (Ty.int .i64))], OSh.box (26 : Nat) [Sh.int .i64, Sh.int .i64, Sh.sl (3 : Nat)], OSh.row true (71 : Nat) (Ty.pair (Ty.int .i64) (Ty.int .i64)), OSh.row true (36 : Nat) (Ty.slice (3 : Nat) (Ty.int .i64))] [((2 : Nat), TSh.at (Sh.ptr (1 : Nat) (0 : Nat))), ((4 : Nat), TSh.at (Sh.ptr (2 : Nat) (0 : Nat))), ((8 : Nat), TSh.at (Sh.sl (4 : Nat))), ((10 : Nat), TSh.at (Sh.int .i64)), ((11 : Nat), TSh.at (Sh.int .i64))]
noncomputable def Z3e : LoopDef (Tup Z28 × OutD) := .rets Zal Zom (Int × Int × List (Int × Int) × Int × Int × List (Int × Int) × List (List Int) × Int × Int) ((Int × Int × List (Int × Int)) × Bool) (fun k x => Z2i k x.1.2.1.1 x.1.2.1.2.1 x.1.2.1.2.2.1 x.1.2.2.1.1 x.1.2.2.1.2.1 x.1.2.2.2.1 x.1.2.2.2.2.1 x.2.2.2.2.1 x.2.2.2.2.2.1 x.2.2.2.2.2.2.1 x.2.2.2.2.2.2.2.1 x.2.2.2.2.2.2.2.2.1 x.2.2.2.2.2.2.2.2.2.1) (fun z => (((), (z.1, z.2.1, z.2.2.1, ()), (z.2.2.2.1, z.2.2.2.2.1, (), ()), z.2.2.2.2.2.1, z.2.2.2.2.2.2.1, ()), ((), (), (), z.2.2.2.2.2.2.2.1, z.2.2.2.2.2.2.2.2, ()))) (fun y => (y.1.2.1.1, y.1.2.1.2.1, y.1.2.1.2.2.1, y.1.2.2.1.1, y.1.2.2.1.2.1, y.1.2.2.2.1, y.1.2.2.2.2.1, y.2.2.2.2.1, y.2.2.2.2.2.1)) (fun _ => rfl) Z5M Z5Q Z6G
noncomputable def Z3D : Nat → Int → Int → List (Int × Int) → Int → Int → List (Int × Int) → List (List Int) → Int → Int → Option (LR (Int × Int × List (Int × Int) × Int × Int × List (Int × Int) × Int) ((Int × Int × List (Int × Int)) × Bool))
 | 0, _, _, _, _, _, _, _, _, _ => none
 | k + 1, b1_0, b1_1, b1_2, b2_0, b2_1, o3, o4, v9, v10 =>
  if decide (v10 ≥ (0 : Int)) = true then if (0 : Int) ≤ v10 then if v10 < (↑(List.length o4) : Int) then Option.bind (Z2i k b1_0 b1_1 b1_2 b2_0 b2_1 o3 o4 v9 v10 (-1 : Int) v10 (↑(List.length (List.getD o4 (Int.toNat v10) [])) : Int) (0 : Int)) fun z6 => LR.on z6 (fun y6 => if decide (Prod.snd y6.2.2.2.2.2.2.2 < (0 : Int)) = true then some (LR.ret (((0 : Int), (0 : Int), []), false)) else Z3D k y6.1 y6.2.1 y6.2.2.1 y6.2.2.2.1 y6.2.2.2.2.1 y6.2.2.2.2.2.1 y6.2.2.2.2.2.2.1 y6.2.2.2.2.2.2.2.2 (wrap64 (Prod.fst y6.2.2.2.2.2.2.2 - (1 : Int)))) fun r6 => some (LR.ret r6) else none else none else some (LR.go (b1_0, b1_1, b1_2, b2_0, b2_1, o3, v9))
noncomputable def Zas : Spec := Spec.mk [OSh.ro, OSh.box (26 : Nat) [Sh.int .i64, Sh.int .i64, Sh.snap (0 : Nat) (Ty.pair (Ty.int .i64) (Ty.int .i64))], OSh.box (26 : Nat) [Sh.int .i64, Sh.int .i64, Sh.sl (3 : Nat)], OSh.row true (71 : Nat) (Ty.pair (Ty.int .i64) (Ty.int .i64)), OSh.row true (36 : Nat) (Ty.slice (3 : Nat) (Ty.int .i64))] [((2 : Nat), TSh.at (Sh.ptr (1 : Nat) (0 : Nat))), ((4 : Nat), TSh.at (Sh.ptr (2 : Nat) (0 : Nat))), ((8 : Nat), TSh.at (Sh.sl (4 : Nat))), ((9 : Nat), TSh.at (Sh.int .i64)), ((10 : Nat), TSh.at (Sh.int .i64))]
noncomputable def Zp6 : Spec := Spec.mk [OSh.ro, OSh.box (26 : Nat) [Sh.int .i64, Sh.int .i64, Sh.snap (0 : Nat) (Ty.pair (Ty.int .i64) (Ty.int .i64))], OSh.box (26 : Nat) [Sh.int .i64, Sh.int .i64, Sh.sl (3 : Nat)], OSh.row true (71 : Nat) (Ty.pair (Ty.int .i64) (Ty.int .i64))] [((2 : Nat), TSh.at (Sh.ptr (1 : Nat) (0 : Nat))), ((4 : Nat), TSh.at (Sh.ptr (2 : Nat) (0 : Nat))), ((9 : Nat), TSh.at (Sh.int .i64))]
noncomputable def Z34 : LoopDef (Tup Z28 × OutD) := .rets Zas Zp6 (Int × Int × List (Int × Int) × Int × Int × List (Int × Int) × Int) ((Int × Int × List (Int × Int)) × Bool) (fun k x => Z3D k x.1.2.1.1 x.1.2.1.2.1 x.1.2.1.2.2.1 x.1.2.2.1.1 x.1.2.2.1.2.1 x.1.2.2.2.1 x.1.2.2.2.2.1 x.2.2.2.2.1 x.2.2.2.2.2.1) (fun z => (((), (z.1, z.2.1, z.2.2.1, ()), (z.2.2.2.1, z.2.2.2.2.1, (), ()), z.2.2.2.2.2.1, ()), ((), (), z.2.2.2.2.2.2, ()))) (fun y => (y.1.2.1.1, y.1.2.1.2.1, y.1.2.1.2.2.1, y.1.2.2.1.1, y.1.2.2.1.2.1, y.1.2.2.2.1, y.2.2.2.1)) (fun _ => rfl) Z5M Z5Q Z6G
noncomputable def Z9c : Nat → Int × Int × List (Int × Int) → List Int → Option ((Int × Int × List (Int × Int)) × Bool)
 | 0, _, _ => none
 | k + 1, p0, p1 =>
  Option.bind (Z4s k (Prod.fst p0, Prod.fst p0.2, Prod.snd p0.2)) fun z0 => if (!z0) = true then some (((0 : Int), (0 : Int), []), false) else Option.bind (Z4H k (Prod.fst p0, Prod.fst p0.2, Prod.snd p0.2)) fun z1 => if decide ((↑(List.length z1) : Int) > (10 : Int)) = true then some (((0 : Int), (0 : Int), []), false) else if decide ((↑(List.length p1) : Int) > (20 : Int)) = true then some (((0 : Int), (0 : Int), []), false) else Option.bind (Z3I k p0.1 p0.2.1 p0.2.2 (0 : Int) (0 : Int) [] p1 p1 (↑(List.length p1) : Int) (0 : Int)) fun z2 => LR.on z2 (fun y2 => Option.bind (Z2P k (Prod.fst y2, Prod.fst y2.2, Prod.fst y2.2.2) y2.2.2.2.2.2.2) fun z3 => Option.bind (Z93 k (Prod.fst y2, Prod.fst y2.2, Prod.fst y2.2.2)) fun z4 => Option.bind (Z56 k z4) fun z5 => Option.bind (Z3D k y2.1 y2.2.1 y2.2.2.1 y2.2.2.2.1 y2.2.2.2.2.1 y2.2.2.2.2.2.1 z3 z5 (wrap64 ((↑(List.length y2.2.2.2.2.2.2) : Int) - (1 : Int)))) fun z7 => LR.on z7 (fun y7 => Option.bind (Z5R k (Prod.fst y7, Prod.fst y7.2, Prod.fst y7.2.2) y7.2.2.2.2.2.2) fun z8 => some ((Prod.fst z8.1, Prod.fst z8.1.2, Prod.snd z8.1.2), Prod.snd z8)) fun r7 => some r7) fun r2 => some r2
noncomputable def Z23 : FnDef := .of Zhy Z28 ((Int × Int × List (Int × Int)) × Bool) (fun k x => Z9c k x.1 x.2.1) Z5M Z5Q Z6G
noncomputable def Z4E : Code := Try.f23.body.getD .skip
noncomputable def Zx : Ctx (Tup Z28 × OutD) := { T := T, G := [(51, Z1g.E), (63, Z1h.E), (42, ZD.E), (41, Z3v.E), (40, Z1m.E), (43, Z16.E)], mvs := [], no := 0, n := 85, res := resOf T Zhy Z28 Try.f23.results.toList, loops := [(0, Z35.E), (4, Z3e.E), (2, Z34.E)], regs := [], conds := [], cuts := [] }
theorem Z97 (k : Nat) : EnvOK Try.prog k Zx.G := (EnvOK.cons (Zau k) (EnvOK.cons (Zar k) (EnvOK.cons (Z8E k) (EnvOK.cons (Zi8 k) (EnvOK.cons (Zcc k) (EnvOK.cons (Zgw k) (EnvOK.nil mixed)))))))
noncomputable def Z7d : Code := (findLoop 0 Z4E).getD .skip
theorem ZnT (k : Nat) (x : ZaA.D) : Z35.lp (k + 1) x = loopK Zx Z35 0 Z7d k x := by kernel_rfl
theorem ZnP (k : Nat) : LOK Try.prog Zx k Z7d := LOK.by [] (by kernel_rfl) AllOK.nil
theorem Zp1 (x : ZaA.D) : Z35.lp 0 x = none := by kernel_rfl
theorem Zmf (k : Nat) : EOK Try.prog Zx k Z35.E (.block 0 (.loop Z7d)) := Z5 T_ok Z97 Zp1 ZnT ZnP k
noncomputable def Z7j : Code := (findLoop 4 Z4E).getD .skip
theorem ZnQ (k : Nat) (x : Zal.D) : Z3e.lp (k + 1) x = loopK Zx Z3e 4 Z7j k x := by kernel_rfl
theorem Zp3 (k : Nat) : LOK Try.prog Zx k Z7j := LOK.by [] (by kernel_rfl) AllOK.nil
theorem ZnJ (x : Zal.D) : Z3e.lp 0 x = none := by kernel_rfl
theorem Zni (k : Nat) : EOK Try.prog Zx k Z3e.E (.block 4 (.loop Z7j)) := Z5 T_ok Z97 ZnJ ZnQ Zp3 k
noncomputable def Z7p : Code := (findLoop 2 Z4E).getD .skip
theorem Zoa (k : Nat) (x : Zas.D) : Z34.lp (k + 1) x = loopK Zx Z34 2 Z7p k x := by kernel_rfl
theorem ZnS (k : Nat) : LOK Try.prog Zx k Z7p := LOK.by [(Z3e.E, .block 4 (.loop Z7j))] (by kernel_rfl) (AllOK.cons (Zni k) AllOK.nil)
theorem Zo3 (x : Zas.D) : Z34.lp 0 x = none := by kernel_rfl
theorem ZmT (k : Nat) : EOK Try.prog Zx k Z34.E (.block 2 (.loop Z7p)) := Z5 T_ok Z97 Zo3 Zoa ZnS k
theorem Zu7 (k : Nat) (x : Tup Z23.ps) : Z23.f (k + 1) x = fnK Z23 Zx Z4E k x := by kernel_rfl
theorem ZtN (x : Tup Z23.ps) : Z23.f 0 x = none := by kernel_rfl
theorem Ztb (k : Nat) : LOK Try.prog Zx k Z4E := LOK.by [(Z35.E, .block 0 (.loop Z7d)), (Z34.E, .block 2 (.loop Z7p))] (by kernel_rfl) (AllOK.cons (Zmf k) (AllOK.cons (ZmT k) AllOK.nil))
theorem Zub (k : Nat) : SoundAt Try.prog k 23 Z23.E := @Z1 Try.prog Z23 Zx 23 Try.f23 Z4E (by kernel_rfl) (by kernel_rfl) (by kernel_rfl) Try.func23 (by kernel_rfl) (by kernel_rfl) (by kernel_rfl) T_ok Z97 Ztb ZtN Zu7 k
noncomputable def ZaD : List PK := [PK.mk (Ty.slice (75 : Nat) (Ty.pair (Ty.int .i64) (Ty.pair (Ty.int .i64) (Ty.int .i64)))) false none false none, PK.mk (Ty.pair (Ty.int .i64) (Ty.pair (Ty.int .i64) (Ty.slice (71 : Nat) (Ty.pair (Ty.int .i64) (Ty.int .i64))))) true none false none, PK.mk Ty.bool false none false none]
noncomputable def Zoo : List PK := [PK.mk (Ty.pair (Ty.int .i64) (Ty.pair (Ty.int .i64) (Ty.slice (71 : Nat) (Ty.pair (Ty.int .i64) (Ty.int .i64))))) true none false none, PK.mk (Ty.slice (3 : Nat) (Ty.int .i64)) false none false none]
noncomputable def ZlA (r : List (Int × Int × Int) × (Int × Int × List (Int × Int)) × Bool) : Tup ZaD × OutD := ((r.1, r.2.1, r.2.2, ()), none)
noncomputable def ZlH : Tup ZaD × OutD → Option (List (Int × Int × Int) × (Int × Int × List (Int × Int)) × Bool)
 | (a, none) => some (a.1, a.2.1, a.2.2.1)
 | _ => none
theorem ZtK : ∀ b r, ZlH b = some r → ZlA r = b := by
 rintro ⟨a, o⟩ r h
 cases o with
 | none => injection h with h; subst h; rfl
 | some _ => cases h
noncomputable def Zay : Nat → Int × Int × List (Int × Int) → List Int → Option (List (Int × Int × Int) × (Int × Int × List (Int × Int)) × Bool)
 | 0, _, _ => none
 | k + 1, p0, p1 =>
  Option.bind (Z8L k (Prod.fst p0, Prod.fst p0.2, Prod.snd p0.2) p1) fun z0 => if (!z0) = true then some ([], ((0 : Int), (0 : Int), []), false) else Option.bind (Zd1 k (Prod.fst p0, Prod.fst p0.2, Prod.snd p0.2) p1) fun z1 => some (Prod.fst z1, (Prod.fst z1.2, Prod.fst z1.2.2, Prod.snd z1.2.2), true)
noncomputable def Z4G : FnDef := .of Zoo ZaD (List (Int × Int × Int) × (Int × Int × List (Int × Int)) × Bool) (fun k x => Zay k x.1 x.2.1) ZlA ZlH ZtK
noncomputable def ZgS : Code := Try.f25.body.getD .skip
noncomputable def Zd9 : Ctx (Tup ZaD × OutD) := { T := T, G := [(66, Z1H.E), (67, Z4t.E)], mvs := [], no := 0, n := 22, res := resOf T Zoo ZaD Try.f25.results.toList, loops := [], regs := [], conds := [], cuts := [] }
theorem ZA4 (k : Nat) : EnvOK Try.prog k Zd9.G := (EnvOK.cons (Zrg k) (EnvOK.cons (ZzC k) (EnvOK.nil mixed)))
theorem ZzA (k : Nat) (x : Tup Z4G.ps) : Z4G.f (k + 1) x = fnK Z4G Zd9 ZgS k x := by kernel_rfl
theorem ZA1 (x : Tup Z4G.ps) : Z4G.f 0 x = none := by kernel_rfl
theorem ZzM (k : Nat) : LOK Try.prog Zd9 k ZgS := LOK.by [] (by kernel_rfl) AllOK.nil
theorem ZzU (k : Nat) : SoundAt Try.prog k 25 Z4G.E := @Z1 Try.prog Z4G Zd9 25 Try.f25 ZgS (by kernel_rfl) (by kernel_rfl) (by kernel_rfl) Try.func25 (by kernel_rfl) (by kernel_rfl) (by kernel_rfl) T_ok ZA4 ZzM ZA1 ZzA k
noncomputable def Z9d : List PK := [PK.mk Ty.bool false none false none]
noncomputable def ZlO : List PK := [PK.mk (Ty.pair (Ty.int .i64) (Ty.pair (Ty.int .i64) (Ty.slice (71 : Nat) (Ty.pair (Ty.int .i64) (Ty.int .i64))))) true none false none, PK.mk (Ty.int .i64) false none false none]
noncomputable def Zkb (r : Bool) : Tup Z9d × OutD := ((r, ()), none)
noncomputable def Zk6 : Tup Z9d × OutD → Option (Bool)
 | (a, none) => some (a.1)
 | _ => none
theorem ZqY : ∀ b r, Zk6 b = some r → Zkb r = b := by
 rintro ⟨a, o⟩ r h
 cases o with
 | none => injection h with h; subst h; rfl
 | some _ => cases h
noncomputable def Z7m : Nat → Int × Int × List (Int × Int) → Int → Option Bool
 | 0, _, _ => none
 | k + 1, p0, p1 =>
  Option.bind (Z7K k (Prod.fst p0, Prod.fst p0.2, Prod.snd p0.2) p1) fun z0 => if z0 = true then Option.bind (Z4H k (Prod.fst p0, Prod.fst p0.2, Prod.snd p0.2)) fun z1 => some (decide ((↑(List.length z1) : Int) ≤ (10 : Int))) else some false
noncomputable def Z1Y : FnDef := .of ZlO Z9d (Bool) (fun k x => Z7m k x.1 x.2.1) Zkb Zk6 ZqY
noncomputable def ZfU : Code := Try.f39.body.getD .skip
noncomputable def Zcj : Ctx (Tup Z9d × OutD) := { T := T, G := [(53, Z1Q.E), (63, Z1h.E)], mvs := [], no := 0, n := 14, res := resOf T ZlO Z9d Try.f39.results.toList, loops := [], regs := [], conds := [], cuts := [] }
theorem Zy2 (k : Nat) : EnvOK Try.prog k Zcj.G := (EnvOK.cons (Zir k) (EnvOK.cons (Zar k) (EnvOK.nil mixed)))
theorem ZyJ (k : Nat) (x : Tup Z1Y.ps) : Z1Y.f (k + 1) x = fnK Z1Y Zcj ZfU k x := by kernel_rfl
theorem ZyZ (x : Tup Z1Y.ps) : Z1Y.f 0 x = none := by kernel_rfl
theorem Zy3 (k : Nat) : LOK Try.prog Zcj k ZfU := LOK.by [] (by kernel_rfl) AllOK.nil
theorem ZfF (k : Nat) : SoundAt Try.prog k 39 Z1Y.E := @Z1 Try.prog Z1Y Zcj 39 Try.f39 ZfU (by kernel_rfl) (by kernel_rfl) (by kernel_rfl) Try.func39 (by kernel_rfl) (by kernel_rfl) (by kernel_rfl) T_ok Zy2 Zy3 ZyZ ZyJ k
noncomputable def ZcD : List PK := [PK.mk Ty.bool false none false none]
noncomputable def Ztz : List PK := [PK.mk (Ty.pair (Ty.int .i64) (Ty.pair (Ty.int .i64) (Ty.slice (71 : Nat) (Ty.pair (Ty.int .i64) (Ty.int .i64))))) true none false none, PK.mk (Ty.int .i64) false none false none]
noncomputable def Zqo (r : Bool) : Tup ZcD × OutD := ((r, ()), none)
noncomputable def Zq7 : Tup ZcD × OutD → Option (Bool)
 | (a, none) => some (a.1)
 | _ => none
theorem Zxi : ∀ b r, Zq7 b = some r → Zqo r = b := by
 rintro ⟨a, o⟩ r h
 cases o with
 | none => injection h with h; subst h; rfl
 | some _ => cases h
noncomputable def Z6P : Nat → Int × Int × List (Int × Int) → Int → Option Bool
 | 0, _, _ => none
 | k + 1, p0, p1 =>
  Option.bind (ZfV k (Prod.fst p0, Prod.fst p0.2, Prod.snd p0.2) p1) fun z0 => if z0 = true then Option.bind (Z3H k (Prod.fst p0, Prod.fst p0.2, Prod.snd p0.2)) fun z1 => some (decide ((↑(List.length z1) : Int) ≤ (10 : Int))) else some false
noncomputable def Z2l : FnDef := .of Ztz ZcD (Bool) (fun k x => Z6P k x.1 x.2.1) Zqo Zq7 Zxi
noncomputable def ZjW : Code := Try.f44.body.getD .skip
noncomputable def ZfJ : Ctx (Tup ZcD × OutD) := { T := T, G := [(70, Z6V.E), (81, ZZ.E)], mvs := [], no := 0, n := 14, res := resOf T Ztz ZcD Try.f44.results.toList, loops := [], regs := [], conds := [], cuts := [] }
theorem ZCt (k : Nat) : EnvOK Try.prog k ZfJ.G := (EnvOK.cons (ZCK k) (EnvOK.cons (Z8f k) (EnvOK.nil mixed)))
theorem ZC6 (k : Nat) (x : Tup Z2l.ps) : Z2l.f (k + 1) x = fnK Z2l ZfJ ZjW k x := by kernel_rfl
theorem ZCj (x : Tup Z2l.ps) : Z2l.f 0 x = none := by kernel_rfl
theorem ZCy (k : Nat) : LOK Try.prog ZfJ k ZjW := LOK.by [] (by kernel_rfl) AllOK.nil
theorem Zcx (k : Nat) : SoundAt Try.prog k 44 Z2l.E := @Z1 Try.prog Z2l ZfJ 44 Try.f44 ZjW (by kernel_rfl) (by kernel_rfl) (by kernel_rfl) Try.func44 (by kernel_rfl) (by kernel_rfl) (by kernel_rfl) T_ok ZCt ZCy ZCj ZC6 k
noncomputable def Z78 : List PK := [PK.mk (Ty.int .i64) false none false none]
noncomputable def ZlT : List PK := [PK.mk (Ty.pair (Ty.int .i64) (Ty.pair (Ty.int .i64) (Ty.slice (71 : Nat) (Ty.pair (Ty.int .i64) (Ty.int .i64))))) true none false none]
noncomputable def Zkr (r : Int) : Tup Z78 × OutD := ((r, ()), none)
noncomputable def ZjF : Tup Z78 × OutD → Option (Int)
 | (a, none) => some (a.1)
 | _ => none
theorem ZrI : ∀ b r, ZjF b = some r → Zkr r = b := by
 rintro ⟨a, o⟩ r h
 cases o with
 | none => injection h with h; subst h; rfl
 | some _ => cases h
noncomputable def Z5r : Nat → List Int → Int → Int → Int → Option Int
 | 0, _, _, _, _ => none
 | k + 1, o1, v3, v8, v9 =>
  if decide (v9 < v8) = true then if (0 : Int) ≤ v9 then if v9 < (↑(List.length o1) : Int) then if IntKind.wrap IntKind.u64 v9 < (0 : Int) then none else Z5r k o1 (wrap64 (v3 + shlS (List.getD o1 (Int.toNat v9) (0 : Int)) (IntKind.wrap IntKind.u64 v9))) v8 (wrap64 (v9 + (1 : Int))) else none else none else some v3
noncomputable def ZcM : Spec := Spec.mk [OSh.ro, OSh.row true (3 : Nat) (Ty.int .i64)] [((3 : Nat), TSh.at (Sh.int .i64)), ((7 : Nat), TSh.at (Sh.sl (1 : Nat))), ((8 : Nat), TSh.at (Sh.int .i64)), ((9 : Nat), TSh.at (Sh.int .i64))]
noncomputable def Zu9 : Spec := Spec.mk [OSh.ro] [((3 : Nat), TSh.at (Sh.int .i64))]
noncomputable def Z4I : LoopDef (Tup Z78 × OutD) := .plain ZcM Zu9 (Int) (fun k x => Z5r k x.1.2.1 x.2.1 x.2.2.2.1 x.2.2.2.2.1) (fun z => (((), ()), (z, ()))) (fun y => (y.2.1)) (fun _ => rfl)
noncomputable def Z52 : Nat → Int × Int × List (Int × Int) → Option Int
 | 0, _ => none
 | k + 1, p0 =>
  Option.bind (Zes k (Prod.fst p0, Prod.fst p0.2, Prod.snd p0.2)) fun z0 => Option.bind (Z5r k z0 (0 : Int) (↑(List.length z0) : Int) (0 : Int)) fun z1 => some z1
noncomputable def Z1o : FnDef := .of ZlT Z78 (Int) (fun k x => Z52 k x.1) Zkr ZjF ZrI
noncomputable def Zcg : Code := Try.f47.body.getD .skip
noncomputable def Z59 : Ctx (Tup Z78 × OutD) := { T := T, G := [(83, Z5v.E)], mvs := [], no := 0, n := 22, res := resOf T ZlT Z78 Try.f47.results.toList, loops := [(0, Z4I.E)], regs := [], conds := [], cuts := [] }
theorem ZlJ (k : Nat) : EnvOK Try.prog k Z59.G := (EnvOK.cons (ZBd k) (EnvOK.nil mixed))
noncomputable def Z9s : Code := (findLoop 0 Zcg).getD .skip
theorem Zsi (k : Nat) (x : ZcM.D) : Z4I.lp (k + 1) x = loopK Z59 Z4I 0 Z9s k x := by kernel_rfl
theorem ZsO (k : Nat) : LOK Try.prog Z59 k Z9s := LOK.by [] (by kernel_rfl) AllOK.nil
theorem ZsP (x : ZcM.D) : Z4I.lp 0 x = none := by kernel_rfl
theorem ZrA (k : Nat) : EOK Try.prog Z59 k Z4I.E (.block 0 (.loop Z9s)) := Z5 T_ok ZlJ ZsP Zsi ZsO k
theorem Zyu (k : Nat) (x : Tup Z1o.ps) : Z1o.f (k + 1) x = fnK Z1o Z59 Zcg k x := by kernel_rfl
theorem Zyf (x : Tup Z1o.ps) : Z1o.f 0 x = none := by kernel_rfl
theorem Zz1 (k : Nat) : LOK Try.prog Z59 k Zcg := LOK.by [(Z4I.E, .block 0 (.loop Z9s))] (by kernel_rfl) (AllOK.cons (ZrA k) AllOK.nil)
theorem Zc5 (k : Nat) : SoundAt Try.prog k 47 Z1o.E := @Z1 Try.prog Z1o Z59 47 Try.f47 Zcg (by kernel_rfl) (by kernel_rfl) (by kernel_rfl) Try.func47 (by kernel_rfl) (by kernel_rfl) (by kernel_rfl) T_ok ZlJ Zz1 Zyf Zyu k
noncomputable def ZbL : List PK := [PK.mk (Ty.pair (Ty.int .i64) (Ty.pair (Ty.int .i64) (Ty.slice (71 : Nat) (Ty.pair (Ty.int .i64) (Ty.int .i64))))) true none false none]
noncomputable def Zw2 : List PK := [PK.mk (Ty.pair (Ty.int .i64) (Ty.pair (Ty.int .i64) (Ty.slice (71 : Nat) (Ty.pair (Ty.int .i64) (Ty.int .i64))))) true none false none, PK.mk (Ty.int .i64) false none false none]
noncomputable def Zsb (r : Int × Int × List (Int × Int)) : Tup ZbL × OutD := ((r, ()), none)
noncomputable def Zt9 : Tup ZbL × OutD → Option (Int × Int × List (Int × Int))
 | (a, none) => some (a.1)
 | _ => none
theorem ZyT : ∀ b r, Zt9 b = some r → Zsb r = b := by
 rintro ⟨a, o⟩ r h
 cases o with
 | none => injection h with h; subst h; rfl
 | some _ => cases h
noncomputable def Z8U : Nat → Int → Int → List (Int × Int) → Int → Int → List (Int × Int) → List Int → Int → Int → Int → Option (Int × Int × List (Int × Int) × Int × Int × List (Int × Int) × List Int)
 | 0, _, _, _, _, _, _, _, _, _, _ => none
 | k + 1, b1_0, b1_1, b1_2, b2_0, b2_1, o3, o4, v1, v9, v10 =>
  if decide (v10 < v9) = true then if IntKind.wrap IntKind.u64 v10 < (0 : Int) then none else if List.length o4 + List.length [bits BinOp.and IntKind.i64 (Int.fdiv v1 ((2 : Int) ^ min (Int.toNat (IntKind.wrap IntKind.u64 v10)) (IntKind.bits IntKind.i64))) (1 : Int)] ≤ (140737488355328 / 8 : Nat) then Z8U k b1_0 b1_1 b1_2 b2_0 b2_1 o3 (o4 ++ [bits BinOp.and IntKind.i64 (Int.fdiv v1 ((2 : Int) ^ min (Int.toNat (IntKind.wrap IntKind.u64 v10)) (IntKind.bits IntKind.i64))) (1 : Int)]) v1 v9 (wrap64 (v10 + (1 : Int))) else none else some (b1_0, b1_1, b1_2, b2_0, b2_1, o3, o4)
noncomputable def ZgQ : Spec := Spec.mk [OSh.ro, OSh.box (26 : Nat) [Sh.int .i64, Sh.int .i64, Sh.snap (0 : Nat) (Ty.pair (Ty.int .i64) (Ty.int .i64))], OSh.box (26 : Nat) [Sh.int .i64, Sh.int .i64, Sh.sl (3 : Nat)], OSh.row true (71 : Nat) (Ty.pair (Ty.int .i64) (Ty.int .i64)), OSh.row true (3 : Nat) (Ty.int .i64)] [((1 : Nat), TSh.at (Sh.int .i64)), ((2 : Nat), TSh.at (Sh.ptr (1 : Nat) (0 : Nat))), ((4 : Nat), TSh.at (Sh.ptr (2 : Nat) (0 : Nat))), ((5 : Nat), TSh.at (Sh.sl (4 : Nat))), ((9 : Nat), TSh.at (Sh.int .i64)), ((10 : Nat), TSh.at (Sh.int .i64))]
noncomputable def Zzy : Spec := Spec.mk [OSh.ro, OSh.box (26 : Nat) [Sh.int .i64, Sh.int .i64, Sh.snap (0 : Nat) (Ty.pair (Ty.int .i64) (Ty.int .i64))], OSh.box (26 : Nat) [Sh.int .i64, Sh.int .i64, Sh.sl (3 : Nat)], OSh.row true (71 : Nat) (Ty.pair (Ty.int .i64) (Ty.int .i64)), OSh.row true (3 : Nat) (Ty.int .i64)] [((2 : Nat), TSh.at (Sh.ptr (1 : Nat) (0 : Nat))), ((4 : Nat), TSh.at (Sh.ptr (2 : Nat) (0 : Nat))), ((5 : Nat), TSh.at (Sh.sl (4 : Nat)))]
noncomputable def Z87 : LoopDef (Tup ZbL × OutD) := .plain ZgQ Zzy (Int × Int × List (Int × Int) × Int × Int × List (Int × Int) × List Int) (fun k x => Z8U k x.1.2.1.1 x.1.2.1.2.1 x.1.2.1.2.2.1 x.1.2.2.1.1 x.1.2.2.1.2.1 x.1.2.2.2.1 x.1.2.2.2.2.1 x.2.1 x.2.2.2.2.2.1 x.2.2.2.2.2.2.1) (fun z => (((), (z.1, z.2.1, z.2.2.1, ()), (z.2.2.2.1, z.2.2.2.2.1, (), ()), z.2.2.2.2.2.1, z.2.2.2.2.2.2, ()), ((), (), (), ()))) (fun y => (y.1.2.1.1, y.1.2.1.2.1, y.1.2.1.2.2.1, y.1.2.2.1.1, y.1.2.2.1.2.1, y.1.2.2.2.1, y.1.2.2.2.2.1)) (fun _ => rfl)
noncomputable def ZbQ : Nat → Int × Int × List (Int × Int) → Int → Option (Int × Int × List (Int × Int))
 | 0, _, _ => none
 | k + 1, p0, p1 =>
  Option.bind (Z3H k (Prod.fst p0, Prod.fst p0.2, Prod.snd p0.2)) fun z0 => Option.bind (Z8U k p0.1 p0.2.1 p0.2.2 (0 : Int) (0 : Int) [] [] p1 (↑(List.length z0) : Int) (0 : Int)) fun z1 => Option.bind (Zex k (Prod.fst z1, Prod.fst z1.2, Prod.fst z1.2.2) z1.2.2.2.2.2.2) fun z2 => some (Prod.fst z2, Prod.fst z2.2, Prod.snd z2.2)
noncomputable def Z4W : FnDef := .of Zw2 ZbL (Int × Int × List (Int × Int)) (fun k x => ZbQ k x.1 x.2.1) Zsb Zt9 ZyT
noncomputable def Zhg : Code := Try.f48.body.getD .skip
noncomputable def Z9P : Ctx (Tup ZbL × OutD) := { T := T, G := [(81, ZZ.E), (84, Z5x.E)], mvs := [], no := 0, n := 25, res := resOf T Zw2 ZbL Try.f48.results.toList, loops := [(0, Z87.E)], regs := [], conds := [], cuts := [] }
theorem Zw1 (k : Nat) : EnvOK Try.prog k Z9P.G := (EnvOK.cons (Z8f k) (EnvOK.cons (ZB6 k) (EnvOK.nil mixed)))
noncomputable def Zda : Code := (findLoop 0 Zhg).getD .skip
theorem ZzH (k : Nat) (x : ZgQ.D) : Z87.lp (k + 1) x = loopK Z9P Z87 0 Zda k x := by kernel_rfl
theorem Zzj (k : Nat) : LOK Try.prog Z9P k Zda := LOK.by [] (by kernel_rfl) AllOK.nil
theorem ZA0 (x : ZgQ.D) : Z87.lp 0 x = none := by kernel_rfl
theorem Zz8 (k : Nat) : EOK Try.prog Z9P k Z87.E (.block 0 (.loop Zda)) := Z5 T_ok Zw1 ZA0 ZzH Zzj k
theorem ZDa (k : Nat) (x : Tup Z4W.ps) : Z4W.f (k + 1) x = fnK Z4W Z9P Zhg k x := by kernel_rfl
theorem ZDG (x : Tup Z4W.ps) : Z4W.f 0 x = none := by kernel_rfl
theorem ZCS (k : Nat) : LOK Try.prog Z9P k Zhg := LOK.by [(Z87.E, .block 0 (.loop Zda))] (by kernel_rfl) (AllOK.cons (Zz8 k) AllOK.nil)
theorem ZmJ (k : Nat) : SoundAt Try.prog k 48 Z4W.E := @Z1 Try.prog Z4W Z9P 48 Try.f48 Zhg (by kernel_rfl) (by kernel_rfl) (by kernel_rfl) Try.func48 (by kernel_rfl) (by kernel_rfl) (by kernel_rfl) T_ok Zw1 ZCS ZDG ZDa k
noncomputable def Z6Y : List PK := [PK.mk (Ty.pair (Ty.int .i64) (Ty.pair (Ty.int .i64) (Ty.slice (71 : Nat) (Ty.pair (Ty.int .i64) (Ty.int .i64))))) true none false none]
noncomputable def Zhh : List PK := [PK.mk (Ty.pair (Ty.slice (5 : Nat) (Ty.int .u8)) (Ty.pair (Ty.int .i64) (Ty.int .u64))) false none false (some (58 : Nat))]
noncomputable def ZgA (r : (Int × Int × List (Int × Int)) × Int × Int) : Tup Z6Y × OutD := ((r.1, ()), some ⟨Ty.pair (Ty.slice (5 : Nat) (Ty.int .u8)) (Ty.pair (Ty.int .i64) (Ty.int .u64)), [([], r.2)]⟩)
noncomputable def ZbU : Tup Z6Y × OutD → Option ((Int × Int × List (Int × Int)) × Int × Int)
 | (a, some ⟨u, ys⟩) => if h : u = Ty.pair (Ty.slice (5 : Nat) (Ty.int .u8)) (Ty.pair (Ty.int .i64) (Ty.int .u64)) then (match castU h ys with
  | [([], y)] => some (a.1, y)
  | _ => none) else none
 | _ => none
theorem Zme : ∀ b r, ZbU b = some r → ZgA r = b := by
 rintro ⟨a, o⟩ r h
 cases o with
 | none => cases h
 | some s =>
  obtain ⟨u, ys⟩ := s
  simp only [ZbU] at h
  split at h
  ·rename_i hu
   subst hu
   match ys, h with
   | [], h => cases (show (none : Option _) = some r from h)
   | [([], y)], h => injection (show some _ = some r from h) with h; subst h; rfl
   | [(_ :: _, y)], h => cases (show (none : Option _) = some r from h)
   | (h1, _) :: _ :: _, h => cases h1 <;> cases (show (none : Option _) = some r from h)
  ·cases h
noncomputable def Z6S : Nat → List Int × Int × Int → Option ((Int × Int × List (Int × Int)) × Int × Int)
 | 0, _ => none
 | k + 1, p0 =>
  Option.bind (Zc k (Prod.fst p0, Prod.fst p0.2, Prod.snd p0.2) (20 : Int)) fun z0 => if Prod.fst z0 = true then Option.bind (Za k (Prod.fst p0, Prod.fst z0.2, Prod.snd z0.2) [(1 : Int), (10 : Int)]) fun z1 => Option.bind (Za k (Prod.fst p0, Prod.fst z1.2, Prod.snd z1.2) [(1 : Int), (9 : Int)]) fun z2 => Option.bind (Z2f k (Prod.fst p0, Prod.fst z2.2, Prod.snd z2.2) z1.1 z2.1) fun z3 => some ((Prod.fst z3.1, Prod.fst z3.1.2, Prod.snd z3.1.2), Prod.fst z3.2, Prod.snd z3.2) else Option.bind (Z0 k (Prod.fst p0, Prod.fst z0.2, Prod.snd z0.2) (5 : Int)) fun z4 => Option.bind (Z0 k (Prod.fst p0, Prod.fst z4.2, Prod.snd z4.2) (5 : Int)) fun z5 => Option.bind (Z2f k (Prod.fst p0, Prod.fst z5.2, Prod.snd z5.2) (wrap64 ((1 : Int) + Prod.fst z4)) (wrap64 ((1 : Int) + Prod.fst z5))) fun z6 => some ((Prod.fst z6.1, Prod.fst z6.1.2, Prod.snd z6.1.2), Prod.fst z6.2, Prod.snd z6.2)
noncomputable def Z20 : FnDef := .of Zhh Z6Y ((Int × Int × List (Int × Int)) × Int × Int) (fun k x => Z6S k x.1) ZgA ZbU Zme
noncomputable def ZcX : Code := Try.f95.body.getD .skip
noncomputable def Z9x : Ctx (Tup Z6Y × OutD) := { T := T, G := [(58, ZG.E), (60, Zq.E), (78, ZU.E), (57, Zd.E)], mvs := [], no := 2, n := 21, res := resOf T Zhh Z6Y Try.f95.results.toList, loops := [], regs := [], conds := [], cuts := [] }
theorem ZtH (k : Nat) : EnvOK Try.prog k Z9x.G := (EnvOK.cons (Z5X k) (EnvOK.cons (Z3j k) (EnvOK.cons (ZfZ k) (EnvOK.cons (ZH k) (EnvOK.nil mixed)))))
theorem Zsw (k : Nat) (x : Tup Z20.ps) : Z20.f (k + 1) x = fnK Z20 Z9x ZcX k x := by kernel_rfl
theorem Zs1 (x : Tup Z20.ps) : Z20.f 0 x = none := by kernel_rfl
theorem ZtS (k : Nat) : LOK Try.prog Z9x k ZcX := LOK.by [] (by kernel_rfl) AllOK.nil
theorem ZrZ (k : Nat) : SoundAt Try.prog k 95 Z20.E := @Z1 Try.prog Z20 Z9x 95 Try.f95 ZcX (by kernel_rfl) (by kernel_rfl) (by kernel_rfl) Try.func95 (by kernel_rfl) (by kernel_rfl) (by kernel_rfl) T_ok ZtH ZtS Zs1 Zsw k
end
end Go.Proofs.Ytglkedenkcpcbaa.Vs
