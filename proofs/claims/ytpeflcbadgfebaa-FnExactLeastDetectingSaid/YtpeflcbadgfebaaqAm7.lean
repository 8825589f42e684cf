/- The proof, part 8. -/
import Derived.Test.YtpeflcbadgfebaaqAm6
set_option maxRecDepth 100000
set_option maxHeartbeats 2000000
set_option linter.unusedVariables false
set_option linter.unusedSimpArgs false
namespace Go.Proofs.Ytpeflcbadgfebaa.Vs
open Go.RowKit
noncomputable section
noncomputable def Z3x : List PK := [PK.mk (Ty.slice (28 : Nat) (Ty.slice (3 : Nat) (Ty.int .i64))) false none false none]
noncomputable def Zm5 : List PK := [PK.mk (Ty.pair (Ty.int .i64) (Ty.pair (Ty.int .i64) (Ty.slice (73 : Nat) (Ty.pair (Ty.int .i64) (Ty.int .i64))))) true none false none, PK.mk (Ty.slice (28 : Nat) (Ty.slice (3 : Nat) (Ty.int .i64))) false none false none]
noncomputable def Zjq (r : List (List Int)) : Tup Z3x × OutD := ((r, ()), none)
noncomputable def ZiX : Tup Z3x × OutD → Option (List (List Int))
 | (a, none) => some (a.1)
 | _ => none
theorem Zri : ∀ b r, ZiX b = some r → Zjq r = b := by
 rintro ⟨a, o⟩ r h
 cases o with
 | none => injection h with h; subst h; rfl
 | some _ => cases h
noncomputable def Z5k : Nat → List (List (List (Int × Int × Int))) → List (List Int) → List Int → List (List Int) → Int → Int → Int → Int → Int → Int → Int → Int → Option (List (List (List (Int × Int × Int))) × List (List Int) × List Int × List (List Int) × Int × Int × Int × Int × Int × Int × Int)
 | 0, _, _, _, _, _, _, _, _, _, _, _, _ => none
 | k + 1, o1, o2, o3, v1, v7, v8, v10, v11, v16, v17, v23, v24 =>
  if decide (v11 < v7) = true then if (0 : Int) ≤ v10 then if v10 < (↑(List.length (List.getD o1 (Int.toNat v8) [])) : Int) then if (0 : Int) ≤ v11 then if v11 < (↑(List.length o1) : Int) then if (0 : Int) ≤ v10 then if v10 < (↑(List.length (List.getD o1 (Int.toNat v11) [])) : Int) then Option.bind (Zcc k (List.getD (List.getD o1 (Int.toNat v8) []) (Int.toNat v10) []) (List.getD (List.getD o1 (Int.toNat v11) []) (Int.toNat v10) [])) fun z1 => if decide (z1 ≥ (0 : Int)) = true then Z5k k o1 o2 o3 v1 v7 v8 v10 (wrap64 (v11 + (1 : Int))) v16 v17 v23 v24 else some (o1, o2, o3, v1, v7, v8, v11, v16, v17, v23, v24) else none else none else none else none else none else none else some (o1, o2, o3, v1, v7, v8, v11, v16, v17, v23, v24)
noncomputable def ZbA : Spec := Spec.mk [OSh.ro, OSh.row true (69 : Nat) (Ty.slice (71 : Nat) (Ty.slice (94 : Nat) (Ty.pair (Ty.int .i64) (Ty.pair (Ty.int .i64) (Ty.int .i64))))), OSh.row true (28 : Nat) (Ty.slice (3 : Nat) (Ty.int .i64)), OSh.row true (3 : Nat) (Ty.int .i64)] [((1 : Nat), TSh.at (Sh.snap (0 : Nat) (Ty.slice (3 : Nat) (Ty.int .i64)))), ((5 : Nat), TSh.at (Sh.sl (1 : Nat))), ((6 : Nat), TSh.at (Sh.sl (2 : Nat))), ((7 : Nat), TSh.at (Sh.int .i64)), ((8 : Nat), TSh.at (Sh.inn (1 : Nat))), ((9 : Nat), TSh.at (Sh.sl (3 : Nat))), ((10 : Nat), TSh.at (Sh.int .i64)), ((11 : Nat), TSh.at (Sh.int .i64)), ((15 : Nat), TSh.at (Sh.sl (1 : Nat))), ((16 : Nat), TSh.at (Sh.int .i64)), ((17 : Nat), TSh.at (Sh.int .i64)), ((23 : Nat), TSh.at (Sh.int .i64)), ((24 : Nat), TSh.at (Sh.int .i64))]
noncomputable def Zsl : Spec := Spec.mk [OSh.ro, OSh.row true (69 : Nat) (Ty.slice (71 : Nat) (Ty.slice (94 : Nat) (Ty.pair (Ty.int .i64) (Ty.pair (Ty.int .i64) (Ty.int .i64))))), OSh.row true (28 : Nat) (Ty.slice (3 : Nat) (Ty.int .i64)), OSh.row true (3 : Nat) (Ty.int .i64)] [((1 : Nat), TSh.at (Sh.snap (0 : Nat) (Ty.slice (3 : Nat) (Ty.int .i64)))), ((5 : Nat), TSh.at (Sh.sl (1 : Nat))), ((6 : Nat), TSh.at (Sh.sl (2 : Nat))), ((7 : Nat), TSh.at (Sh.int .i64)), ((8 : Nat), TSh.at (Sh.inn (1 : Nat))), ((9 : Nat), TSh.at (Sh.sl (3 : Nat))), ((11 : Nat), TSh.at (Sh.int .i64)), ((15 : Nat), TSh.at (Sh.sl (1 : Nat))), ((16 : Nat), TSh.at (Sh.int .i64)), ((17 : Nat), TSh.at (Sh.int .i64)), ((23 : Nat), TSh.at (Sh.int .i64)), ((24 : Nat), TSh.at (Sh.int .i64))]
noncomputable def Z4g : LoopDef (Tup Z3x × OutD) := .plain ZbA Zsl (List (List (List (Int × Int × Int))) × List (List Int) × List Int × List (List Int) × Int × Int × Int × Int × Int × Int × Int) (fun k x => Z5k k x.1.2.1 x.1.2.2.1 x.1.2.2.2.1 x.2.1 x.2.2.2.2.1 x.2.2.2.2.2.1 x.2.2.2.2.2.2.2.1 x.2.2.2.2.2.2.2.2.1 x.2.2.2.2.2.2.2.2.2.2.1 x.2.2.2.2.2.2.2.2.2.2.2.1 x.2.2.2.2.2.2.2.2.2.2.2.2.1 x.2.2.2.2.2.2.2.2.2.2.2.2.2.1) (fun z => (((), z.1, z.2.1, z.2.2.1, ()), (z.2.2.2.1, (), (), z.2.2.2.2.1, z.2.2.2.2.2.1, (), z.2.2.2.2.2.2.1, (), z.2.2.2.2.2.2.2.1, z.2.2.2.2.2.2.2.2.1, z.2.2.2.2.2.2.2.2.2.1, z.2.2.2.2.2.2.2.2.2.2, ()))) (fun y => (y.1.2.1, y.1.2.2.1, y.1.2.2.2.1, y.2.1, y.2.2.2.2.1, y.2.2.2.2.2.1, y.2.2.2.2.2.2.2.1, y.2.2.2.2.2.2.2.2.2.1, y.2.2.2.2.2.2.2.2.2.2.1, y.2.2.2.2.2.2.2.2.2.2.2.1, y.2.2.2.2.2.2.2.2.2.2.2.2.1)) (fun _ => rfl)
noncomputable def Z5o : Nat → List (List (List (Int × Int × Int))) → List (List Int) → List Int → List (List Int) → Int → Int → Int → Int → Int → Int → Option (List (List (List (Int × Int × Int))) × List (List Int) × List Int × List (List Int) × Int × Int)
 | 0, _, _, _, _, _, _, _, _, _, _ => none
 | k + 1, o1, o2, o3, v1, v7, v8, v16, v17, v23, v24 =>
  if decide (v24 < v23) = true then Option.bind (Z5k k o1 o2 o3 v1 v7 v8 v24 (0 : Int) v16 v17 v23 v24) fun z2 => if List.length z2.2.2.1 + List.length [Prod.fst z2.2.2.2.2.2.2] ≤ (140737488355328 / 8 : Nat) then Z5o k z2.1 z2.2.1 (Prod.fst z2.2.2 ++ [Prod.fst z2.2.2.2.2.2.2]) z2.2.2.2.1 z2.2.2.2.2.1 z2.2.2.2.2.2.1 z2.2.2.2.2.2.2.2.1 z2.2.2.2.2.2.2.2.2.1 z2.2.2.2.2.2.2.2.2.2.1 (wrap64 (Prod.snd z2.2.2.2.2.2.2.2.2.2 + (1 : Int))) else none else some (o1, o2, o3, v1, v16, v17)
noncomputable def ZbB : Spec := Spec.mk [OSh.ro, OSh.row true (69 : Nat) (Ty.slice (71 : Nat) (Ty.slice (94 : Nat) (Ty.pair (Ty.int .i64) (Ty.pair (Ty.int .i64) (Ty.int .i64))))), OSh.row true (28 : Nat) (Ty.slice (3 : Nat) (Ty.int .i64)), OSh.row true (3 : Nat) (Ty.int .i64)] [((1 : Nat), TSh.at (Sh.snap (0 : Nat) (Ty.slice (3 : Nat) (Ty.int .i64)))), ((5 : Nat), TSh.at (Sh.sl (1 : Nat))), ((6 : Nat), TSh.at (Sh.sl (2 : Nat))), ((7 : Nat), TSh.at (Sh.int .i64)), ((8 : Nat), TSh.at (Sh.inn (1 : Nat))), ((9 : Nat), TSh.at (Sh.sl (3 : Nat))), ((15 : Nat), TSh.at (Sh.sl (1 : Nat))), ((16 : Nat), TSh.at (Sh.int .i64)), ((17 : Nat), TSh.at (Sh.int .i64)), ((23 : Nat), TSh.at (Sh.int .i64)), ((24 : Nat), TSh.at (Sh.int .i64))]
noncomputable def Zsa : Spec := Spec.mk [OSh.ro, OSh.row true (69 : Nat) (Ty.slice (71 : Nat) (Ty.slice (94 : Nat) (Ty.pair (Ty.int .i64) (Ty.pair (Ty.int .i64) (Ty.int .i64))))), OSh.row true (28 : Nat) (Ty.slice (3 : Nat) (Ty.int .i64)), OSh.row true (3 : Nat) (Ty.int .i64)] [((1 : Nat), TSh.at (Sh.snap (0 : Nat) (Ty.slice (3 : Nat) (Ty.int .i64)))), ((5 : Nat), TSh.at (Sh.sl (1 : Nat))), ((6 : Nat), TSh.at (Sh.sl (2 : Nat))), ((9 : Nat), TSh.at (Sh.sl (3 : Nat))), ((15 : Nat), TSh.at (Sh.sl (1 : Nat))), ((16 : Nat), TSh.at (Sh.int .i64)), ((17 : Nat), TSh.at (Sh.int .i64))]
noncomputable def Z4p : LoopDef (Tup Z3x × OutD) := .plain ZbB Zsa (List (List (List (Int × Int × Int))) × List (List Int) × List Int × List (List Int) × Int × Int) (fun k x => Z5o k x.1.2.1 x.1.2.2.1 x.1.2.2.2.1 x.2.1 x.2.2.2.2.1 x.2.2.2.2.2.1 x.2.2.2.2.2.2.2.2.1 x.2.2.2.2.2.2.2.2.2.1 x.2.2.2.2.2.2.2.2.2.2.1 x.2.2.2.2.2.2.2.2.2.2.2.1) (fun z => (((), z.1, z.2.1, z.2.2.1, ()), (z.2.2.2.1, (), (), (), (), z.2.2.2.2.1, z.2.2.2.2.2, ()))) (fun y => (y.1.2.1, y.1.2.2.1, y.1.2.2.2.1, y.2.1, y.2.2.2.2.2.2.1, y.2.2.2.2.2.2.2.1)) (fun _ => rfl)
noncomputable def Z5b : Nat → List (List (List (Int × Int × Int))) → List (List Int) → List (List Int) → Int → Int → Option (List (List Int))
 | 0, _, _, _, _, _ => none
 | k + 1, o1, o2, v1, v16, v17 =>
  if decide (v17 < v16) = true then if (0 : Int) ≤ v17 then if v17 < (↑(List.length o1) : Int) then Option.bind (Z5o k o1 o2 [] v1 v17 v17 v16 v17 (↑(List.length v1) : Int) (0 : Int)) fun z3 => if List.length z3.2.1 + List.length [Prod.fst z3.2.2] ≤ (140737488355328 / 24 : Nat) then Z5b k z3.1 (Prod.fst z3.2 ++ [Prod.fst z3.2.2]) z3.2.2.2.1 z3.2.2.2.2.1 (wrap64 (Prod.snd z3.2.2.2.2 + (1 : Int))) else none else none else none else some o2
noncomputable def ZbS : Spec := Spec.mk [OSh.ro, OSh.row true (69 : Nat) (Ty.slice (71 : Nat) (Ty.slice (94 : Nat) (Ty.pair (Ty.int .i64) (Ty.pair (Ty.int .i64) (Ty.int .i64))))), OSh.row true (28 : Nat) (Ty.slice (3 : Nat) (Ty.int .i64))] [((1 : Nat), TSh.at (Sh.snap (0 : Nat) (Ty.slice (3 : Nat) (Ty.int .i64)))), ((5 : Nat), TSh.at (Sh.sl (1 : Nat))), ((6 : Nat), TSh.at (Sh.sl (2 : Nat))), ((15 : Nat), TSh.at (Sh.sl (1 : Nat))), ((16 : Nat), TSh.at (Sh.int .i64)), ((17 : Nat), TSh.at (Sh.int .i64))]
noncomputable def ZrO : Spec := Spec.mk [OSh.ro, OSh.row true (28 : Nat) (Ty.slice (3 : Nat) (Ty.int .i64))] [((6 : Nat), TSh.at (Sh.sl (1 : Nat)))]
noncomputable def Z4n : LoopDef (Tup Z3x × OutD) := .plain ZbS ZrO (List (List Int)) (fun k x => Z5b k x.1.2.1 x.1.2.2.1 x.2.1 x.2.2.2.2.2.1 x.2.2.2.2.2.2.1) (fun z => (((), z, ()), ((), ()))) (fun y => (y.1.2.1)) (fun _ => rfl)
noncomputable def Z8W : Nat → Int × Int × List (Int × Int) → List (List Int) → Option (List (List Int))
 | 0, _, _ => none
 | k + 1, p0, p1 =>
  Option.bind (Zb5 k (Prod.fst p0, Prod.fst p0.2, Prod.snd p0.2) p1) fun z0 => Option.bind (Z5b k z0 [] p1 (↑(List.length z0) : Int) (0 : Int)) fun z4 => some z4
noncomputable def Z2q : FnDef := .of Zm5 Z3x (List (List Int)) (fun k x => Z8W k x.1 x.2.1) Zjq ZiX Zri
noncomputable def Z6V : Code := Try.f33.body.getD .skip
noncomputable def Zy : Ctx (Tup Z3x × OutD) := { T := T, G := [(58, Z3p.E), (59, Z4w.E)], mvs := [], no := 0, n := 58, res := resOf T Zm5 Z3x Try.f33.results.toList, loops := [(4, Z4g.E), (2, Z4p.E), (0, Z4n.E)], regs := [], conds := [], cuts := [] }
theorem Zbr (k : Nat) : EnvOK Try.prog k Zy.G := (EnvOK.cons (Zxy k) (EnvOK.cons (Zyc k) (EnvOK.nil mixed)))
noncomputable def Z8D : Code := (findLoop 4 Z6V).getD .skip
theorem Zsr (k : Nat) (x : ZbA.D) : Z4g.lp (k + 1) x = loopK Zy Z4g 4 Z8D k x := by kernel_rfl
theorem ZsL (k : Nat) : LOK Try.prog Zy k Z8D := LOK.by [] (by kernel_rfl) AllOK.nil
theorem Zsq (x : ZbA.D) : Z4g.lp 0 x = none := by kernel_rfl
theorem ZqO (k : Nat) : EOK Try.prog Zy k Z4g.E (.block 4 (.loop Z8D)) := Z2 T_ok Zbr Zsq Zsr ZsL k
noncomputable def Z8y : Code := (findLoop 2 Z6V).getD .skip
theorem Zsn (k : Nat) (x : ZbB.D) : Z4p.lp (k + 1) x = loopK Zy Z4p 2 Z8y k x := by kernel_rfl
theorem ZsM (k : Nat) : LOK Try.prog Zy k Z8y := LOK.by [(Z4g.E, .block 4 (.loop Z8D))] (by kernel_rfl) (AllOK.cons (ZqO k) AllOK.nil)
theorem ZsF (x : ZbB.D) : Z4p.lp 0 x = none := by kernel_rfl
theorem ZqK (k : Nat) : EOK Try.prog Zy k Z4p.E (.block 2 (.loop Z8y)) := Z2 T_ok Zbr ZsF Zsn ZsM k
noncomputable def Z8v : Code := (findLoop 0 Z6V).getD .skip
theorem Zrv (k : Nat) (x : ZbS.D) : Z4n.lp (k + 1) x = loopK Zy Z4n 0 Z8v k x := by kernel_rfl
theorem ZrP (k : Nat) : LOK Try.prog Zy k Z8v := LOK.by [(Z4p.E, .block 2 (.loop Z8y))] (by kernel_rfl) (AllOK.cons (ZqK k) AllOK.nil)
theorem ZsT (x : ZbS.D) : Z4n.lp 0 x = none := by kernel_rfl
theorem ZpB (k : Nat) : EOK Try.prog Zy k Z4n.E (.block 0 (.loop Z8v)) := Z2 T_ok Zbr ZsT Zrv ZrP k
theorem Zxh (k : Nat) (x : Tup Z2q.ps) : Z2q.f (k + 1) x = fnK Z2q Zy Z6V k x := by kernel_rfl
theorem Zxd (x : Tup Z2q.ps) : Z2q.f 0 x = none := by kernel_rfl
theorem ZxD (k : Nat) : LOK Try.prog Zy k Z6V := LOK.by [(Z4n.E, .block 0 (.loop Z8v))] (by kernel_rfl) (AllOK.cons (ZpB k) AllOK.nil)
theorem ZlL (k : Nat) : SoundAt Try.prog k 33 Z2q.E := @Z1 Try.prog Z2q Zy 33 Try.f33 Z6V (by kernel_rfl) (by kernel_rfl) (by kernel_rfl) Try.func33 (by kernel_rfl) (by kernel_rfl) (by kernel_rfl) T_ok Zbr ZxD Zxd Zxh k
end
end Go.Proofs.Ytpeflcbadgfebaa.Vs

set_option maxRecDepth 100000
set_option maxHeartbeats 2000000
set_option linter.unusedVariables false
set_option linter.unusedSimpArgs false
namespace Go.Proofs.Ytpeflcbadgfebaa.Vs
open Go.RowKit
noncomputable section
noncomputable def Z36 : List PK := [PK.mk (Ty.slice (3 : Nat) (Ty.int .i64)) false none false none, PK.mk Ty.bool false none false none]
noncomputable def Zee : List PK := [PK.mk (Ty.pair (Ty.int .i64) (Ty.pair (Ty.int .i64) (Ty.slice (73 : Nat) (Ty.pair (Ty.int .i64) (Ty.int .i64))))) true none false none, PK.mk (Ty.slice (28 : Nat) (Ty.slice (3 : Nat) (Ty.int .i64))) false none false none]
noncomputable def Zdq (r : List Int × Bool) : Tup Z36 × OutD := ((r.1, r.2, ()), none)
noncomputable def ZdQ : Tup Z36 × OutD → Option (List Int × Bool)
 | (a, none) => some (a.1, a.2.1)
 | _ => none
theorem ZiJ : ∀ b r, ZdQ b = some r → Zdq r = b := by
 rintro ⟨a, o⟩ r h
 cases o with
 | none => injection h with h; subst h; rfl
 | some _ => cases h
noncomputable def ZE : Nat → List (List Int) → List Int → List Int → List (List Int) → Int → Option (List Int)
 | 0, _, _, _, _, _ => none
 | k + 1, o1, o2, o3, v1, v9 =>
  if decide (v9 < shlS (1 : Int) (IntKind.wrap IntKind.u64 (↑(List.length v1) : Int))) = true then Option.bind (Z80 k v9 (↑(List.length v1) : Int)) fun z4 => Option.bind (Z84 k z4 o2) fun z5 => if z5 = true then Option.bind (Z7d k o1 z4) fun z6 => Option.bind (Z9O k z6 o3) fun z7 => if z7 = true then ZE k o1 z4 o3 v1 (wrap64 (v9 + (1 : Int))) else ZE k o1 o2 o3 v1 (wrap64 (v9 + (1 : Int))) else ZE k o1 o2 o3 v1 (wrap64 (v9 + (1 : Int))) else some o2
noncomputable def Z8i : Spec := Spec.mk [OSh.ro, OSh.row true (28 : Nat) (Ty.slice (3 : Nat) (Ty.int .i64)), OSh.row true (3 : Nat) (Ty.int .i64), OSh.row true (3 : Nat) (Ty.int .i64)] [((1 : Nat), TSh.at (Sh.snap (0 : Nat) (Ty.slice (3 : Nat) (Ty.int .i64)))), ((6 : Nat), TSh.at (Sh.sl (1 : Nat))), ((7 : Nat), TSh.at (Sh.sl (2 : Nat))), ((8 : Nat), TSh.at (Sh.sl (3 : Nat))), ((9 : Nat), TSh.at (Sh.int .i64))]
noncomputable def ZjZ : Spec := Spec.mk [OSh.ro, OSh.row true (3 : Nat) (Ty.int .i64)] [((7 : Nat), TSh.at (Sh.sl (1 : Nat)))]
noncomputable def Z1v : LoopDef (Tup Z36 × OutD) := .plain Z8i ZjZ (List Int) (fun k x => ZE k x.1.2.1 x.1.2.2.1 x.1.2.2.2.1 x.2.1 x.2.2.2.2.2.1) (fun z => (((), z, ()), ((), ()))) (fun y => (y.1.2.1)) (fun _ => rfl)
noncomputable def Z7n : Nat → Int × Int × List (Int × Int) → List (List Int) → Option (List Int × Bool)
 | 0, _, _ => none
 | k + 1, p0, p1 =>
  Option.bind (Z8U k (Prod.fst p0, Prod.fst p0.2, Prod.snd p0.2) p1) fun z0 => if (!z0) = true then some ([], false) else Option.bind (Z8W k (Prod.fst p0, Prod.fst p0.2, Prod.snd p0.2) p1) fun z1 => Option.bind (ZaQ k p1) fun z2 => Option.bind (Z7d k z1 z2) fun z3 => Option.bind (ZE k z1 z2 z3 p1 (0 : Int)) fun z8 => some (z8, true)
noncomputable def ZW : FnDef := .of Zee Z36 (List Int × Bool) (fun k x => Z7n k x.1 x.2.1) Zdq ZdQ ZiJ
noncomputable def Z7v : Code := Try.f8.body.getD .skip
noncomputable def Z1L : Ctx (Tup Z36 × OutD) := { T := T, G := [(32, Z2v.E), (33, Z2q.E), (34, Z3Z.E), (35, Z2b.E), (36, Z1V.E), (37, Z1W.E), (38, Z3c.E)], mvs := [], no := 0, n := 47, res := resOf T Zee Z36 Try.f8.results.toList, loops := [(0, Z1v.E)], regs := [], conds := [], cuts := [] }
theorem Zel (k : Nat) : EnvOK Try.prog k Z1L.G := (EnvOK.cons (Zmf k) (EnvOK.cons (ZlL k) (EnvOK.cons (ZpL k) (EnvOK.cons (Zuu k) (EnvOK.cons (Zj2 k) (EnvOK.cons (ZiO k) (EnvOK.cons (ZnR k) (EnvOK.nil mixed))))))))
noncomputable def Z5D : Code := (findLoop 0 Z7v).getD .skip
theorem ZjS (k : Nat) (x : Z8i.D) : Z1v.lp (k + 1) x = loopK Z1L Z1v 0 Z5D k x := by kernel_rfl
theorem ZjR (k : Nat) : LOK Try.prog Z1L k Z5D := LOK.by [] (by kernel_rfl) AllOK.nil
theorem Zk6 (x : Z8i.D) : Z1v.lp 0 x = none := by kernel_rfl
theorem ZiH (k : Nat) : EOK Try.prog Z1L k Z1v.E (.block 0 (.loop Z5D)) := Z2 T_ok Zel Zk6 ZjS ZjR k
theorem Zpl (k : Nat) (x : Tup ZW.ps) : ZW.f (k + 1) x = fnK ZW Z1L Z7v k x := by kernel_rfl
theorem Zpv (x : Tup ZW.ps) : ZW.f 0 x = none := by kernel_rfl
theorem ZoA (k : Nat) : LOK Try.prog Z1L k Z7v := LOK.by [(Z1v.E, .block 0 (.loop Z5D))] (by kernel_rfl) (AllOK.cons (ZiH k) AllOK.nil)
theorem Zp4 (k : Nat) : SoundAt Try.prog k 8 ZW.E := @Z1 Try.prog ZW Z1L 8 Try.f8 Z7v (by kernel_rfl) (by kernel_rfl) (by kernel_rfl) Try.func8 (by kernel_rfl) (by kernel_rfl) (by kernel_rfl) T_ok Zel ZoA Zpv Zpl k
noncomputable def Z20 : List PK := [PK.mk (Ty.slice (3 : Nat) (Ty.int .i64)) false none false none, PK.mk Ty.bool false none false none]
noncomputable def Zdc : List PK := [PK.mk (Ty.pair (Ty.int .i64) (Ty.pair (Ty.int .i64) (Ty.slice (73 : Nat) (Ty.pair (Ty.int .i64) (Ty.int .i64))))) true none false none, PK.mk (Ty.slice (28 : Nat) (Ty.slice (3 : Nat) (Ty.int .i64))) false none false none]
noncomputable def Zc2 (r : List Int × Bool) : Tup Z20 × OutD := ((r.1, r.2, ()), none)
noncomputable def Zc6 : Tup Z20 × OutD → Option (List Int × Bool)
 | (a, none) => some (a.1, a.2.1)
 | _ => none
theorem ZgU : ∀ b r, Zc6 b = some r → Zc2 r = b := by
 rintro ⟨a, o⟩ r h
 cases o with
 | none => injection h with h; subst h; rfl
 | some _ => cases h
noncomputable def Zv : Nat → List (List Int) → List Int → List Int → List (List Int) → Int → Option (List Int)
 | 0, _, _, _, _, _ => none
 | k + 1, o1, o2, o3, v1, v9 =>
  if decide (v9 < shlS (1 : Int) (IntKind.wrap IntKind.u64 (↑(List.length v1) : Int))) = true then Option.bind (Z80 k v9 (↑(List.length v1) : Int)) fun z4 => Option.bind (Z84 k z4 o2) fun z5 => if z5 = true then Option.bind (Z6s k o1 z4) fun z6 => Option.bind (Z9O k z6 o3) fun z7 => if z7 = true then Zv k o1 z4 o3 v1 (wrap64 (v9 + (1 : Int))) else Zv k o1 o2 o3 v1 (wrap64 (v9 + (1 : Int))) else Zv k o1 o2 o3 v1 (wrap64 (v9 + (1 : Int))) else some o2
noncomputable def Z7c : Spec := Spec.mk [OSh.ro, OSh.row true (28 : Nat) (Ty.slice (3 : Nat) (Ty.int .i64)), OSh.row true (3 : Nat) (Ty.int .i64), OSh.row true (3 : Nat) (Ty.int .i64)] [((1 : Nat), TSh.at (Sh.snap (0 : Nat) (Ty.slice (3 : Nat) (Ty.int .i64)))), ((6 : Nat), TSh.at (Sh.sl (1 : Nat))), ((7 : Nat), TSh.at (Sh.sl (2 : Nat))), ((8 : Nat), TSh.at (Sh.sl (3 : Nat))), ((9 : Nat), TSh.at (Sh.int .i64))]
noncomputable def Zit : Spec := Spec.mk [OSh.ro, OSh.row true (3 : Nat) (Ty.int .i64)] [((7 : Nat), TSh.at (Sh.sl (1 : Nat)))]
noncomputable def Z1c : LoopDef (Tup Z20 × OutD) := .plain Z7c Zit (List Int) (fun k x => Zv k x.1.2.1 x.1.2.2.1 x.1.2.2.2.1 x.2.1 x.2.2.2.2.2.1) (fun z => (((), z, ()), ((), ()))) (fun y => (y.1.2.1)) (fun _ => rfl)
noncomputable def Z5T : Nat → Int × Int × List (Int × Int) → List (List Int) → Option (List Int × Bool)
 | 0, _, _ => none
 | k + 1, p0, p1 =>
  Option.bind (Z8U k (Prod.fst p0, Prod.fst p0.2, Prod.snd p0.2) p1) fun z0 => if (!z0) = true then some ([], false) else Option.bind (Z8W k (Prod.fst p0, Prod.fst p0.2, Prod.snd p0.2) p1) fun z1 => Option.bind (ZaQ k p1) fun z2 => Option.bind (Z6s k z1 z2) fun z3 => Option.bind (Zv k z1 z2 z3 p1 (0 : Int)) fun z8 => some (z8, true)
noncomputable def ZC : FnDef := .of Zdc Z20 (List Int × Bool) (fun k x => Z5T k x.1 x.2.1) Zc2 Zc6 ZgU
noncomputable def Z67 : Code := Try.f19.body.getD .skip
noncomputable def Z1e : Ctx (Tup Z20 × OutD) := { T := T, G := [(32, Z2v.E), (33, Z2q.E), (34, Z3Z.E), (49, Z1G.E), (36, Z1V.E), (37, Z1W.E), (38, Z3c.E)], mvs := [], no := 0, n := 47, res := resOf T Zdc Z20 Try.f19.results.toList, loops := [(0, Z1c.E)], regs := [], conds := [], cuts := [] }
theorem Zdb (k : Nat) : EnvOK Try.prog k Z1e.G := (EnvOK.cons (Zmf k) (EnvOK.cons (ZlL k) (EnvOK.cons (ZpL k) (EnvOK.cons (Zsx k) (EnvOK.cons (Zj2 k) (EnvOK.cons (ZiO k) (EnvOK.cons (ZnR k) (EnvOK.nil mixed))))))))
noncomputable def Z42 : Code := (findLoop 0 Z67).getD .skip
theorem Zhu (k : Nat) (x : Z7c.D) : Z1c.lp (k + 1) x = loopK Z1e Z1c 0 Z42 k x := by kernel_rfl
theorem ZhS (k : Nat) : LOK Try.prog Z1e k Z42 := LOK.by [] (by kernel_rfl) AllOK.nil
theorem Zhp (x : Z7c.D) : Z1c.lp 0 x = none := by kernel_rfl
theorem ZgX (k : Nat) : EOK Try.prog Z1e k Z1c.E (.block 0 (.loop Z42)) := Z2 T_ok Zdb Zhp Zhu ZhS k
theorem Zlh (k : Nat) (x : Tup ZC.ps) : ZC.f (k + 1) x = fnK ZC Z1e Z67 k x := by kernel_rfl
theorem Zkz (x : Tup ZC.ps) : ZC.f 0 x = none := by kernel_rfl
theorem ZkM (k : Nat) : LOK Try.prog Z1e k Z67 := LOK.by [(Z1c.E, .block 0 (.loop Z42))] (by kernel_rfl) (AllOK.cons (ZgX k) AllOK.nil)
theorem Zm8 (k : Nat) : SoundAt Try.prog k 19 ZC.E := @Z1 Try.prog ZC Z1e 19 Try.f19 Z67 (by kernel_rfl) (by kernel_rfl) (by kernel_rfl) Try.func19 (by kernel_rfl) (by kernel_rfl) (by kernel_rfl) T_ok Zdb ZkM Zkz Zlh k
end
end Go.Proofs.Ytpeflcbadgfebaa.Vs

set_option maxRecDepth 100000
set_option maxHeartbeats 2000000
set_option linter.unusedVariables false
set_option linter.unusedSimpArgs false
namespace Go.Proofs.Ytpeflcbadgfebaa.Vs
open Go.RowKit
noncomputable section
end
end Go.Proofs.Ytpeflcbadgfebaa.Vs

set_option maxRecDepth 100000
set_option maxHeartbeats 2000000
set_option linter.unusedVariables false
set_option linter.unusedSimpArgs false
namespace Go.Proofs.Ytpeflcbadgfebaa.Vs
open Go.RowKit
noncomputable section
end
end Go.Proofs.Ytpeflcbadgfebaa.Vs

set_option linter.unusedVariables false
set_option linter.unusedSimpArgs false
namespace Go.Proofs.Ytpeflcbadgfebaa.Vs
open Go.RowKit
theorem Zc8 (a b c : Int) : Ev (fun k => Z6I k a b c) (decide (b ≤ a ∧ a ≤ c)) := by
 refine Ev.succ ?_
 simp only [Z6I]
 refine Ev.of ?_
 by_cases h1 : b ≤ a <;> by_cases h2 : a ≤ c <;> simp [h1, h2]
theorem ZkZ (lo hi : Int) : ∀ (r pre : List Int), (pre ++ r).length ≤ 9223372036854775806 → Ev (fun k => Z6R k lo hi (pre ++ r) ((pre ++ r).length : Int) (pre.length : Int)) (if r.all (fun n => decide (lo ≤ n ∧ n ≤ hi)) then LR.go () else LR.ret false)
 | [], pre, hl => by
  refine Ev.succ ?_
  simp only [Z6R, Z7, decide_false, Bool.false_eq_true, if_false, List.all_nil, if_true]
  exact Ev.some _
 | x :: r, pre, hl => by
  have ih := ZkZ lo hi r (pre ++ [x]) (by simpa using hl)
  refine Ev.succ ?_
  simp only [Z6R, Z5, Za, decide_true, if_true, Int.toNat_natCast, Z4]
  rw [Z6 pre x r (by omega)]
  rw [← Z0] at ih
  refine Ev.bind (Zc8 x lo hi) ?_
  by_cases hx : lo ≤ x ∧ x ≤ hi
  ·simp only [hx, and_self, List.all_cons, decide_true, Bool.true_and, Bool.not_true, Bool.false_eq_true, if_false]; exact ih
  ·simp only [hx, List.all_cons, decide_false, Bool.false_and, Bool.not_false, if_true, Bool.false_eq_true, if_false]; exact Ev.some _
theorem ZA2 (l : List Int) (lo hi : Int) (hl : l.length ≤ 9223372036854775806) : Ev (fun k => Ze9 k l lo hi) (l.all fun n => decide (lo ≤ n ∧ n ≤ hi)) := by
 refine Ev.succ ?_
 simp only [Ze9]
 refine Ev.bind (ZkZ lo hi l [] (by simpa using hl)) ?_
 cases hx : l.all fun n => decide (lo ≤ n ∧ n ≤ hi) with
 | true => simp only [if_true]; exact Ev.go (Ev.some _)
 | false => simp only [Bool.false_eq_true, if_false]; exact Ev.ret (Ev.some _)
end Go.Proofs.Ytpeflcbadgfebaa.Vs

set_option linter.unusedVariables false
set_option linter.unusedSimpArgs false
namespace Go.Proofs.Ytpeflcbadgfebaa.Vs
open Go.RowKit
theorem Zym (x : Int × Int) : Ev (fun k => ZfE k x) x := Ev.succ (Ev.of rfl)
theorem Zzt (x y : Int × Int) : Ev (fun k => Zcq k x y) (decide (x = y)) := by
 obtain ⟨a0, a1⟩ := x
 obtain ⟨b0, b1⟩ := y
 refine Ev.succ ?_
 simp only [Zcq]
 refine Ev.of ?_
 by_cases h0 : a0 = b0 <;> by_cases h1 : a1 = b1 <;> simp [h0, h1]
theorem Zxn (l : List (Int × Int)) (n : Int) (h0 : 0 ≤ n) (h1 : n ≤ 1048576) (hl : l.length ≤ 9223372036854775807) : Ev (fun k => Zb7 k l n) (if n - l.length < 0 then -1 else n - l.length) := by
 refine Ev.succ ?_
 simp only [Zb7]
 refine Ev.of ?_
 rw [w64 (by omega) (by omega)]
 by_cases h : n - (l.length : Int) < 0 <;> simp [h]
theorem Zhe : ∀ (r pre rest : List (Int × Int)), rest.length = r.length → (pre ++ r).length ≤ 1048576 → Ev (fun k => Z4V k (pre ++ rest) (pre ++ r) (pre.length : Int)) (pre ++ r)
 | [], pre, rest, h, hl => by
  obtain rfl : rest = [] := List.eq_nil_of_length_eq_zero h
  refine Ev.succ ?_
  simp only [Z4V, Z7, decide_false, Bool.false_eq_true, if_false]
  exact Ev.some _
 | x :: r, pre, [], h, hl => by simp at h
 | x :: r, pre, y :: rest, h, hl => by
  have ih := Zhe r (pre ++ [x]) rest (by simpa using h) (by simpa using hl)
  refine Ev.succ ?_
  simp only [Z4V, Z5, Za, decide_true, if_true, Int.toNat_natCast, Z4, Z8Q]
  rw [Z6 pre x r (by omega)]
  refine Ev.bind (Zym x) ?_
  rw [← Z0, ← Z0] at ih
  exact ih
theorem Zxo (l : List (Int × Int)) (hl : l.length ≤ 1048576) : Ev (fun k => Zbn k l) l := by
 refine Ev.succ ?_
 have hm : l.length * 16 ≤ 281474976710656 := by omega
 simp only [Zbn, Int.toNat_natCast, hm, if_true]
 exact Ev.bind (Zhe l [] (List.replicate l.length (0, 0)) (by simp) (by simpa using hl)) (Ev.some _)
theorem Zhl : ∀ (r s pre : List (Int × Int)) (pre' : List (Int × Int)), s.length = r.length → pre'.length = pre.length → (pre ++ r).length ≤ 9223372036854775806 → Ev (fun k => Z4M k (pre ++ r) (pre' ++ s) (pre.length : Int)) (if r = s then LR.go () else LR.ret false)
 | [], s, pre, pre', h, hp, hl => by
  obtain rfl : s = [] := List.eq_nil_of_length_eq_zero h
  refine Ev.succ ?_
  simp only [Z4M, Z7, decide_false, Bool.false_eq_true, if_false, if_true]
  exact Ev.some _
 | x :: r, [], pre, pre', h, hp, hl => by simp at h
 | x :: r, y :: s, pre, pre', h, hp, hl => by
  have ih := Zhl r s (pre ++ [x]) (pre' ++ [y]) (by simpa using h) (by simpa using hp) (by simpa using hl)
  have l2 : (pre.length : Int) < ((pre' ++ y :: s).length : Int) := by rw [← hp]; exact Z5 _ _ _
  have g2 : List.getD (pre' ++ y :: s) pre.length (0, 0) = y := by rw [← hp]; exact Z4 _ _ _ _
  refine Ev.succ ?_
  simp only [Z4M, Z5, Za, l2, decide_true, if_true, Int.toNat_natCast, Z4, g2]
  rw [Z6 pre x r (by omega)]
  rw [← Z0, ← Z0] at ih
  refine Ev.bind (Zzt x y) ?_
  by_cases hxy : x = y
  ·subst hxy
   simp only [decide_true, Bool.not_true, Bool.false_eq_true, if_false]
   refine ih.congr ?_
   by_cases hrs : r = s <;> simp [hrs]
  ·simp only [hxy, decide_false, Bool.not_false, if_true]
   refine Ev.of ?_
   rw [if_neg (by intro hc; injection hc with h1 h2; exact hxy h1)]
theorem Zxk (l m : List (Int × Int)) (hl : l.length ≤ 9223372036854775806) : Ev (fun k => Zbu k l m) (decide (l = m)) := by
 refine Ev.succ ?_
 simp only [Zbu]
 by_cases h : l.length = m.length
 ·simp only [h, ne_eq, not_true_eq_false, decide_false, Bool.false_eq_true, if_false]
  refine Ev.bind (Zhl l m [] [] h.symm rfl (by simpa using hl)) ?_
  by_cases hlm : l = m
  ·rw [if_pos hlm]; simp only [hlm, decide_true]; exact Ev.go (Ev.some _)
  ·rw [if_neg hlm]; simp only [hlm, decide_false]; exact Ev.ret (Ev.some _)
 ·have h2 : ¬ (l.length : Int) = (m.length : Int) := by omega
  have h3 : ¬ l = m := fun hc => h (by rw [hc])
  simp only [ne_eq, h2, not_false_eq_true, decide_true, if_true, h3, decide_false]
  exact Ev.some _
abbrev CellD := Int × Int
abbrev BoardD := Int × Int × List (Int × Int)
abbrev FaultD := Int × Int × Int
def turning (x : CellD) : Bool := decide (x.1 = 3 ∨ x.1 = 6)
def cellOK (x : CellD) : Bool := decide (0 ≤ x.1 ∧ x.1 ≤ 7 ∧ (x.2 = 0 ∨ (x.2 = 1 ∧ (x.1 = 3 ∨ x.1 = 6))))
def boardOK (b : BoardD) : Bool := decide (1 ≤ b.1 ∧ b.1 ≤ 10 ∧ 1 ≤ b.2.1 ∧ b.2.1 ≤ 9 ∧ (b.2.2.length : Int) = b.1 * b.2.1) && b.2.2.all cellOK
theorem ZcK (x : CellD) : Ev (fun k => Z4Y k x) (turning x) := by
 refine Ev.succ ?_
 simp only [Z4Y]
 refine Ev.of ?_
 by_cases h1 : x.1 = 3 <;> simp [turning, h1]
theorem Zg1 (x : CellD) : Ev (fun k => Z7L k x) (cellOK x) := by
 refine Ev.succ ?_
 simp only [Z7L, decide_eq_true_eq]
 refine Ev.of ?_
 unfold cellOK
 repeat' split
 all_goals (congr 1; first | (symm; rw [decide_eq_true_eq]; omega) | (symm; rw [decide_eq_false_iff_not]; omega) | (apply decide_eq_decide.2; omega))
theorem ZzD (x : CellD) : Ev (fun k => Zch k x) (cellOK x) := by
 refine Ev.succ ?_
 simp only [Zch]
 refine Ev.bind (Zc8 _ _ _) ?_
 refine Ev.ite (fun h => ?_) (fun h => ?_)
 ·simp only [decide_eq_true_eq] at h
  refine Ev.ite (fun h2 => ?_) (fun h2 => ?_)
  ·simp only [decide_eq_true_eq] at h2
   refine Ev.of ?_
   congr 1; simp [cellOK]; omega
  ·simp only [decide_eq_true_eq] at h2
   refine Ev.ite (fun h3 => ?_) (fun h3 => ?_)
   ·simp only [decide_eq_true_eq] at h3
    refine Ev.bind (ZcK x) (Ev.of ?_)
    congr 1; unfold turning cellOK; by_cases h4 : x.1 = 3 ∨ x.1 = 6 <;> simp [h4] <;> omega
   ·simp only [decide_eq_true_eq] at h3
    refine Ev.of ?_
    congr 1; simp [cellOK]; omega
 ·simp only [decide_eq_true_eq] at h
  refine Ev.of ?_
  congr 1; simp [cellOK]; omega
theorem Zhg (x : CellD) : Ev (fun k => Z1s k x) (cellOK x && turning x) := by
 refine Ev.succ ?_
 simp only [Z1s]
 refine Ev.bind (Zg1 x) ?_
 refine Ev.ite (fun h => ?_) (fun h => ?_)
 ·rw [h, Bool.true_and]
  refine Ev.of ?_
  by_cases h1 : x.1 = 3 <;> simp [turning, h1]
 ·refine Ev.of ?_
  simp only [Bool.not_eq_true] at h
  rw [h]; rfl

theorem Zeo : ∀ (r pre : List CellD), (pre ++ r).length ≤ 9223372036854775806 → Ev (fun k => Z2Y k (pre ++ r) ((pre ++ r).length : Int) (pre.length : Int)) (if r.all cellOK then LR.go () else LR.ret false)
 | [], pre, hl => by
  refine Ev.succ ?_
  simp only [Z2Y, Z7, decide_false, Bool.false_eq_true, if_false, List.all_nil, if_true]
  exact Ev.some _
 | x :: r, pre, hl => by
  have ih := Zeo r (pre ++ [x]) (by simpa using hl)
  refine Ev.succ ?_
  simp only [Z2Y, Z5, Za, decide_true, if_true, Int.toNat_natCast, Z4]
  rw [Z6 pre x r (by omega)]
  rw [← Z0] at ih
  refine Ev.bind (Zg1 x) ?_
  cases hx : cellOK x with
  | true => simp only [hx, List.all_cons, Bool.true_and, Bool.not_true, Bool.false_eq_true, if_false]; exact ih
  | false => simp only [hx, List.all_cons, Bool.false_and, Bool.not_false, if_true, Bool.false_eq_true, if_false]; exact Ev.some _
theorem ZsE (l : List CellD) (hl : l.length ≤ 9223372036854775806) : Ev (fun k => Z8t k l) (decide (l.length ≤ 90) && l.all cellOK) := by
 refine Ev.succ ?_
 simp only [Z8t]
 refine Ev.ite (fun h => ?_) (fun h => ?_)
 ·simp only [decide_eq_true_eq] at h
  refine Ev.of ?_
  have : ¬ l.length ≤ 90 := by omega
  simp [this]
 ·simp only [decide_eq_true_eq] at h
  have h2 : l.length ≤ 90 := by omega
  refine Ev.bind (Zeo l [] (by simpa using hl)) ?_
  simp only [h2, decide_true, Bool.true_and]
  cases hx : l.all cellOK with
  | true => simp only [if_true]; exact Ev.go (Ev.some _)
  | false => simp only [Bool.false_eq_true, if_false]; exact Ev.ret (Ev.some _)
theorem Zw {a b : Int} (h1 : 1 ≤ a) (h2 : a ≤ 10) (h3 : 1 ≤ b) (h4 : b ≤ 9) : 1 ≤ a * b ∧ a * b ≤ 90 :=
 ⟨by have := Int.mul_le_mul h1 h3 (by omega) (by omega); omega, by have := Int.mul_le_mul h2 h4 (by omega) (by omega); omega⟩
theorem Zlm (b : BoardD) (hl : b.2.2.length ≤ 9223372036854775806) : Ev (fun k => Z8H k b) (boardOK b) := by
 refine Ev.succ ?_
 simp only [Z8H, ge_iff_le]
 have no : ∀ {c : Prop}, ¬ c → (boardOK b = true → c) → Option.some false = Option.some (boardOK b) := by
  intro c h1 h2
  cases hb : boardOK b with
  | true => exact absurd (h2 hb) h1
  | false => rfl
 have hb : boardOK b = true → 1 ≤ b.1 ∧ b.1 ≤ 10 ∧ 1 ≤ b.2.1 ∧ b.2.1 ≤ 9 ∧ (b.2.2.length : Int) = b.1 * b.2.1 := fun h => by
  unfold boardOK at h; simp only [Bool.and_eq_true, decide_eq_true_eq] at h; exact h.1
 refine Ev.ite (fun h1 => ?_) (fun h => Ev.of (no h (fun hh => by simpa using (hb hh).1)))
 refine Ev.ite (fun h2 => ?_) (fun h => Ev.of (no h (fun hh => by simpa using (hb hh).2.1)))
 refine Ev.ite (fun h3 => ?_) (fun h => Ev.of (no h (fun hh => by simpa using (hb hh).2.2.1)))
 refine Ev.ite (fun h4 => ?_) (fun h => Ev.of (no h (fun hh => by simpa using (hb hh).2.2.2.1)))
 simp only [decide_eq_true_eq] at h1 h2 h3 h4
 have hp := Zw h1 h2 h3 h4
 rw [w64 (by omega) (by omega)]
 refine Ev.ite (fun h5 => ?_) (fun h => Ev.of (no h (fun hh => by simpa using (hb hh).2.2.2.2)))
 simp only [decide_eq_true_eq] at h5
 refine Ev.bind (ZsE _ hl) (Ev.of ?_)
 have h6 : b.2.2.length ≤ 90 := by omega
 congr 1
 simp only [boardOK, h1, h2, h3, h4, ← h5, h6, and_self, decide_true, Bool.true_and]
theorem Zj1 : ∀ (r pre : List CellD), (pre ++ r).length ≤ 9223372036854775806 → Ev (fun k => Z66 k (pre ++ r) ((pre ++ r).length : Int) (pre.length : Int)) (if r.all cellOK then LR.go () else LR.ret false)
 | [], pre, hl => by
  refine Ev.succ ?_
  simp only [Z66, Z7, decide_false, Bool.false_eq_true, if_false, List.all_nil, if_true]
  exact Ev.some _
 | x :: r, pre, hl => by
  have ih := Zj1 r (pre ++ [x]) (by simpa using hl)
  refine Ev.succ ?_
  simp only [Z66, Z5, Za, decide_true, if_true, Int.toNat_natCast, Z4]
  rw [Z6 pre x r (by omega)]
  rw [← Z0] at ih
  refine Ev.bind (ZzD x) ?_
  cases hx : cellOK x with
  | true => simp only [hx, List.all_cons, Bool.true_and, Bool.not_true, Bool.false_eq_true, if_false]; exact ih
  | false => simp only [hx, List.all_cons, Bool.false_and, Bool.not_false, if_true, Bool.false_eq_true, if_false]; exact Ev.some _
theorem Zyi (b : BoardD) (hl : b.2.2.length ≤ 9223372036854775806) : Ev (fun k => Zcf k b) (boardOK b) := by
 refine Ev.succ ?_
 simp only [Zcf]
 have no : ∀ {c : Prop}, ¬ c → (boardOK b = true → c) → Option.some false = Option.some (boardOK b) := by
  intro c h1 h2
  cases hb : boardOK b with
  | true => exact absurd (h2 hb) h1
  | false => rfl
 have hb : boardOK b = true → 1 ≤ b.1 ∧ b.1 ≤ 10 ∧ 1 ≤ b.2.1 ∧ b.2.1 ≤ 9 ∧ (b.2.2.length : Int) = b.1 * b.2.1 := fun h => by
  unfold boardOK at h; simp only [Bool.and_eq_true, decide_eq_true_eq] at h; exact h.1
 refine Ev.bind (Zc8 _ _ _) (Ev.ite (fun h => Ev.of (no (c := 1 ≤ b.1 ∧ b.1 ≤ 10) (nd h) (fun hh => ⟨(hb hh).1, (hb hh).2.1⟩))) (fun h1 => ?_))
 refine Ev.bind (Zc8 _ _ _) (Ev.ite (fun h => Ev.of (no (c := 1 ≤ b.2.1 ∧ b.2.1 ≤ 9) (nd h) (fun hh => ⟨(hb hh).2.2.1, (hb hh).2.2.2.1⟩))) (fun h2 => ?_))
 have h1' : 1 ≤ b.1 ∧ b.1 ≤ 10 := yd h1
 have h2' : 1 ≤ b.2.1 ∧ b.2.1 ≤ 9 := yd h2
 have hp := Zw h1'.1 h1'.2 h2'.1 h2'.2
 rw [w64 (by omega) (by omega)]
 refine Ev.ite (fun h => Ev.of (no (c := (b.2.2.length : Int) = b.1 * b.2.1) (by simpa using h) (fun hh => (hb hh).2.2.2.2))) (fun h3 => ?_)
 have h3' : (b.2.2.length : Int) = b.1 * b.2.1 := by simpa using h3
 refine Ev.bind (Zj1 b.2.2 [] (by simpa using hl)) ?_
 have hx2 : boardOK b = b.2.2.all cellOK := by unfold boardOK; simp only [h1'.1, h1'.2, h2'.1, h2'.2, h3', and_self, decide_true, Bool.true_and]
 rw [hx2]
 cases hx : b.2.2.all cellOK with
 | true => simp only [if_true]; exact Ev.go (Ev.some _)
 | false => simp only [Bool.false_eq_true, if_false]; exact Ev.ret (Ev.some _)
theorem ZL {b : BoardD} (h : boardOK b = true) : 1 ≤ b.1 ∧ b.1 ≤ 10 ∧ 1 ≤ b.2.1 ∧ b.2.1 ≤ 9 ∧ (b.2.2.length : Int) = b.1 * b.2.1 ∧ ∀ x ∈ b.2.2, cellOK x = true := by
 unfold boardOK at h
 simp only [Bool.and_eq_true, decide_eq_true_eq] at h
 exact ⟨h.1.1, h.1.2.1, h.1.2.2.1, h.1.2.2.2.1, h.1.2.2.2.2, List.all_eq_true.1 h.2⟩
theorem Z9s {b : BoardD} (h : boardOK b = true) {r c : Int} (h1 : 0 ≤ r) (h2 : r < b.1) (h3 : 0 ≤ c) (h4 : c < b.2.1) : 0 ≤ r * b.2.1 + c ∧ r * b.2.1 + c < (b.2.2.length : Int) ∧ r * b.2.1 + c ≤ 90 ∧ 0 ≤ r * b.2.1 ∧ r * b.2.1 ≤ 90 := by
 obtain ⟨g1, g2, g3, g4, g5, _⟩ := ZL h
 have hp := Zw g1 g2 g3 g4
 have k1 : 0 ≤ r * b.2.1 := Int.mul_nonneg h1 (by omega)
 have k2 : (r + 1) * b.2.1 ≤ b.1 * b.2.1 := Int.mul_le_mul_of_nonneg_right (by omega) (by omega)
 rw [Int.add_mul, Int.one_mul] at k2
 omega
theorem Zxr {l : List CellD} {i : Int} (h0 : 0 ≤ i) (h1 : i < (l.length : Int)) (d : CellD) : List.getD l i.toNat d ∈ l := by
 have : i.toNat < l.length := by omega
 simp [List.getD, List.getElem?_eq_getElem this]

theorem ZlC (b : BoardD) (n : Int) (h0 : 0 ≤ n) (h1 : n ≤ 1048576) (hl : b.2.2.length ≤ 9223372036854775807) : Ev (fun k => Z8E k b n) (if n - b.2.2.length < 0 then -1 else n - b.2.2.length) := by
 refine Ev.succ ?_
 simp only [Z8E]
 refine Ev.bind (Zxn _ n h0 h1 hl) ?_
 by_cases h : n - (b.2.2.length : Int) < 0 <;> simp only [h, if_true, if_false]
 ·exact Ev.some _
 ·simp only [h, decide_false, Bool.false_eq_true, if_false]; exact Ev.some _
theorem Z3C (b : BoardD) (hl : b.2.2.length ≤ 1048576) : Ev (fun k => Z16 k b) b := by
 refine Ev.succ ?_
 simp only [Z16]
 exact Ev.bind (Zxo _ hl) (Ev.some _)
theorem Zl1 (b c : BoardD) (hl : b.2.2.length ≤ 9223372036854775806) : Ev (fun k => Z8S k b c) (decide (b = c)) := by
 obtain ⟨b1, b2, b3⟩ := b
 obtain ⟨c1, c2, c3⟩ := c
 refine Ev.succ ?_
 simp only [Z8S]
 by_cases h1 : b1 = c1
 ·by_cases h2 : b2 = c2
  ·simp only [h1, h2, ne_eq, not_true_eq_false, decide_false, Bool.false_eq_true, if_false]
   refine Ev.bind (Zxk b3 c3 hl) ?_
   by_cases h3 : b3 = c3
   ·simp only [h3, decide_true, Bool.not_true, Bool.false_eq_true, if_false]; exact Ev.some _
   ·simp only [h3, decide_false, Bool.not_false, if_true, Prod.mk.injEq, and_false]; exact Ev.some _
  ·simp only [h1, h2, ne_eq, not_true_eq_false, decide_false, Bool.false_eq_true, if_false, not_false_eq_true, decide_true, if_true, Prod.mk.injEq, false_and, and_false]; exact Ev.some _
 ·simp only [h1, ne_eq, not_false_eq_true, decide_true, if_true, Prod.mk.injEq, false_and, decide_false]; exact Ev.some _
end Go.Proofs.Ytpeflcbadgfebaa.Vs

set_option linter.unusedVariables false
set_option linter.unusedSimpArgs false
namespace Go.Proofs.Ytpeflcbadgfebaa.Vs
open Go.RowKit
def geared (x : CellD) : Bool := decide (x.1 = 6 ∨ x.1 = 7)
theorem Zjl (x : CellD) : Ev (fun k => Z7O k x) (geared x) := by
 refine Ev.succ ?_
 simp only [Z7O]
 refine Ev.of ?_
 by_cases h1 : x.1 = 6 <;> simp [geared, h1]
theorem ZnM (x : CellD) : Ev (fun k => Za1 k x) (geared x) := by
 refine Ev.succ ?_
 simp only [Za1]
 refine Ev.of ?_
 by_cases h1 : x.1 = 6 <;> simp [geared, h1]
def nears (b : BoardD) (i : Int) : List Int := (if 0 < Int.tdiv i b.2.1 then [i - b.2.1] else []) ++ (if 0 < Int.tmod i b.2.1 then [i - 1] else []) ++ (if Int.tmod i b.2.1 + 1 < b.2.1 then [i + 1] else []) ++ (if Int.tdiv i b.2.1 + 1 < b.1 then [i + b.2.1] else [])
theorem Zf2 {b : BoardD} (hb : boardOK b = true) {i : Int} (h0 : 0 ≤ i) (h1 : i < (b.2.2.length : Int)) : ∃ q m t : Int, Int.tdiv i b.2.1 = q ∧ Int.tmod i b.2.1 = m ∧ i = t + m ∧ 0 ≤ m ∧ m < b.2.1 ∧ 0 ≤ q ∧ q < b.1 ∧ 0 ≤ t ∧ t + b.2.1 ≤ (b.2.2.length : Int) ∧ (1 ≤ q → b.2.1 ≤ t) ∧ (q + 1 < b.1 → t + b.2.1 + b.2.1 ≤ (b.2.2.length : Int)) := by
 obtain ⟨g1, g2, g3, g4, g5, g6⟩ := ZL hb
 have hq : Int.tdiv i b.2.1 = i / b.2.1 := Int.tdiv_eq_ediv_of_nonneg h0
 have hm : Int.tmod i b.2.1 = i % b.2.1 := Int.tmod_eq_emod_of_nonneg h0
 have e1 := Int.mul_ediv_add_emod i b.2.1
 have e2 := Int.emod_nonneg i (show b.2.1 ≠ 0 by omega)
 have e3 := Int.emod_lt_of_pos i (show 0 < b.2.1 by omega)
 have e4 : 0 ≤ i / b.2.1 := Int.ediv_nonneg h0 (by omega)
 have e5 : i / b.2.1 < b.1 := Int.ediv_lt_of_lt_mul (by omega) (by rw [← g5]; exact h1)
 have e6 : 0 ≤ b.2.1 * (i / b.2.1) := Int.mul_nonneg (by omega) e4
 have e7 : b.2.1 * (i / b.2.1 + 1) ≤ b.2.1 * b.1 := Int.mul_le_mul_of_nonneg_left (by omega) (by omega)
 rw [Int.mul_add, Int.mul_one, Int.mul_comm b.2.1 b.1, ← g5] at e7
 refine ⟨_, _, b.2.1 * (i / b.2.1), hq, hm, by omega, e2, e3, e4, e5, e6, e7, fun h => ?_, fun h => ?_⟩
 ·have := Int.mul_le_mul_of_nonneg_left h (show 0 ≤ b.2.1 by omega)
  omega
 ·have e8 : b.2.1 * (i / b.2.1 + 2) ≤ b.2.1 * b.1 := Int.mul_le_mul_of_nonneg_left (by omega) (by omega)
  rw [Int.mul_add, Int.mul_comm b.2.1 b.1, ← g5] at e8
  omega
theorem ZAs {b : BoardD} (hb : boardOK b = true) {i : Int} (h0 : 0 ≤ i) (h1 : i < (b.2.2.length : Int)) : ∀ n ∈ nears b i, 0 ≤ n ∧ n < (b.2.2.length : Int) := by
 obtain ⟨q, m, t, hq, hm, k1, k2, k3, k4, k5, k6, k7, k8, k9⟩ := Zf2 hb h0 h1
 intro n hn
 unfold nears at hn
 rw [hq, hm] at hn
 simp only [List.mem_append] at hn
 rcases hn with ((hn | hn) | hn) | hn
 ·split at hn
  ·have := List.mem_singleton.1 hn; have := k8 (by omega); omega
  ·cases hn
 ·split at hn
  ·have := List.mem_singleton.1 hn; omega
  ·cases hn
 ·split at hn
  ·have := List.mem_singleton.1 hn; omega
  ·cases hn
 ·split at hn
  ·have := List.mem_singleton.1 hn; have := k9 (by omega); omega
  ·cases hn
theorem Zy5 (b : BoardD) (i : Int) : (nears b i).length ≤ 4 := by
 unfold nears
 simp only [List.length_append]
 have h1 : ∀ (c : Prop) [Decidable c] (x : Int), (if c then [x] else []).length ≤ 1 := by intro c _ x; split <;> simp
 have a1 := h1 (0 < Int.tdiv i b.2.1) (i - b.2.1)
 have a2 := h1 (0 < Int.tmod i b.2.1) (i - 1)
 have a3 := h1 (Int.tmod i b.2.1 + 1 < b.2.1) (i + 1)
 have a4 := h1 (Int.tdiv i b.2.1 + 1 < b.1) (i + b.2.1)
 omega
theorem ZvL (b : BoardD) (hb : boardOK b = true) (i : Int) (h0 : 0 ≤ i) (h1 : i < (b.2.2.length : Int)) : Ev (fun k => Zar k b i) (nears b i) := by
 obtain ⟨g1, g2, g3, g4, g5, g6⟩ := ZL hb
 have hp := Zw g1 g2 g3 g4
 obtain ⟨q, m, t, hq, hm, k1, k2, k3, k4, k5, k6, k7, k8, k9⟩ := Zf2 hb h0 h1
 have hC : ¬ b.2.1 = 0 := by omega
 refine Ev.succ ?_
 simp only [Zar, hC, if_false, nears, hq, hm, gt_iff_lt]
 rw [w64 (n := q) (by omega) (by omega), w64 (n := q + 1) (by omega) (by omega), w64 (n := m + 1) (by omega) (by omega), w64 (n := i - b.2.1) (by omega) (by omega), w64 (n := i - 1) (by omega) (by omega), w64 (n := i + 1) (by omega) (by omega), w64 (n := i + b.2.1) (by omega) (by omega)]
 refine Ev.of ?_
 by_cases h1 : 0 < q <;> by_cases h2 : 0 < m <;> by_cases h3 : m + 1 < b.2.1 <;> by_cases h4 : q + 1 < b.1 <;> simp [h1, h2, h3, h4]
theorem ZyW (b : BoardD) (hb : boardOK b = true) (i : Int) (h0 : 0 ≤ i) (h1 : i < (b.2.2.length : Int)) : Ev (fun k => Zcr k b i) (nears b i) := by
 obtain ⟨g1, g2, g3, g4, g5, g6⟩ := ZL hb
 have hp := Zw g1 g2 g3 g4
 obtain ⟨q, m, t, hq, hm, k1, k2, k3, k4, k5, k6, k7, k8, k9⟩ := Zf2 hb h0 h1
 have hC : ¬ b.2.1 = 0 := by omega
 refine Ev.succ ?_
 simp only [Zcr, hC, if_false, nears, hq, hm, gt_iff_lt]
 rw [w64 (n := q) (by omega) (by omega), w64 (n := q + 1) (by omega) (by omega), w64 (n := m + 1) (by omega) (by omega), w64 (n := i - b.2.1) (by omega) (by omega), w64 (n := i - 1) (by omega) (by omega), w64 (n := i + 1) (by omega) (by omega), w64 (n := i + b.2.1) (by omega) (by omega)]
 refine Ev.of ?_
 by_cases h1 : 0 < q <;> by_cases h2 : 0 < m <;> by_cases h3 : m + 1 < b.2.1 <;> by_cases h4 : q + 1 < b.1 <;> simp [h1, h2, h3, h4]
def visit (b : BoardD) (v : Int) (G : List Int × List Int) (n : Int) : List Int × List Int := if geared (List.getD b.2.2 n.toNat (0, 0)) && decide (List.getD G.1 n.toNat 0 < 0) then (List.set G.1 n.toNat v, G.2 ++ [n]) else G
def unl (l : List Int) : Nat := l.countP fun x => decide (x < 0)
theorem Zrt (v : Int) (hv : 0 ≤ v) : ∀ (l : List Int) (i : Nat), i < l.length → List.getD l i 0 < 0 → unl (l.set i v) + 1 = unl l
 | [], i, h, _ => by simp at h
 | x :: l, 0, _, h => by
  have h' : x < 0 := by simpa using h
  have : ¬ v < 0 := by omega
  simp [unl, h', this]
 | x :: l, i + 1, h, h2 => by
  have ih := Zrt v hv l i (by simpa using h) (by simpa using h2)
  simp only [unl, List.set_cons_succ, List.countP_cons] at ih ⊢
  omega
theorem ZBx (l : List Int) : unl l ≤ l.length := List.countP_le_length
theorem Zy9 (b : BoardD) (v : Int) (G : List Int × List Int) (n : Int) : (visit b v G n).1.length = G.1.length := by
 unfold visit; split <;> simp
theorem Zh0 (b : BoardD) (v : Int) : ∀ (r : List Int) (G : List Int × List Int), (r.foldl (visit b v) G).1.length = G.1.length
 | [], G => rfl
 | n :: r, G => by rw [List.foldl_cons, Zh0 b v r, Zy9]
theorem ZCw (b : BoardD) (v : Int) (hv : 0 ≤ v) (G : List Int × List Int) (n : Int) (h0 : 0 ≤ n) (h1 : n < (G.1.length : Int)) : unl (visit b v G n).1 + (visit b v G n).2.length = unl G.1 + G.2.length := by
 unfold visit
 split
 ·rename_i hc
  simp only [Bool.and_eq_true, decide_eq_true_eq] at hc
  have := Zrt v hv G.1 n.toNat (by omega) hc.2
  simp only [List.length_append, List.length_singleton]
  omega
 ·rfl
theorem ZmV (b : BoardD) (v : Int) (hv : 0 ≤ v) : ∀ (r : List Int) (G : List Int × List Int), (∀ n ∈ r, 0 ≤ n ∧ n < (G.1.length : Int)) → unl (r.foldl (visit b v) G).1 + (r.foldl (visit b v) G).2.length = unl G.1 + G.2.length
 | [], G, _ => rfl
 | n :: r, G, h => by
  rw [List.foldl_cons, ZmV b v hv r _ (fun m hm => by rw [Zy9]; exact h m (List.mem_cons_of_mem _ hm))]
  exact ZCw b v hv G n (h n (List.mem_cons_self ..)).1 (h n (List.mem_cons_self ..)).2
theorem Zh8 (b : BoardD) (v : Int) : ∀ (r : List Int) (o2 o3 a : List Int), (r.foldl (visit b v) (o2, o3 ++ a)) = ((r.foldl (visit b v) (o2, a)).1, o3 ++ (r.foldl (visit b v) (o2, a)).2)
 | [], o2, o3, a => rfl
 | n :: r, o2, o3, a => by
  simp only [List.foldl_cons]
  by_cases hc : (geared (List.getD b.2.2 n.toNat (0, 0)) && decide (List.getD o2 n.toNat 0 < 0)) = true
  ·have e1 : visit b v (o2, o3 ++ a) n = (List.set o2 n.toNat v, o3 ++ (a ++ [n])) := by simp only [visit]; rw [if_pos hc, List.append_assoc]
   have e2 : visit b v (o2, a) n = (List.set o2 n.toNat v, a ++ [n]) := by simp only [visit]; rw [if_pos hc]
   rw [e1, e2]
   exact Zh8 b v r _ o3 _
  ·have e1 : visit b v (o2, o3 ++ a) n = (o2, o3 ++ a) := by simp only [visit]; rw [if_neg hc]
   have e2 : visit b v (o2, a) n = (o2, a) := by simp only [visit]; rw [if_neg hc]
   rw [e1, e2]
   exact Zh8 b v r o2 o3 a
theorem Zn7 (b : BoardD) (v : Int) (P : Int → Prop) : ∀ (r : List Int) (G : List Int × List Int), (∀ n ∈ r, P n) → (∀ n ∈ G.2, P n) → ∀ n ∈ (r.foldl (visit b v) G).2, P n
 | [], G, _, h => h
 | m :: r, G, h, hg => by
  rw [List.foldl_cons]
  refine Zn7 b v P r _ (fun n hn => h n (List.mem_cons_of_mem _ hn)) (fun n hn => ?_)
  unfold visit at hn
  split at hn
  ·rcases List.mem_append.1 hn with hn | hn
   ·exact hg n hn
   ·rw [List.mem_singleton.1 hn]; exact h m (List.mem_cons_self ..)
  ·exact hg n hn
theorem Z8G (b : BoardD) (hb : boardOK b = true) (v : Int) (hv : 0 ≤ v) (v26 : List CellD) (v27 v28 : Int) : ∀ (r pre o2 o3 : List Int), (∀ n ∈ r, 0 ≤ n ∧ n < (b.2.2.length : Int)) → (pre ++ r).length ≤ 100 → o2.length = b.2.2.length → o3.length + unl o2 ≤ 1000 →
    Ev (fun k => ZD k b.1 b.2.1 b.2.2 o2 o3 (pre ++ r) v  v26 v27 v28 ((pre ++ r).length : Int) (pre.length : Int)) (b.1, b.2.1, b.2.2, (r.foldl (visit b v) (o2, o3)).1, (r.foldl (visit b v) (o2, o3)).2, v, v26, v27, v28)
  | [], pre, o2, o3, hr, hl, h2, h3 => by
    refine Ev.succ ?_
    simp only [ZD, Z7, decide_false, Bool.false_eq_true, if_false]
    exact Ev.some _
  | x :: r, pre, o2, o3, hr, hl, h2, h3 => by
    obtain ⟨hx0, hx1⟩ := hr x (List.mem_cons_self ..)
    have hx2 : x < (o2.length : Int) := by omega
    have hr' : ∀ n ∈ r, 0 ≤ n ∧ n < (b.2.2.length : Int) := fun n hn => hr n (List.mem_cons_of_mem _ hn)
    have ih0 := Z8G b hb v hv  v26 v27 v28 r (pre ++ [x]) o2 o3 hr' (by simpa using hl) h2 h3
    rw [← Z0] at ih0
    have hn := Z6 pre x r (by omega)
    refine Ev.succ ?_
    simp only [ZD, Z5, Za, decide_true, if_true, Int.toNat_natCast, Z4, hn, hx0, hx1, hx2]
    refine Ev.bind (Zjl (List.getD b.2.2 x.toNat (0, 0))) ?_
    rw [List.foldl_cons]
    by_cases hg : geared (List.getD b.2.2 x.toNat (0, 0)) = true
    · simp only [hg, if_true]
      by_cases ho : List.getD o2 x.toNat 0 < 0
      · have e1 : visit b v (o2, o3) x = (List.set o2 x.toNat v, o3 ++ [x]) := by unfold visit; rw [if_pos (by simp only [hg, ho, decide_true, Bool.and_self])]
        have hu := Zrt v hv o2 x.toNat (by omega) ho
        have hle : o3.length + 1 ≤ 140737488355328 / 8 := by omega
        have ih := Z8G b hb v hv  v26 v27 v28 r (pre ++ [x]) (List.set o2 x.toNat v) (o3 ++ [x]) hr' (by simpa using hl) (by simpa using h2) (by simp; omega)
        rw [← Z0] at ih
        simp only [ho, decide_true, if_true, List.length_singleton, hle]
        rw [e1]
        exact ih
      · have e1 : visit b v (o2, o3) x = (o2, o3) := by unfold visit; rw [if_neg (by simp only [ho, decide_false, Bool.and_false, Bool.false_eq_true, not_false_eq_true])]
        simp only [ho, decide_false, Bool.false_eq_true, if_false]
        rw [e1]
        exact ih0
    · have e1 : visit b v (o2, o3) x = (o2, o3) := by unfold visit; rw [if_neg (by simp only [hg, Bool.false_and, Bool.false_eq_true, not_false_eq_true])]
      simp only [hg, Bool.false_eq_true, if_false]
      rw [e1]
      exact ih0
theorem ZbG (b : BoardD) (hb : boardOK b = true) (v : Int) (hv : 0 ≤ v) (v9 : Int) (v26 : List CellD) (v27 v28 : Int) : ∀ (r pre o2 o3 : List Int), (∀ n ∈ r, 0 ≤ n ∧ n < (b.2.2.length : Int)) → (pre ++ r).length ≤ 100 → o2.length = b.2.2.length → o3.length + unl o2 ≤ 1000 →
    Ev (fun k => Z1I k b.1 b.2.1 b.2.2 o2 o3 (pre ++ r) v v9 v26 v27 v28 ((pre ++ r).length : Int) (pre.length : Int)) (b.1, b.2.1, b.2.2, (r.foldl (visit b v) (o2, o3)).1, (r.foldl (visit b v) (o2, o3)).2, v, v9, v26, v27, v28)
  | [], pre, o2, o3, hr, hl, h2, h3 => by
    refine Ev.succ ?_
    simp only [Z1I, Z7, decide_false, Bool.false_eq_true, if_false]
    exact Ev.some _
  | x :: r, pre, o2, o3, hr, hl, h2, h3 => by
    obtain ⟨hx0, hx1⟩ := hr x (List.mem_cons_self ..)
    have hx2 : x < (o2.length : Int) := by omega
    have hr' : ∀ n ∈ r, 0 ≤ n ∧ n < (b.2.2.length : Int) := fun n hn => hr n (List.mem_cons_of_mem _ hn)
    have ih0 := ZbG b hb v hv v9 v26 v27 v28 r (pre ++ [x]) o2 o3 hr' (by simpa using hl) h2 h3
    rw [← Z0] at ih0
    have hn := Z6 pre x r (by omega)
    refine Ev.succ ?_
    simp only [Z1I, Z5, Za, decide_true, if_true, Int.toNat_natCast, Z4, hn, hx0, hx1, hx2]
    refine Ev.bind (ZnM (List.getD b.2.2 x.toNat (0, 0))) ?_
    rw [List.foldl_cons]
    by_cases hg : geared (List.getD b.2.2 x.toNat (0, 0)) = true
    · simp only [hg, if_true]
      by_cases ho : List.getD o2 x.toNat 0 < 0
      · have e1 : visit b v (o2, o3) x = (List.set o2 x.toNat v, o3 ++ [x]) := by unfold visit; rw [if_pos (by simp only [hg, ho, decide_true, Bool.and_self])]
        have hu := Zrt v hv o2 x.toNat (by omega) ho
        have hle : o3.length + 1 ≤ 140737488355328 / 8 := by omega
        have ih := ZbG b hb v hv v9 v26 v27 v28 r (pre ++ [x]) (List.set o2 x.toNat v) (o3 ++ [x]) hr' (by simpa using hl) (by simpa using h2) (by simp; omega)
        rw [← Z0] at ih
        simp only [ho, decide_true, if_true, List.length_singleton, hle]
        rw [e1]
        exact ih
      · have e1 : visit b v (o2, o3) x = (o2, o3) := by unfold visit; rw [if_neg (by simp only [ho, decide_false, Bool.and_false, Bool.false_eq_true, not_false_eq_true])]
        simp only [ho, decide_false, Bool.false_eq_true, if_false]
        rw [e1]
        exact ih0
    · have e1 : visit b v (o2, o3) x = (o2, o3) := by unfold visit; rw [if_neg (by simp only [hg, Bool.false_and, Bool.false_eq_true, not_false_eq_true])]
      simp only [hg, Bool.false_eq_true, if_false]
      rw [e1]
      exact ih0
def bfs (b : BoardD) (v : Int) : Nat → List Int → List Int → List Int
 | 0, o2, _ => o2
 | _ + 1, o2, [] => o2
 | n + 1, o2, x :: q => bfs b v n ((nears b x).foldl (visit b v) (o2, [])).1 (q ++ ((nears b x).foldl (visit b v) (o2, [])).2)
theorem Zrs (b : BoardD) (v : Int) : ∀ (n : Nat) (o2 q : List Int), (bfs b v n o2 q).length = o2.length
 | 0, o2, _ => rfl
 | _ + 1, o2, [] => rfl
 | n + 1, o2, x :: q => by simp only [bfs]; rw [Zrs b v n, Zh0]
theorem Zdm (b : BoardD) (hb : boardOK b = true) (v : Int) (hv : 0 ≤ v) (v26 : List CellD) (v27 v28 : Int) : ∀ (n : Nat) (o2 q : List Int), (∀ m ∈ q, 0 ≤ m ∧ m < (b.2.2.length : Int)) → o2.length = b.2.2.length → unl o2 + q.length + 1 ≤ n → q.length + unl o2 ≤ 1000 →
    Ev (fun k => Z17 k b.1 b.2.1 b.2.2 o2 q v v26 v27 v28) (b.1, b.2.1, b.2.2, bfs b v n o2 q, v, v26, v27, v28)
  | 0, o2, q, hq, h2, hn, hm => by omega
  | n + 1, o2, [], hq, h2, hn, hm => by
    refine Ev.succ ?_
    simp only [Z17, List.length_nil]
    have : ¬ ((0 : Nat) : Int) > 0 := by omega
    simp only [this, decide_false, Bool.false_eq_true, if_false]
    exact Ev.some _
  | n + 1, o2, x :: q, hq, h2, hn, hm => by
    obtain ⟨hx0, hx1⟩ := hq x (List.mem_cons_self ..)
    have hlen : (((x :: q).length : Nat) : Int) > 0 := by simp only [List.length_cons]; omega
    have hlen1 : (1 : Int) ≤ (((x :: q).length : Nat) : Int) := by omega
    have hlen0 : (0 : Int) < (((x :: q).length : Nat) : Int) := by omega
    have hin := ZAs hb hx0 hx1
    have hun := ZmV b v hv (nears b x) (o2, []) (fun m hm => by rw [h2]; exact hin m hm)
    simp only [List.length_nil, Nat.add_zero] at hun
    simp only [List.length_cons] at hn hm
    refine Ev.succ ?_
    simp only [Z17, hlen, hlen1, hlen0, Int.le_refl, decide_true, if_true]
    refine Ev.bind (ZvL b hb x hx0 hx1) ?_
    have h6 := Z8G b hb v hv v26 v27 v28 (nears b x) [] o2 q hin (by have := Zy5 b x; simp; omega) h2 (by omega)
    refine Ev.bind h6 ?_
    have happ := Zh8 b v (nears b x) o2 q []
    rw [List.append_nil] at happ
    rw [happ]
    show Ev (fun k => Z17 k b.1 b.2.1 b.2.2 (List.foldl (visit b v) (o2, []) (nears b x)).1 (q ++ (List.foldl (visit b v) (o2, []) (nears b x)).2) v v26 v27 v28) _
    exact Zdm b hb v hv v26 v27 v28 n _ _ (fun m hm => by
      rcases List.mem_append.1 hm with hm | hm
      · exact hq m (List.mem_cons_of_mem _ hm)
      · exact Zn7 b v (fun m => 0 ≤ m ∧ m < (b.2.2.length : Int)) (nears b x) (o2, []) hin (fun m hm => by cases hm) m hm) (by rw [Zh0]; exact h2) (by rw [List.length_append]; omega) (by rw [List.length_append]; omega)
theorem Zgx (b : BoardD) (hb : boardOK b = true) (v : Int) (hv : 0 ≤ v) (v26 : List CellD) (v27 v28 : Int) : ∀ (n : Nat) (o2 q pre : List Int), (∀ m ∈ q, 0 ≤ m ∧ m < (b.2.2.length : Int)) → o2.length = b.2.2.length → unl o2 + q.length + 1 ≤ n → (pre ++ q).length + unl o2 ≤ 1000 →
    Ev (fun k => Z2K k b.1 b.2.1 b.2.2 o2 (pre ++ q) v (pre.length : Int) v26 v27 v28) (b.1, b.2.1, b.2.2, bfs b v n o2 q, v, v26, v27, v28)
  | 0, o2, q, pre, hq, h2, hn, hm => by omega
  | n + 1, o2, [], pre, hq, h2, hn, hm => by
    refine Ev.succ ?_
    simp only [Z2K, Z7, decide_false, Bool.false_eq_true, if_false]
    exact Ev.some _
  | n + 1, o2, x :: q, pre, hq, h2, hn, hm => by
    obtain ⟨hx0, hx1⟩ := hq x (List.mem_cons_self ..)
    have hin := ZAs hb hx0 hx1
    have hun := ZmV b v hv (nears b x) (o2, []) (fun m hm => by rw [h2]; exact hin m hm)
    simp only [List.length_nil, Nat.add_zero] at hun
    have hm' := hm
    simp only [List.length_cons, List.length_append] at hn hm'
    refine Ev.succ ?_
    simp only [Z2K, Z5, Za, decide_true, if_true, Int.toNat_natCast, Z4]
    refine Ev.bind (ZyW b hb x hx0 hx1) ?_
    have h6 := ZbG b hb v hv (pre.length : Int) v26 v27 v28 (nears b x) [] o2 (pre ++ x :: q) hin (by have := Zy5 b x; simp; omega) h2 hm
    refine Ev.bind h6 ?_
    have happ := Zh8 b v (nears b x) o2 (pre ++ x :: q) []
    rw [List.append_nil] at happ
    rw [happ]
    show Ev (fun k => Z2K k b.1 b.2.1 b.2.2 (List.foldl (visit b v) (o2, []) (nears b x)).1 ((pre ++ x :: q) ++ (List.foldl (visit b v) (o2, []) (nears b x)).2) v (wrap64 ((pre.length : Int) + 1)) v26 v27 v28) _
    rw [Z6 pre x q (by simp; omega), Z0, List.append_assoc]
    exact Zgx b hb v hv v26 v27 v28 n _ _ (pre ++ [x]) (fun m hm => by
      rcases List.mem_append.1 hm with hm | hm
      · exact hq m (List.mem_cons_of_mem _ hm)
      · exact Zn7 b v (fun m => 0 ≤ m ∧ m < (b.2.2.length : Int)) (nears b x) (o2, []) hin (fun m hm => by cases hm) m hm) (by rw [Zh0]; exact h2) (by rw [List.length_append]; omega) (by simp only [List.length_append, List.length_singleton]; omega)
def groupsFrom (b : BoardD) : Int → List CellD → List Int → Int → List Int
 | _, [], o2, _ => o2
 | i, x :: r, o2, v => if geared x && decide (List.getD o2 i.toNat 0 < 0) then groupsFrom b (i + 1) r (bfs b v 200 (List.set o2 i.toNat v) [i]) (v + 1) else groupsFrom b (i + 1) r o2 v
theorem Zez (b : BoardD) : ∀ (r : List CellD) (i : Int) (o2 : List Int) (v : Int), (groupsFrom b i r o2 v).length = o2.length
 | [], _, _, _ => rfl
 | x :: r, i, o2, v => by
  simp only [groupsFrom]
  split
  ·rw [Zez b r, Zrs, List.length_set]
  ·exact Zez b r _ _ _
def groupsOf (b : BoardD) : List Int := groupsFrom b 0 b.2.2 (List.replicate b.2.2.length (-1)) 0
theorem ZpG (b : BoardD) : (groupsOf b).length = b.2.2.length := by unfold groupsOf; rw [Zez]; simp
theorem Zdn (b : BoardD) (m : Int) : ∀ (r pre : List Int), m = ((pre ++ r).length : Int) → (pre ++ r).length ≤ 1000 → Ev (fun k => Z23 k b.1 b.2.1 b.2.2 (pre ++ r) m (pre.length : Int)) (b.1, b.2.1, b.2.2, pre ++ List.replicate r.length (-1))
 | [], pre, hm, hl => by
  refine Ev.succ ?_
  have : ¬ (pre.length : Int) < m := by rw [hm]; exact Z7 pre
  simp only [Z23, this, decide_false, Bool.false_eq_true, if_false]
  exact Ev.of (by simp)
 | x :: r, pre, hm, hl => by
  have ih := Zdn b m r (pre ++ [-1]) (by rw [hm]; simp) (by simpa using hl)
  have hlt : (pre.length : Int) < m := by rw [hm]; exact Z5 _ _ _
  have hn2 : ((pre ++ [x]).length : Int) = ((pre ++ [(-1 : Int)]).length : Int) := by simp
  refine Ev.succ ?_
  simp only [Z23, hlt, Z5, Za, decide_true, if_true, Int.toNat_natCast, Z8Q]
  rw [Z6 pre x r (by omega), hn2]
  rw [← Z0] at ih
  refine ih.congr ?_
  simp [List.replicate_succ]
theorem Z8J (b : BoardD) (hb : boardOK b = true) : ∀ (r pre : List CellD) (o2 : List Int) (v : Int), pre ++ r = b.2.2 → o2.length = b.2.2.length → 0 ≤ v → v ≤ pre.length → Ev (fun k => Zt k b.1 b.2.1 b.2.2 o2 v (pre ++ r) ((pre ++ r).length : Int) (pre.length : Int)) (groupsFrom b pre.length r o2 v)
 | [], pre, o2, v, hpr, h2, hv, hv2 => by
  refine Ev.succ ?_
  simp only [Zt, Z7, decide_false, Bool.false_eq_true, if_false]
  exact Ev.some _
 | x :: r, pre, o2, v, hpr, h2, hv, hv2 => by
  obtain ⟨g1, g2, g3, g4, g5, g6⟩ := ZL hb
  have hp := Zw g1 g2 g3 g4
  have hl90 : (pre ++ x :: r).length ≤ 90 := by rw [hpr]; omega
  have hn := Z6 pre x r (by omega)
  have hc : ((pre ++ [x]).length : Int) = (pre.length : Int) + 1 := by simp
  have hlt := Z5 pre x r
  have hlo : (pre.length : Int) < (o2.length : Int) := by rw [h2, ← hpr]; exact hlt
  have ih0 := Z8J b hb r (pre ++ [x]) o2 v (by rw [← hpr]; simp) h2 hv (by simp; omega)
  rw [← Z0, hc] at ih0
  refine Ev.succ ?_
  simp only [Zt, Z5, Za, decide_true, if_true, Int.toNat_natCast, Z4, hn, hc, hlo]
  refine Ev.bind (Zjl x) ?_
  cases hg : geared x with
  | false =>
   simp only [Bool.not_false, if_true, groupsFrom, hg, Bool.false_and, Bool.false_eq_true, if_false]
   exact ih0
  | true =>
   simp only [Bool.not_true, Bool.false_eq_true, if_false]
   refine Ev.ite (fun h => ?_) (fun h => ?_)
   ·simp only [ge_iff_le, decide_eq_true_eq] at h
    have hno : ¬ List.getD o2 pre.length 0 < 0 := by omega
    simp only [groupsFrom, hg, Int.toNat_natCast, hno, decide_false, Bool.and_false, Bool.false_eq_true, if_false]
    exact ih0
   ·simp only [ge_iff_le, decide_eq_true_eq] at h
    have hno : List.getD o2 pre.length 0 < 0 := by omega
    have hul := ZBx (List.set o2 pre.length v)
    rw [List.length_set, h2, ← hpr] at hul
    have h4 := Zdm b hb v hv (pre ++ x :: r) ((pre ++ x :: r).length : Int) (pre.length : Int) 200 (List.set o2 pre.length v) [(pre.length : Int)] (fun m hm => by rw [List.mem_singleton.1 hm, ← hpr]; exact ⟨by omega, hlt⟩) (by rw [List.length_set]; exact h2) (by simp; omega) (by simp; omega)
    refine Ev.bind h4 ?_
    have ih := Z8J b hb r (pre ++ [x]) (bfs b v 200 (List.set o2 pre.length v) [(pre.length : Int)]) (v + 1) (by rw [← hpr]; simp) (by rw [Zrs, List.length_set]; exact h2) (by omega) (by simp; omega)
    rw [← Z0, hc] at ih
    show Ev (fun k => Zt k b.1 b.2.1 b.2.2 (bfs b v 200 (List.set o2 pre.length v) [(pre.length : Int)]) (wrap64 (v + 1)) (pre ++ x :: r) ((pre ++ x :: r).length : Int) (wrap64 ((pre.length : Int) + 1))) _
    rw [w64 (n := v + 1) (by omega) (by omega), hn, hc]
    simp only [groupsFrom, hg, Int.toNat_natCast, hno, decide_true, Bool.and_self, if_true]
    exact ih
theorem Zor (b : BoardD) (hb : boardOK b = true) : Ev (fun k => Z7j k b) (groupsOf b) := by
 obtain ⟨g1, g2, g3, g4, g5, g6⟩ := ZL hb
 have hp := Zw g1 g2 g3 g4
 have hm : b.2.2.length * 8 ≤ 281474976710656 := by omega
 refine Ev.succ ?_
 simp only [Z7j, Int.toNat_natCast, hm, if_true]
 refine Ev.bind (Zdn b _ (List.replicate b.2.2.length 0) [] rfl (by simp; omega)) ?_
 have hrep : ([] : List Int) ++ List.replicate (List.replicate b.2.2.length (0 : Int)).length (-1) = List.replicate b.2.2.length (-1) := by simp
 rw [hrep]
 exact Ev.bind (Z8J b hb b.2.2 [] (List.replicate b.2.2.length (-1)) 0 rfl (by simp) (by omega) (by simp)) (Ev.some _)
theorem Zgg (b : BoardD) (m : Int) : ∀ (r pre : List Int), m = ((pre ++ r).length : Int) → (pre ++ r).length ≤ 1000 → Ev (fun k => Z47 k b.1 b.2.1 b.2.2 (pre ++ r) m (pre.length : Int)) (b.1, b.2.1, b.2.2, pre ++ List.replicate r.length (-1))
 | [], pre, hm, hl => by
  refine Ev.succ ?_
  have : ¬ (pre.length : Int) < m := by rw [hm]; exact Z7 pre
  simp only [Z47, this, decide_false, Bool.false_eq_true, if_false]
  exact Ev.of (by simp)
 | x :: r, pre, hm, hl => by
  have ih := Zgg b m r (pre ++ [-1]) (by rw [hm]; simp) (by simpa using hl)
  have hlt : (pre.length : Int) < m := by rw [hm]; exact Z5 _ _ _
  have hn2 : ((pre ++ [x]).length : Int) = ((pre ++ [(-1 : Int)]).length : Int) := by simp
  refine Ev.succ ?_
  simp only [Z47, hlt, Z5, Za, decide_true, if_true, Int.toNat_natCast, Z8Q]
  rw [Z6 pre x r (by omega), hn2]
  rw [← Z0] at ih
  refine ih.congr ?_
  simp [List.replicate_succ]
theorem ZbT (b : BoardD) (hb : boardOK b = true) : ∀ (r pre : List CellD) (o2 : List Int) (v : Int), pre ++ r = b.2.2 → o2.length = b.2.2.length → 0 ≤ v → v ≤ pre.length → Ev (fun k => Z13 k b.1 b.2.1 b.2.2 o2 v (pre ++ r) ((pre ++ r).length : Int) (pre.length : Int)) (groupsFrom b pre.length r o2 v)
 | [], pre, o2, v, hpr, h2, hv, hv2 => by
  refine Ev.succ ?_
  simp only [Z13, Z7, decide_false, Bool.false_eq_true, if_false]
  exact Ev.some _
 | x :: r, pre, o2, v, hpr, h2, hv, hv2 => by
  obtain ⟨g1, g2, g3, g4, g5, g6⟩ := ZL hb
  have hp := Zw g1 g2 g3 g4
  have hl90 : (pre ++ x :: r).length ≤ 90 := by rw [hpr]; omega
  have hn := Z6 pre x r (by omega)
  have hc : ((pre ++ [x]).length : Int) = (pre.length : Int) + 1 := by simp
  have hlt := Z5 pre x r
  have hlo : (pre.length : Int) < (o2.length : Int) := by rw [h2, ← hpr]; exact hlt
  have ih0 := ZbT b hb r (pre ++ [x]) o2 v (by rw [← hpr]; simp) h2 hv (by simp; omega)
  rw [← Z0, hc] at ih0
  refine Ev.succ ?_
  simp only [Z13, Z5, Za, decide_true, if_true, Int.toNat_natCast, Z4, hn, hc, hlo]
  refine Ev.bind (ZnM x) ?_
  cases hg : geared x with
  | false =>
   simp only [Bool.not_false, if_true, groupsFrom, hg, Bool.false_and, Bool.false_eq_true, if_false]
   exact ih0
  | true =>
   simp only [Bool.not_true, Bool.false_eq_true, if_false]
   refine Ev.ite (fun h => ?_) (fun h => ?_)
   ·simp only [ge_iff_le, decide_eq_true_eq] at h
    have hno : ¬ List.getD o2 pre.length 0 < 0 := by omega
    simp only [groupsFrom, hg, Int.toNat_natCast, hno, decide_false, Bool.and_false, Bool.false_eq_true, if_false]
    exact ih0
   ·simp only [ge_iff_le, decide_eq_true_eq] at h
    have hno : List.getD o2 pre.length 0 < 0 := by omega
    have hul := ZBx (List.set o2 pre.length v)
    rw [List.length_set, h2, ← hpr] at hul
    have h4 := Zgx b hb v hv (pre ++ x :: r) ((pre ++ x :: r).length : Int) (pre.length : Int) 200 (List.set o2 pre.length v) [(pre.length : Int)] [] (fun m hm => by rw [List.mem_singleton.1 hm, ← hpr]; exact ⟨by omega, hlt⟩) (by rw [List.length_set]; exact h2) (by simp; omega) (by simp; omega)
    refine Ev.bind h4 ?_
    have ih := ZbT b hb r (pre ++ [x]) (bfs b v 200 (List.set o2 pre.length v) [(pre.length : Int)]) (v + 1) (by rw [← hpr]; simp) (by rw [Zrs, List.length_set]; exact h2) (by omega) (by simp; omega)
    rw [← Z0, hc] at ih
    show Ev (fun k => Z13 k b.1 b.2.1 b.2.2 (bfs b v 200 (List.set o2 pre.length v) [(pre.length : Int)]) (wrap64 (v + 1)) (pre ++ x :: r) ((pre ++ x :: r).length : Int) (wrap64 ((pre.length : Int) + 1))) _
    rw [w64 (n := v + 1) (by omega) (by omega), hn, hc]
    simp only [groupsFrom, hg, Int.toNat_natCast, hno, decide_true, Bool.and_self, if_true]
    exact ih
theorem Zvj (b : BoardD) (hb : boardOK b = true) : Ev (fun k => Z3T k b) (groupsOf b) := by
 obtain ⟨g1, g2, g3, g4, g5, g6⟩ := ZL hb
 have hp := Zw g1 g2 g3 g4
 have hm : b.2.2.length * 8 ≤ 281474976710656 := by omega
 refine Ev.succ ?_
 simp only [Z3T, Int.toNat_natCast, hm, if_true]
 refine Ev.bind (Zgg b _ (List.replicate b.2.2.length 0) [] rfl (by simp; omega)) ?_
 have hrep : ([] : List Int) ++ List.replicate (List.replicate b.2.2.length (0 : Int)).length (-1) = List.replicate b.2.2.length (-1) := by simp
 rw [hrep]
 exact Ev.bind (ZbT b hb b.2.2 [] (List.replicate b.2.2.length (-1)) 0 rfl (by simp) (by omega) (by simp)) (Ev.some _)
end Go.Proofs.Ytpeflcbadgfebaa.Vs

set_option linter.unusedVariables false
set_option linter.unusedSimpArgs false
namespace Go.Proofs.Ytpeflcbadgfebaa.Vs
open Go.RowKit
def fits (x : CellD) (kd : Int) : Bool := decide (kd = 2) || (decide (kd = 1) && turning x) || (decide (kd = 3) && (turning x || decide (x.1 = 1 ∨ x.1 = 2)))
theorem ZzJ (x : CellD) (kd : Int) : Ev (fun k => ZcA k x kd) (fits x kd) := by
 refine Ev.succ ?_
 simp only [ZcA]
 refine Ev.ite (fun h => ?_) (fun h => ?_)
 ·simp only [decide_eq_true_eq] at h
  refine Ev.bind (ZcK x) (Ev.of ?_)
  simp [fits, h]
 ·simp only [decide_eq_true_eq] at h
  refine Ev.ite (fun h2 => ?_) (fun h2 => ?_)
  ·simp only [decide_eq_true_eq] at h2
   exact Ev.of (by simp [fits, h2])
  ·simp only [decide_eq_true_eq] at h2
   refine Ev.ite (fun h3 => ?_) (fun h3 => ?_)
   ·simp only [decide_eq_true_eq] at h3
    refine Ev.bind (ZcK x) (Ev.ite (fun h4 => ?_) (fun h4 => ?_))
    ·exact Ev.of (by simp [fits, h3, h4])
    ·refine Ev.of ?_
     simp only [Bool.not_eq_true] at h4
     by_cases h5 : x.1 = 1 <;> simp [fits, h3, h4, h5]
   ·simp only [decide_eq_true_eq] at h3
    exact Ev.of (by simp [fits, h, h2, h3])
theorem ZwB (x : CellD) (kd : Int) (hx : cellOK x = true) : Ev (fun k => Zb3 k x kd) (fits x kd) := by
 have ht : Ev (fun k => Z1s k x) (turning x) := by simpa [hx] using Zhg x
 refine Ev.succ ?_
 simp only [Zb3]
 refine Ev.ite (fun h => ?_) (fun h => ?_)
 ·simp only [decide_eq_true_eq] at h
  refine Ev.bind ht (Ev.of ?_)
  simp [fits, h]
 ·simp only [decide_eq_true_eq] at h
  refine Ev.ite (fun h2 => ?_) (fun h2 => ?_)
  ·simp only [decide_eq_true_eq] at h2
   exact Ev.of (by simp [fits, h2])
  ·simp only [decide_eq_true_eq] at h2
   refine Ev.ite (fun h3 => ?_) (fun h3 => ?_)
   ·simp only [decide_eq_true_eq] at h3
    refine Ev.bind ht (Ev.ite (fun h4 => ?_) (fun h4 => ?_))
    ·exact Ev.of (by simp [fits, h3, h4])
    ·refine Ev.of ?_
     simp only [Bool.not_eq_true] at h4
     by_cases h5 : x.1 = 1 <;> simp [fits, h3, h4, h5]
   ·simp only [decide_eq_true_eq] at h3
    exact Ev.of (by simp [fits, h, h2, h3])
def faultsOK (b : BoardD) : Int → List FaultD → Bool
 | _, [] => true
 | last, x :: r => decide (0 ≤ x.2.1 ∧ x.2.1 < b.1 ∧ 0 ≤ x.2.2 ∧ x.2.2 < b.2.1 ∧ last < x.2.1 * b.2.1 + x.2.2) && fits (List.getD b.2.2 (x.2.1 * b.2.1 + x.2.2).toNat (0, 0)) x.1 && faultsOK b (x.2.1 * b.2.1 + x.2.2) r
end Go.Proofs.Ytpeflcbadgfebaa.Vs

set_option linter.unusedVariables false
set_option linter.unusedSimpArgs false
namespace Go.Proofs.Ytpeflcbadgfebaa.Vs
open Go.RowKit
def placeOf (b : BoardD) (f : FaultD) : Int := f.2.1 * b.2.1 + f.2.2
def kindsOf (b : BoardD) (l : List FaultD) (K : List Int) : List Int := l.foldl (fun K f => List.set K (placeOf b f).toNat f.1) K
def faAtD (r c d : Int) : List FaultD → Int
 | [] => d
 | f :: l => if f.2.1 = r ∧ f.2.2 = c then f.1 else faAtD r c d l
theorem Zc5 {b : BoardD} {last : Int} {f : FaultD} {l : List FaultD} (h : faultsOK b last (f :: l) = true) : (0 ≤ f.2.1 ∧ f.2.1 < b.1 ∧ 0 ≤ f.2.2 ∧ f.2.2 < b.2.1 ∧ last < placeOf b f) ∧ faultsOK b (placeOf b f) l = true := by
 simp only [faultsOK, Bool.and_eq_true, decide_eq_true_eq] at h
 exact ⟨h.1.1, h.2⟩
theorem Zjw {b : BoardD} : ∀ {l : List FaultD} {last : Int}, faultsOK b last l = true → ∀ f ∈ l, 0 ≤ f.2.1 ∧ f.2.1 < b.1 ∧ 0 ≤ f.2.2 ∧ f.2.2 < b.2.1
 | [], _, _, f, hf => by cases hf
 | g :: l, last, h, f, hf => by
  obtain ⟨h1, h2⟩ := Zc5 h
  rcases List.mem_cons.1 hf with rfl | hf
  ·exact ⟨h1.1, h1.2.1, h1.2.2.1, h1.2.2.2.1⟩
  ·exact Zjw h2 f hf
theorem ZxX {C r c r' c' : Int} (h1 : 0 ≤ c) (h2 : c < C) (h3 : 0 ≤ c') (h4 : c' < C) (h : r * C + c = r' * C + c') : r = r' ∧ c = c' := by
 have key : ∀ {x y : Int}, x < y → x * C + C ≤ y * C := by
  intro x y hxy
  have := Int.mul_le_mul_of_nonneg_right (show x + 1 ≤ y by omega) (show 0 ≤ C by omega)
  rw [Int.add_mul, Int.one_mul] at this
  exact this
 rcases Int.lt_trichotomy r r' with hr | hr | hr
 ·have := key hr; omega
 ·subst hr; omega
 ·have := key hr; omega
theorem Ztj {b : BoardD} {r c : Int} (d : Int) : ∀ {l : List FaultD} {last : Int}, faultsOK b last l = true → r * b.2.1 + c ≤ last → faAtD r c d l = d
 | [], _, _, _ => rfl
 | f :: l, last, h, hp => by
  obtain ⟨h1, h2⟩ := Zc5 h
  unfold placeOf at h1 h2
  simp only [faAtD]
  rw [if_neg (by rintro ⟨rfl, rfl⟩; omega)]
  exact Ztj d h2 (by omega)
theorem Ztp (b : BoardD) : ∀ (l : List FaultD) (K : List Int), (kindsOf b l K).length = K.length
 | [], _ => rfl
 | f :: l, K => by
  show (kindsOf b l (List.set K (placeOf b f).toNat f.1)).length = _
  rw [Ztp b l, List.length_set]
theorem ZAZ {α : Type} (l : List α) (i j : Nat) (x d : α) (hi : i < l.length) : List.getD (List.set l i x) j d = if i = j then x else List.getD l j d := by
 simp only [List.getD, List.getElem?_set]
 by_cases h : i = j
 ·subst h; simp [hi]
 ·simp [h]
theorem ZmT {b : BoardD} (hb : boardOK b = true) {r c : Int} (h1 : 0 ≤ r) (h2 : r < b.1) (h3 : 0 ≤ c) (h4 : c < b.2.1) : ∀ {l : List FaultD} {last : Int} {K : List Int}, faultsOK b last l = true → K.length = b.2.2.length → List.getD (kindsOf b l K) (r * b.2.1 + c).toNat 0 = faAtD r c (List.getD K (r * b.2.1 + c).toNat 0) l
 | [], _, _, _, _ => rfl
 | f :: l, last, K, h, hK => by
  obtain ⟨g1, g2⟩ := Zc5 h
  have hp := Z9s hb h1 h2 h3 h4
  have hf := Z9s hb g1.1 g1.2.1 g1.2.2.1 g1.2.2.2.1
  show List.getD (kindsOf b l (List.set K (placeOf b f).toNat f.1)) _ 0 = _
  rw [ZmT hb h1 h2 h3 h4 g2 (by rw [List.length_set]; exact hK)]
  rw [ZAZ _ _ _ _ _ (by unfold placeOf; omega)]
  simp only [faAtD]
  by_cases hm : f.2.1 = r ∧ f.2.2 = c
  ·rw [if_pos hm, if_pos (by unfold placeOf; rw [hm.1, hm.2])]
   exact Ztj _ g2 (by unfold placeOf; rw [hm.1, hm.2]; omega)
  ·rw [if_neg hm, if_neg (fun he => hm (ZxX g1.2.2.1 g1.2.2.2.1 h3 h4 (by unfold placeOf at he; omega)))]
theorem Zde (b : BoardD) (hb : boardOK b = true) : ∀ (r pre : List FaultD) (K : List Int), (∀ f ∈ r, 0 ≤ f.2.1 ∧ f.2.1 < b.1 ∧ 0 ≤ f.2.2 ∧ f.2.2 < b.2.1) → (pre ++ r).length ≤ 9223372036854775806 → K.length = b.2.2.length → Ev (fun k => Z22 k b.1 b.2.1 b.2.2 K (pre ++ r) ((pre ++ r).length : Int) (pre.length : Int)) (kindsOf b r K)
 | [], pre, K, hr, hl, hK => by
  refine Ev.succ ?_
  simp only [Z22, Z7, decide_false, Bool.false_eq_true, if_false]
  exact Ev.some _
 | f :: r, pre, K, hr, hl, hK => by
  obtain ⟨k1, k2, k3, k4⟩ := hr f (List.mem_cons_self ..)
  have hp := Z9s hb k1 k2 k3 k4
  have hpK : f.2.1 * b.2.1 + f.2.2 < (K.length : Int) := by omega
  have ih := Zde b hb r (pre ++ [f]) (List.set K (placeOf b f).toNat f.1) (fun g hg => hr g (List.mem_cons_of_mem _ hg)) (by simpa using hl) (by rw [List.length_set]; exact hK)
  refine Ev.succ ?_
  simp only [Z22, Z5, Za, decide_true, if_true, Int.toNat_natCast, Z4]
  rw [Z6 pre f r (by omega), w64 (n := f.2.1 * b.2.1) (by omega) (by omega), w64 (n := f.2.1 * b.2.1 + f.2.2) (by omega) (by omega)]
  simp only [hp.1, hpK, if_true]
  rw [← Z0] at ih
  exact ih
def kindsB (b : BoardD) (l : List FaultD) : List Int := kindsOf b l (List.replicate b.2.2.length 0)
theorem ZBL (b : BoardD) (l : List FaultD) : (kindsB b l).length = b.2.2.length := by unfold kindsB; rw [Ztp]; simp
theorem ZoN (b : BoardD) (hb : boardOK b = true) (l : List FaultD) (hl : faultsOK b (-1) l = true) (hlen : l.length ≤ 9223372036854775806) : Ev (fun k => Z7k k b l) (kindsB b l) := by
 obtain ⟨g1, g2, g3, g4, g5, g6⟩ := ZL hb
 have hp := Zw g1 g2 g3 g4
 have hm : b.2.2.length * 8 ≤ 281474976710656 := by omega
 refine Ev.succ ?_
 simp only [Z7k, Int.toNat_natCast, hm, if_true]
 exact Ev.bind (Zde b hb l [] _ (Zjw hl) (by simpa using hlen) (by simp)) (Ev.some _)
theorem ZfP (r c : Int) : ∀ (l pre : List FaultD), (pre ++ l).length ≤ 9223372036854775806 → ∀ {z : LR Unit Int}, (z = LR.go () ∧ faAtD r c 0 l = 0 ∨ z = LR.ret (faAtD r c 0 l)) → (∀ f ∈ l, ¬ (f.2.1 = r ∧ f.2.2 = c)) ∧ z = LR.go () ∨ (∃ f ∈ l, f.2.1 = r ∧ f.2.2 = c) ∧ z = LR.ret (faAtD r c 0 l) → Ev (fun k => Z4u k r c (pre ++ l) ((pre ++ l).length : Int) (pre.length : Int)) z
 | [], pre, hl, z, _, hz => by
  refine Ev.succ ?_
  simp only [Z4u, Z7, decide_false, Bool.false_eq_true, if_false]
  rcases hz with ⟨_, rfl⟩ | ⟨⟨f, hf, _⟩, _⟩
  ·exact Ev.some _
  ·cases hf
 | f :: l, pre, hl, z, hz0, hz => by
  have hn := Z6 pre f l (by omega)
  have hl' : ((pre ++ [f]) ++ l).length ≤ 9223372036854775806 := by simpa using hl
  refine Ev.succ ?_
  simp only [Z4u, Z5, Za, decide_true, if_true, Int.toNat_natCast, Z4, hn]
  by_cases hm : f.2.1 = r ∧ f.2.2 = c
  ·simp only [hm.1, hm.2, decide_true, if_true]
   rcases hz with ⟨h, _⟩ | ⟨_, rfl⟩
   ·exact absurd hm (h f (List.mem_cons_self ..))
   ·simp only [faAtD, hm, and_self, if_true]; exact Ev.some _
  ·have hfa : faAtD r c 0 (f :: l) = faAtD r c 0 l := by simp only [faAtD]; rw [if_neg hm]
   have ih : Ev (fun k => Z4u k r c (pre ++ f :: l) ((pre ++ f :: l).length : Int) ((pre ++ [f]).length : Int)) z := by
    rw [Z0]
    refine ZfP r c l (pre ++ [f]) hl' (by rw [← hfa]; exact hz0) ?_
    rcases hz with ⟨h, h2⟩ | ⟨⟨g, hg, hgm⟩, h2⟩
    ·exact .inl ⟨fun g hg => h g (List.mem_cons_of_mem _ hg), h2⟩
    ·rcases List.mem_cons.1 hg with rfl | hg
     ·exact absurd hgm hm
     ·exact .inr ⟨⟨g, hg, hgm⟩, by rw [← hfa]; exact h2⟩
   refine Ev.ite (fun g1 => Ev.ite (fun g2 => ?_) (fun _ => ih)) (fun _ => ih)
   simp only [decide_eq_true_eq] at g1 g2
   exact absurd ⟨g1, g2⟩ hm
theorem ZvI {r c d : Int} : ∀ {l : List FaultD}, (∀ f ∈ l, ¬ (f.2.1 = r ∧ f.2.2 = c)) → faAtD r c d l = d
 | [], _ => rfl
 | f :: l, h => by
  simp only [faAtD]
  rw [if_neg (h f (List.mem_cons_self ..))]
  exact ZvI (fun g hg => h g (List.mem_cons_of_mem _ hg))
theorem ZBh (l : List FaultD) (r c : Int) (hl : l.length ≤ 9223372036854775806) : Ev (fun k => Zf4 k l r c) (faAtD r c 0 l) := by
 refine Ev.succ ?_
 simp only [Zf4]
 by_cases h : ∃ f ∈ l, f.2.1 = r ∧ f.2.2 = c
 ·exact Ev.bind (ZfP r c l [] (by simpa using hl) (z := LR.ret (faAtD r c 0 l)) (.inr rfl) (.inr ⟨h, rfl⟩)) (Ev.ret (Ev.some _))
 ·have h' : ∀ f ∈ l, ¬ (f.2.1 = r ∧ f.2.2 = c) := fun f hf hm => h ⟨f, hf, hm⟩
  have h0 := ZvI (d := 0) h'
  refine Ev.bind (ZfP r c l [] (by simpa using hl) (z := LR.go ()) (.inl ⟨rfl, h0⟩) (.inl ⟨h', rfl⟩)) ?_
  rw [h0]
  exact Ev.go (Ev.some _)
def flip1 (x : CellD) : CellD := (x.1, 1 - x.2)
def turnGo (G K : List Int) (at' : Nat) (ka : Int) : Nat → List CellD → List CellD
 | _, [] => []
 | i, x :: r => (if (i = at' ∨ (ka = 6 ∧ x.1 = 6 ∧ List.getD G i 0 = List.getD G at' 0)) ∧ List.getD K i 0 ≠ 1 then flip1 x else x) :: turnGo G K at' ka (i + 1) r
def passGo (G : List Int) (ga : Int) : Nat → List CellD → List CellD
 | _, [] => []
 | i, x :: r => (if x.1 = 6 ∧ List.getD G i 0 = ga then flip1 x else x) :: passGo G ga (i + 1) r
theorem ZeB {x : CellD} (h : cellOK x = true) : 0 ≤ x.1 ∧ x.1 ≤ 7 ∧ (x.2 = 0 ∨ x.2 = 1) := by
 unfold cellOK at h
 simp only [decide_eq_true_eq] at h
 omega
theorem ZCK {p r : List CellD} {x y d : CellD} (h : y.1 = x.1) (n : Nat) : (List.getD (p ++ y :: r) n d).1 = (List.getD (p ++ x :: r) n d).1 := by
 simp only [List.getD]
 rcases Nat.lt_trichotomy n p.length with hn | hn | hn
 ·rw [List.getElem?_append_left hn, List.getElem?_append_left hn]
 ·subst hn; simp [h]
 ·rw [List.getElem?_append_right (by omega), List.getElem?_append_right (by omega)]
  have : ∃ m, n - p.length = m + 1 := ⟨n - p.length - 1, by omega⟩
  obtain ⟨m, hm⟩ := this
  rw [hm]
  rfl
theorem Zet (R C : Int) (G K : List Int) (at' : Nat) (ka : Int) : ∀ (r pre : List CellD), (pre ++ r).length ≤ 1000 → at' < (pre ++ r).length → G.length = (pre ++ r).length → K.length = (pre ++ r).length → (List.getD (pre ++ r) at' (0, 0)).1 = ka → (∀ x ∈ r, cellOK x = true) →
    Ev (fun k => Zb k (pre ++ r) R C G K (at' : Int) ((pre ++ r).length : Int) (pre.length : Int)) (pre ++ turnGo G K at' ka pre.length r)
  | [], pre, hl, ha, hG, hK, hka, hx => by
    refine Ev.succ ?_
    simp only [Zb, Z7, decide_false, Bool.false_eq_true, if_false, turnGo]
    exact Ev.some _
  | x :: r, pre, hl, ha, hG, hK, hka, hx => by
    have hn := Z6 pre x r (by omega)
    have hlt := Z5 pre x r
    have hGl : (pre.length : Int) < (G.length : Int) := by rw [hG]; exact hlt
    have hKl : (pre.length : Int) < (K.length : Int) := by rw [hK]; exact hlt
    have ha0 : (0 : Int) ≤ (at' : Int) := Int.natCast_nonneg _
    have ha1 : (at' : Int) < ((pre ++ x :: r).length : Int) := by omega
    have haG : (at' : Int) < (G.length : Int) := by rw [hG]; exact ha1
    obtain ⟨c1, c2, c3⟩ := ZeB (hx x (List.mem_cons_self ..))
    have hr' : ∀ y ∈ r, cellOK y = true := fun y hy => hx y (List.mem_cons_of_mem _ hy)
    have next : ∀ y : CellD, y.1 = x.1 → Ev (fun k => Zb k (pre ++ y :: r) R C G K (at' : Int) ((pre ++ x :: r).length : Int) ((pre ++ [x]).length : Int)) (pre ++ y :: turnGo G K at' ka (pre.length + 1) r) := by
      intro y hy
      have ih := Zet R C G K at' ka r (pre ++ [y]) (by simpa using hl) (by simpa using ha) (by simpa using hG) (by simpa using hK) (by rw [← Z0, ZCK hy]; exact hka) hr'
      have e1 : ((pre ++ [y] ++ r).length : Int) = ((pre ++ x :: r).length : Int) := by simp
      have e2 : ((pre ++ [y]).length : Int) = ((pre ++ [x]).length : Int) := by simp
      have e3 : (pre ++ [y]).length = pre.length + 1 := by simp
      rw [e1, e2, e3, ← Z0, ← Z0] at ih
      exact ih
    refine Ev.succ ?_
    simp only [Zb, Z5, Za, decide_true, if_true, Int.toNat_natCast, Z4, Z8Q, hn, hGl, hKl, ha0, ha1, haG, hka]
    rw [w64 (n := 1 - x.2) (by omega) (by omega)]
    simp only [turnGo]
    by_cases hia : pre.length = at'
    · have hia' : (pre.length : Int) = (at' : Int) := by omega
      simp only [hia', decide_true, if_true]
      rw [← hia]
      refine Ev.ite (fun h => ?_) (fun h => ?_)
      · simp only [ne_eq, decide_eq_true_eq] at h
        rw [if_pos ⟨.inl rfl, h⟩]
        have := next (flip1 x) rfl
        rw [← hia] at this
        exact this
      · simp only [ne_eq, decide_eq_true_eq, Decidable.not_not] at h
        rw [if_neg (fun hc => hc.2 h)]
        have := next x rfl
        rw [← hia] at this
        exact this
    · have hia' : ¬ (pre.length : Int) = (at' : Int) := by omega
      simp only [hia', decide_false, Bool.false_eq_true, if_false]
      have no : ¬ (ka = 6 ∧ x.1 = 6 ∧ List.getD G pre.length 0 = List.getD G at' 0) → Ev (fun k => Zb k (pre ++ x :: r) R C G K (at' : Int) ((pre ++ x :: r).length : Int) ((pre ++ [x]).length : Int)) (pre ++ (if (pre.length = at' ∨ (ka = 6 ∧ x.1 = 6 ∧ List.getD G pre.length 0 = List.getD G at' 0)) ∧ List.getD K pre.length 0 ≠ 1 then flip1 x else x) :: turnGo G K at' ka (pre.length + 1) r) := by
        intro hno
        rw [if_neg (fun hc => hc.1.elim hia hno)]
        exact next x rfl
      refine Ev.ite (fun h1 => ?_) (fun h1 => no (fun hc => h1 (decide_eq_true hc.1)))
      refine Ev.ite (fun h2 => ?_) (fun h2 => no (fun hc => h2 (decide_eq_true hc.2.1)))
      refine Ev.ite (fun h3 => ?_) (fun h3 => no (fun hc => h3 (decide_eq_true hc.2.2)))
      simp only [decide_eq_true_eq] at h1 h2 h3
      refine Ev.ite (fun h => ?_) (fun h => ?_)
      · simp only [ne_eq, decide_eq_true_eq] at h
        rw [if_pos ⟨.inr ⟨h1, h2, h3⟩, h⟩]
        exact next (flip1 x) rfl
      · simp only [ne_eq, decide_eq_true_eq, Decidable.not_not] at h
        rw [if_neg (fun hc => hc.2 h)]
        exact next x rfl
def turnAt (G K : List Int) (at' : Nat) (o : List CellD) : List CellD := turnGo G K at' (List.getD o at' (0, 0)).1 0 o
theorem Zsc (R C : Int) (o : List CellD) (G K : List Int) (at' : Nat) (hl : o.length ≤ 1000) (ha : at' < o.length) (hG : G.length = o.length) (hK : K.length = o.length) (hx : ∀ x ∈ o, cellOK x = true) : Ev (fun k => Z4e k (R, C, o) G K (at' : Int)) (turnAt G K at' o) := by
 refine Ev.succ ?_
 simp only [Z4e]
 exact Ev.bind (Zet R C G K at' _ o [] hl ha hG hK rfl hx) (Ev.some _)
theorem Zo3 (x : CellD) (h : cellOK x = true) : Ev (fun k => Z9R k x) (flip1 x) := by
 obtain ⟨c1, c2, c3⟩ := ZeB h
 refine Ev.succ ?_
 simp only [Z9R]
 rw [w64 (n := 1 - x.2) (by omega) (by omega)]
 exact Ev.some _
theorem ZiP (R C : Int) (G : List Int) (at' : Nat) : ∀ (r pre : List CellD), (pre ++ r).length ≤ 1000 → at' < (pre ++ r).length → G.length = (pre ++ r).length → (∀ x ∈ r, cellOK x = true) →
    Ev (fun k => Z1T k (pre ++ r) R C G (at' : Int) ((pre ++ r).length : Int) (pre.length : Int)) (pre ++ passGo G (List.getD G at' 0) pre.length r)
  | [], pre, hl, ha, hG, hx => by
    refine Ev.succ ?_
    simp only [Z1T, Z7, decide_false, Bool.false_eq_true, if_false, passGo]
    exact Ev.some _
  | x :: r, pre, hl, ha, hG, hx => by
    have hn := Z6 pre x r (by omega)
    have hlt := Z5 pre x r
    have hGl : (pre.length : Int) < (G.length : Int) := by rw [hG]; exact hlt
    have ha0 : (0 : Int) ≤ (at' : Int) := Int.natCast_nonneg _
    have ha1 : (at' : Int) < ((pre ++ x :: r).length : Int) := by omega
    have haG : (at' : Int) < (G.length : Int) := by rw [hG]; exact ha1
    have hr' : ∀ y ∈ r, cellOK y = true := fun y hy => hx y (List.mem_cons_of_mem _ hy)
    have next : ∀ y : CellD, Ev (fun k => Z1T k (pre ++ y :: r) R C G (at' : Int) ((pre ++ x :: r).length : Int) ((pre ++ [x]).length : Int)) (pre ++ y :: passGo G (List.getD G at' 0) (pre.length + 1) r) := by
      intro y
      have ih := ZiP R C G at' r (pre ++ [y]) (by simpa using hl) (by simpa using ha) (by simpa using hG) hr'
      have e1 : ((pre ++ [y] ++ r).length : Int) = ((pre ++ x :: r).length : Int) := by simp
      have e2 : ((pre ++ [y]).length : Int) = ((pre ++ [x]).length : Int) := by simp
      have e3 : (pre ++ [y]).length = pre.length + 1 := by simp
      rw [e1, e2, e3, ← Z0, ← Z0] at ih
      exact ih
    refine Ev.succ ?_
    simp only [Z1T, Z5, Za, decide_true, if_true, Int.toNat_natCast, Z4, Z8Q, hn, hGl, ha0, haG]
    simp only [passGo]
    refine Ev.ite (fun h1 => Ev.ite (fun h2 => ?_) (fun h2 => ?_)) (fun h1 => ?_)
    · simp only [decide_eq_true_eq] at h1 h2
      rw [if_pos ⟨h1, h2⟩]
      exact Ev.bind (Zo3 x (hx x (List.mem_cons_self ..))) (next (flip1 x))
    · simp only [decide_eq_true_eq] at h2
      rw [if_neg (fun hc => h2 hc.2)]
      exact next x
    · simp only [decide_eq_true_eq] at h1
      rw [if_neg (fun hc => h1 hc.1)]
      exact next x
def passAt (G : List Int) (at' : Nat) (o : List CellD) : List CellD := if (List.getD o at' (0, 0)).1 = 3 then List.set o at' (flip1 (List.getD o at' (0, 0))) else if (List.getD o at' (0, 0)).1 = 6 then passGo G (List.getD G at' 0) 0 o else o
theorem Zzw (R C : Int) (o : List CellD) (G : List Int) (at' : Nat) (hl : o.length ≤ 1000) (ha : at' < o.length) (hG : G.length = o.length) (hx : ∀ x ∈ o, cellOK x = true) : Ev (fun k => Zcd k (R, C, o) G (at' : Int)) (passAt G at' o) := by
 have ha0 : (0 : Int) ≤ (at' : Int) := Int.natCast_nonneg _
 have ha1 : (at' : Int) < (o.length : Int) := by omega
 refine Ev.succ ?_
 simp only [Zcd, ha0, ha1, if_true, Int.toNat_natCast]
 unfold passAt
 refine Ev.ite (fun h1 => ?_) (fun h1 => Ev.ite (fun h2 => ?_) (fun h2 => ?_))
 ·simp only [decide_eq_true_eq] at h1
  rw [if_pos h1]
  exact Ev.bind (Zo3 _ (hx _ (Zxr ha0 ha1 _))) (Ev.some _)
 ·simp only [decide_eq_true_eq] at h1 h2
  rw [if_neg h1, if_pos h2]
  exact Ev.bind (ZiP R C G at' o [] hl ha hG hx) (Ev.some _)
 ·simp only [decide_eq_true_eq] at h1 h2
  rw [if_neg h1, if_neg h2]
  exact Ev.some _
theorem Zmv (G K : List Int) (at' : Nat) (ka : Int) : ∀ (l : List CellD) (i : Nat), (turnGo G K at' ka i l).length = l.length
 | [], _ => rfl
 | x :: r, i => by simp [turnGo, Zmv G K at' ka r]
theorem Zwb (G : List Int) (ga : Int) : ∀ (l : List CellD) (i : Nat), (passGo G ga i l).length = l.length
 | [], _ => rfl
 | x :: r, i => by simp [passGo, Zwb G ga r]
theorem ZaT (G K : List Int) (at' : Nat) (ka : Int) : ∀ (l : List CellD) (j i : Nat), (turnGo G K at' ka j l)[i]? = l[i]?.map fun x => if (j + i = at' ∨ (ka = 6 ∧ x.1 = 6 ∧ List.getD G (j + i) 0 = List.getD G at' 0)) ∧ List.getD K (j + i) 0 ≠ 1 then flip1 x else x
 | [], _, i => by simp [turnGo]
 | x :: r, j, 0 => by simp [turnGo]
 | x :: r, j, i + 1 => by
  simp only [turnGo, List.getElem?_cons_succ]
  rw [ZaT G K at' ka r (j + 1) i, show j + 1 + i = j + (i + 1) by omega]
theorem Zy4 (G : List Int) (ga : Int) : ∀ (l : List CellD) (j i : Nat), (passGo G ga j l)[i]? = l[i]?.map fun x => if x.1 = 6 ∧ List.getD G (j + i) 0 = ga then flip1 x else x
 | [], _, i => by simp [passGo]
 | x :: r, j, 0 => by simp [passGo]
 | x :: r, j, i + 1 => by
  simp only [passGo, List.getElem?_cons_succ]
  rw [Zy4 G ga r (j + 1) i, show j + 1 + i = j + (i + 1) by omega]
def restore (b : BoardD) (l : List FaultD) (o : List CellD) : List CellD := l.foldl (fun o f => if f.1 = 1 then List.set o (placeOf b f).toNat (List.getD b.2.2 (placeOf b f).toNat (0, 0)) else o) o
theorem Zk7 (b : BoardD) : ∀ (l : List FaultD) (o : List CellD), (restore b l o).length = o.length
 | [], _ => rfl
 | f :: l, o => by
  show (restore b l (if f.1 = 1 then _ else _)).length = _
  rw [Zk7 b l]
  split <;> simp
theorem Zmz (b : BoardD) : ∀ (l : List FaultD) (o : List CellD) (i : Nat), i < o.length → (restore b l o)[i]? = if ∃ f ∈ l, f.1 = 1 ∧ (placeOf b f).toNat = i then some (List.getD b.2.2 i (0, 0)) else o[i]?
  | [], o, i, hi => by rw [if_neg (by rintro ⟨f, hf, _⟩; cases hf)]; rfl
  | f :: l, o, i, hi => by
    show (restore b l (if f.1 = 1 then _ else _))[i]? = _
    by_cases hf : f.1 = 1
    · rw [if_pos hf, Zmz b l _ i (by rw [List.length_set]; exact hi)]
      by_cases h : ∃ g ∈ l, g.1 = 1 ∧ (placeOf b g).toNat = i
      · rw [if_pos h]
        obtain ⟨g, hg, h2⟩ := h
        rw [if_pos ⟨g, List.mem_cons_of_mem _ hg, h2⟩]
      · rw [if_neg h]
        by_cases hp : (placeOf b f).toNat = i
        · rw [if_pos ⟨f, List.mem_cons_self .., hf, hp⟩, hp, List.getElem?_set_self hi]
        · rw [List.getElem?_set_ne hp, if_neg (by
            rintro ⟨g, hg, h2, h3⟩
            rcases List.mem_cons.1 hg with rfl | hg
            · exact hp h3
            · exact h ⟨g, hg, h2, h3⟩)]
    · rw [if_neg hf, Zmz b l o i hi]
      by_cases h : ∃ g ∈ l, g.1 = 1 ∧ (placeOf b g).toNat = i
      · rw [if_pos h]
        obtain ⟨g, hg, h2⟩ := h
        rw [if_pos ⟨g, List.mem_cons_of_mem _ hg, h2⟩]
      · rw [if_neg h, if_neg (by
            rintro ⟨g, hg, h2, h3⟩
            rcases List.mem_cons.1 hg with rfl | hg
            · exact hf h2
            · exact h ⟨g, hg, h2, h3⟩)]
theorem Zyb {r c : Int} : ∀ {l : List FaultD} {f : FaultD}, f ∈ l → f.2.1 = r → f.2.2 = c → ∀ {b : BoardD} {last : Int}, faultsOK b last l = true → faAtD r c 0 l = f.1
 | g :: l, f, hf, h1, h2, b, last, hok => by
  obtain ⟨k1, k2⟩ := Zc5 hok
  simp only [faAtD]
  rcases List.mem_cons.1 hf with rfl | hf
  ·rw [if_pos ⟨h1, h2⟩]
  ·have hno : ¬ (g.2.1 = r ∧ g.2.2 = c) := by
    rintro ⟨e1, e2⟩
    have key : ∀ {l : List FaultD} {last : Int}, faultsOK b last l = true → ∀ f ∈ l, last < placeOf b f := by
     intro l
     induction l with
     | nil => intro last _ f hf; cases hf
     | cons g l ih =>
      intro last h f hf
      obtain ⟨a1, a2⟩ := Zc5 h
      rcases List.mem_cons.1 hf with rfl | hf
      ·exact a1.2.2.2.2
      ·have := ih a2 f hf; omega
    have := key k2 f hf
    unfold placeOf at this
    rw [h1, h2, e1, e2] at this
    omega
   rw [if_neg hno]
   exact Zyb hf h1 h2 k2
theorem Zy2 {r c : Int} : ∀ {l : List FaultD}, faAtD r c 0 l = 1 → ∃ f ∈ l, f.1 = 1 ∧ f.2.1 = r ∧ f.2.2 = c
 | [], h => by simp [faAtD] at h
 | f :: l, h => by
  simp only [faAtD] at h
  split at h
  ·rename_i hm
   exact ⟨f, List.mem_cons_self .., h, hm.1, hm.2⟩
  ·obtain ⟨g, hg, h2⟩ := Zy2 h
   exact ⟨g, List.mem_cons_of_mem _ hg, h2⟩
theorem ZCr {b : BoardD} (hb : boardOK b = true) {l : List FaultD} (hl : faultsOK b (-1) l = true) {i : Nat} (hi : i < b.2.2.length) : List.getD (kindsB b l) i 0 = 1 ↔ ∃ f ∈ l, f.1 = 1 ∧ (placeOf b f).toNat = i := by
 obtain ⟨q, m, t, hq, hm, k1, k2, k3, k4, k5, k6, k7, k8, k9⟩ := Zf2 hb (i := (i : Int)) (by omega) (by omega)
 have hC : 0 < b.2.1 := by omega
 have e0 : Int.tdiv (i : Int) b.2.1 = (i : Int) / b.2.1 := Int.tdiv_eq_ediv_of_nonneg (by omega)
 have e1 : Int.tmod (i : Int) b.2.1 = (i : Int) % b.2.1 := Int.tmod_eq_emod_of_nonneg (by omega)
 have e2 := Int.mul_ediv_add_emod (i : Int) b.2.1
 rw [← e0, ← e1, hq, hm] at e2
 have hi2 : (i : Int) = q * b.2.1 + m := by rw [Int.mul_comm]; omega
 have hi3 : i = (q * b.2.1 + m).toNat := by omega
 have hk : List.getD (kindsB b l) i 0 = faAtD q m 0 l := by
  unfold kindsB
  rw [hi3, ZmT hb k4 k5 k2 k3 hl (by simp)]
  congr 1
  simp only [List.getD, List.getElem?_replicate]
  split <;> rfl
 rw [hk]
 constructor
 ·intro h
  obtain ⟨f, hf, h1, h2, h3⟩ := Zy2 h
  exact ⟨f, hf, h1, by unfold placeOf; rw [h2, h3]; exact hi3.symm⟩
 ·rintro ⟨f, hf, h1, h2⟩
  obtain ⟨o1, o2, o3, o4⟩ := Zjw hl f hf
  have hp := Z9s hb o1 o2 o3 o4
  have := ZxX o3 o4 k2 k3 (show f.2.1 * b.2.1 + f.2.2 = q * b.2.1 + m by unfold placeOf at h2; omega)
  rw [Zyb hf this.1 this.2 hl, h1]
def stepAt (G K : List Int) (at' : Nat) (o : List CellD) : List CellD := if turning (List.getD o at' (0, 0)) then turnAt G K at' o else o
theorem ZAm {b : BoardD} (hb : boardOK b = true) {l : List FaultD} (hl : faultsOK b (-1) l = true) (G : List Int) {at' : Nat} {o : List CellD} (ho : o.length = b.2.2.length) (ha : at' < o.length) (hs : ∀ i, i < o.length → List.getD (kindsB b l) i 0 = 1 → o[i]? = some (List.getD b.2.2 i (0, 0))) :
    restore b l (passAt G at' o) = stepAt G (kindsB b l) at' o := by
  have hpl : (passAt G at' o).length = o.length := by
    unfold passAt; split
    · simp
    · split
      · exact Zwb _ _ _ _
      · rfl
  apply List.ext_getElem?
  intro i
  rcases Nat.lt_or_ge i o.length with hi | hi
  · rw [Zmz b l _ i (by rw [hpl]; exact hi)]
    have hst := ZCr hb hl (i := i) (by omega)
    have hox : o[i]? = some o[i] := List.getElem?_eq_getElem hi
    have hax : List.getD o at' (0, 0) = o[at'] := by simp [List.getD, List.getElem?_eq_getElem ha]
    by_cases hk : List.getD (kindsB b l) i 0 = 1
    · rw [if_pos (hst.1 hk), ← hs i hi hk]
      unfold stepAt turnAt
      split
      · rw [ZaT, hox, Option.map_some, if_neg (fun hc => hc.2 (by rw [Nat.zero_add]; exact hk))]
      · rfl
    · rw [if_neg (fun h => hk (hst.2 h))]
      unfold stepAt turnAt passAt turning
      rw [hax]
      by_cases h3 : (o[at']).1 = 3
      · simp only [h3, true_or, decide_true, if_true]
        rw [ZaT, hox, Option.map_some, Nat.zero_add]
        by_cases hia : at' = i
        · subst hia
          rw [List.getElem?_set_self hi, if_pos ⟨.inl rfl, hk⟩]
        · have hno : ¬ ((i = at' ∨ ((3 : Int) = 6 ∧ (o[i]).1 = 6 ∧ List.getD G i 0 = List.getD G at' 0)) ∧ List.getD (kindsB b l) i 0 ≠ 1) := by
            rintro ⟨h | ⟨h, _⟩, _⟩
            · exact hia h.symm
            · omega
          rw [List.getElem?_set_ne hia, hox, if_neg hno]
      · by_cases h6 : (o[at']).1 = 6
        · have h36 : ¬ (6 : Int) = 3 := by omega
          simp only [h6, h36, or_true, decide_true, if_true, if_false]
          rw [ZaT, Zy4, hox, Option.map_some, Option.map_some, Nat.zero_add]
          congr 1
          by_cases hc : (o[i]).1 = 6 ∧ List.getD G i 0 = List.getD G at' 0
          · rw [if_pos hc, if_pos ⟨.inr ⟨rfl, hc⟩, hk⟩]
          · rw [if_neg hc, if_neg (by
              rintro ⟨h | ⟨_, h⟩, _⟩
              · subst h; exact hc ⟨h6, rfl⟩
              · exact hc h)]
        · simp only [h3, h6, or_self, decide_false, Bool.false_eq_true, if_false]
  · rw [List.getElem?_eq_none (by rw [Zk7, hpl]; exact hi), List.getElem?_eq_none ?_]
    unfold stepAt turnAt
    split
    · rw [Zmv]; exact hi
    · exact hi
end Go.Proofs.Ytpeflcbadgfebaa.Vs

set_option linter.unusedVariables false
set_option linter.unusedSimpArgs false
namespace Go.Proofs.Ytpeflcbadgfebaa.Vs
open Go.RowKit
abbrev FallD := Int × Int × Int
def goesOf (x : CellD) (side : Int) : Int := if x.1 = 1 then -1 else if x.1 = 2 then 1 else if x.1 = 3 then 2 * x.2 - 1 else if x.1 = 6 then 2 * x.2 - 1 else if x.1 = 4 then 0 - side else 0
theorem Zya {x : CellD} (hx : cellOK x = true) {side : Int} (h1 : -1 ≤ side) (h2 : side ≤ 1) : -1 ≤ goesOf x side ∧ goesOf x side ≤ 1 := by
 obtain ⟨c1, c2, c3⟩ := ZeB hx
 unfold goesOf
 repeat' split
 all_goals omega
theorem Zyk (x : CellD) (side : Int) (hx : cellOK x = true) (h1 : -1 ≤ side) (h2 : side ≤ 1) : Ev (fun k => Zcx k x side) (if x.1 = 5 then (0, false) else (goesOf x side, true)) := by
 obtain ⟨c1, c2, c3⟩ := ZeB hx
 have n1 : ¬ side < -1 := by omega
 have n2 : ¬ side > 1 := by omega
 refine Ev.succ ?_
 simp only [Zcx]
 refine Ev.bind (Zg1 x) ?_
 simp only [hx, Bool.not_true, Bool.false_eq_true, if_false, n1, n2, decide_false]
 rw [w64 (n := 2 * x.2) (by omega) (by omega), w64 (n := 2 * x.2 - 1) (by omega) (by omega), w64 (n := 0 - side) (by omega) (by omega)]
 refine Ev.of ?_
 unfold goesOf
 by_cases a5 : x.1 = 5
 ·simp [a5]
 ·by_cases a1 : x.1 = 1 <;> by_cases a2 : x.1 = 2 <;> by_cases a3 : x.1 = 3 <;> by_cases a6 : x.1 = 6 <;> by_cases a4 : x.1 = 4 <;> simp [a1, a2, a3, a4, a5, a6]
theorem Zz1 (x : CellD) (side : Int) (hx : cellOK x = true) (h1 : -1 ≤ side) (h2 : side ≤ 1) : Ev (fun k => Zct k x side) (goesOf x side) := by
 obtain ⟨c1, c2, c3⟩ := ZeB hx
 refine Ev.succ ?_
 simp only [Zct]
 rw [w64 (n := 2 * x.2) (by omega) (by omega), w64 (n := 2 * x.2 - 1) (by omega) (by omega), w64 (n := 0 - side) (by omega) (by omega)]
 refine Ev.of ?_
 unfold goesOf
 by_cases a1 : x.1 = 1 <;> by_cases a2 : x.1 = 2 <;> by_cases a3 : x.1 = 3 <;> by_cases a6 : x.1 = 6 <;> by_cases a4 : x.1 = 4 <;> simp [a1, a2, a3, a4, a6]
theorem ZCN {x : CellD} (hx : cellOK x = true) (h : x.1 = 3 ∨ x.1 = 6) : cellOK (flip1 x) = true := by
 obtain ⟨c1, c2, c3⟩ := ZeB hx
 unfold cellOK flip1
 simp only [decide_eq_true_eq]
 omega
theorem ZDh {α : Type} {l : List α} {x : α} (h : x ∈ l) : ∃ i : Nat, l[i]? = some x := List.getElem?_of_mem h
theorem Zbc (G K : List Int) (at' : Nat) (o : List CellD) : (stepAt G K at' o).length = o.length := by
 unfold stepAt turnAt
 split
 ·exact Zmv _ _ _ _ _ _
 ·rfl
theorem Zr7 (G K : List Int) {at' : Nat} {o : List CellD} (hx : ∀ x ∈ o, cellOK x = true) : ∀ x ∈ stepAt G K at' o, cellOK x = true := by
 unfold stepAt turnAt
 split
 ·rename_i ht
  unfold turning at ht
  simp only [decide_eq_true_eq] at ht
  intro y hy
  obtain ⟨i, hi⟩ := ZDh hy
  rw [ZaT] at hi
  obtain ⟨x, h1, h2⟩ := Option.map_eq_some_iff.1 hi
  have hxo := hx x (List.mem_of_getElem? h1)
  split at h2
  ·rename_i hc
   rw [← h2]
   refine ZCN hxo ?_
   rcases hc.1 with h | ⟨_, h, _⟩
   ·rw [Nat.zero_add] at h
    subst h
    simpa [List.getD, h1] using ht
   ·exact .inr h
  ·rw [← h2]; exact hxo
 ·exact hx
theorem ZzQ (G K : List Int) {at' i : Nat} {o : List CellD} (hk : List.getD K i 0 = 1) : (stepAt G K at' o)[i]? = o[i]? := by
 unfold stepAt turnAt
 split
 ·rw [ZaT, Nat.zero_add]
  cases h : o[i]? with
  | none => rfl
  | some x => rw [Option.map_some, if_neg (fun hc => hc.2 hk)]
 ·rfl
def fallL (b : BoardD) (G K : List Int) : Nat → Int → Int → Int → List CellD → LR (Int × List CellD) (FallD × List CellD)
 | 0, _, col, _, o => .go (col, o)
 | n + 1, row, col, side, o =>
  let at' := (row * b.2.1 + col).toNat
  let x := List.getD o at' (0, 0)
  if List.getD K at' 0 = 2 then .ret ((3, row, col), o)
  else if x.1 = 5 then .ret ((2, row, col), o)
  else
   let g := if List.getD K at' 0 = 3 then 0 - goesOf x side else goesOf x side
   if 0 ≤ col + g ∧ col + g < b.2.1 then fallL b G K n (row + 1) (col + g) (0 - g) (stepAt G K at' o) else .ret ((3, row, col + g), stepAt G K at' o)
def LR.map2 {Z R Z' R' : Type} (f : Z → Z') (g : R → R') : LR Z R → LR Z' R'
 | .go z => .go (f z) | .ret r => .ret (g r)
theorem Zev (b : BoardD) (hb : boardOK b = true) (G K : List Int) (hG : G.length = b.2.2.length) (hK : K.length = b.2.2.length) (c0 c1 c2 : Int) : ∀ (n : Nat) (row col side : Int) (o : List CellD), row + n = b.1 → 0 ≤ row → 0 ≤ col → col < b.2.1 → -1 ≤ side → side ≤ 1 → o.length = b.2.2.length → (∀ x ∈ o, cellOK x = true) →
    Ev (fun k => Zk k o b.1 b.2.1 c0 c1 c2 G K col side row) ((fallL b G K n row col side o).map2 (fun z => (z.2, b.1, b.2.1, c0, c1, c2, z.1)) id)
  | 0, row, col, side, o, hn, hr, hc, hc2, hs, hs2, ho, hx => by
    refine Ev.succ ?_
    have : ¬ row < b.1 := by omega
    simp only [Zk, this, decide_false, Bool.false_eq_true, if_false, fallL, LR.map2]
    exact Ev.some _
  | n + 1, row, col, side, o, hn, hr, hc, hc2, hs, hs2, ho, hx => by
    obtain ⟨g1, g2, g3, g4, g5, g6⟩ := ZL hb
    have hpp := Zw g1 g2 g3 g4
    have hrow : row < b.1 := by omega
    have hp := Z9s hb hr hrow hc hc2
    have hoI : row * b.2.1 + col < (o.length : Int) := by omega
    have hKI : row * b.2.1 + col < (K.length : Int) := by omega
    have hcast : ((row * b.2.1 + col).toNat : Int) = row * b.2.1 + col := Int.toNat_of_nonneg hp.1
    refine Ev.succ ?_
    simp only [Zk, fallL]
    rw [w64 (n := row * b.2.1) (by omega) (by omega), w64 (n := row * b.2.1 + col) (by omega) (by omega), w64 (n := row + 1) (by omega) (by omega)]
    simp only [hrow, hp.1, hKI, hoI, decide_true, if_true]
    have hxo := hx _ (Zxr hp.1 hoI (0, 0))
    have hgo := Zya hxo hs hs2
    have ht := Zhg (List.getD o (row * b.2.1 + col).toNat (0, 0))
    rw [hxo, Bool.true_and] at ht
    have hturn := Zsc b.1 b.2.1 o G K (row * b.2.1 + col).toNat (by omega) (by omega) (by omega) (by omega) hx
    rw [hcast] at hturn
    generalize hX : List.getD o (row * b.2.1 + col).toNat (0, 0) = X at *
    refine Ev.ite (fun h => ?_) (fun h => ?_)
    · simp only [decide_eq_true_eq] at h
      rw [if_pos h]
      exact Ev.some _
    simp only [decide_eq_true_eq] at h
    rw [if_neg h]
    refine Ev.bind (Zyk X side hxo hs hs2) ?_
    by_cases h5 : X.1 = 5
    · simp only [h5, if_true, Bool.not_false]
      exact Ev.some _
    simp only [h5, if_false, Bool.not_true, Bool.false_eq_true]
    have tail : ∀ g : Int, -1 ≤ g → g ≤ 1 → Ev (fun k => Option.bind (Z1s k X) fun z => if z = true then Option.bind (Z4e k (b.1, b.2.1, o) G K (row * b.2.1 + col)) fun z2 => if decide (wrap64 (col + g) < 0) = true then some (LR.ret ((3, row, wrap64 (col + g)), z2)) else if decide (wrap64 (col + g) ≥ b.2.1) = true then some (LR.ret ((3, row, wrap64 (col + g)), z2)) else Zk k z2 b.1 b.2.1 c0 c1 c2 G K (wrap64 (col + g)) (wrap64 (0 - g)) (row + 1)
        else if decide (wrap64 (col + g) < 0) = true then some (LR.ret ((3, row, wrap64 (col + g)), o)) else if decide (wrap64 (col + g) ≥ b.2.1) = true then some (LR.ret ((3, row, wrap64 (col + g)), o)) else Zk k o b.1 b.2.1 c0 c1 c2 G K (wrap64 (col + g)) (wrap64 (0 - g)) (row + 1))
        (LR.map2 (fun z => (z.2, b.1, b.2.1, c0, c1, c2, z.1)) id (if 0 ≤ col + g ∧ col + g < b.2.1 then fallL b G K n (row + 1) (col + g) (0 - g) (stepAt G K (row * b.2.1 + col).toNat o) else .ret ((3, row, col + g), stepAt G K (row * b.2.1 + col).toNat o))) := by
      intro g hg hg2
      rw [w64 (n := col + g) (by omega) (by omega), w64 (n := 0 - g) (by omega) (by omega)]
      have last : ∀ o' : List CellD, o' = stepAt G K (row * b.2.1 + col).toNat o → Ev (fun k => if decide (col + g < 0) = true then some (LR.ret ((3, row, col + g), o')) else if decide (col + g ≥ b.2.1) = true then some (LR.ret ((3, row, col + g), o')) else Zk k o' b.1 b.2.1 c0 c1 c2 G K (col + g) (0 - g) (row + 1))
          (LR.map2 (fun z => (z.2, b.1, b.2.1, c0, c1, c2, z.1)) id (if 0 ≤ col + g ∧ col + g < b.2.1 then fallL b G K n (row + 1) (col + g) (0 - g) (stepAt G K (row * b.2.1 + col).toNat o) else .ret ((3, row, col + g), stepAt G K (row * b.2.1 + col).toNat o))) := by
        intro o' ho'
        refine Ev.ite (fun q => ?_) (fun q => Ev.ite (fun q2 => ?_) (fun q2 => ?_))
        · simp only [decide_eq_true_eq] at q
          rw [if_neg (by omega), ho']
          exact Ev.some _
        · simp only [decide_eq_true_eq] at q2
          rw [if_neg (by omega), ho']
          exact Ev.some _
        · simp only [decide_eq_true_eq] at q q2
          rw [if_pos (by omega), ho']
          exact Zev b hb G K hG hK c0 c1 c2 n (row + 1) (col + g) (0 - g) _ (by omega) (by omega) (by omega) (by omega) (by omega) (by omega) (by rw [Zbc]; exact ho) (Zr7 G K hx)
      refine Ev.bind ht ?_
      have hstep : stepAt G K (row * b.2.1 + col).toNat o = if turning X then turnAt G K (row * b.2.1 + col).toNat o else o := by unfold stepAt; rw [hX]
      cases htx : turning X with
      | true =>
        simp only [if_true]
        exact Ev.bind hturn (last _ (by rw [hstep, htx]; rfl))
      | false =>
        simp only [Bool.false_eq_true, if_false]
        exact last _ (by rw [hstep, htx]; rfl)
    refine Ev.ite (fun h3 => ?_) (fun h3 => ?_)
    · simp only [decide_eq_true_eq] at h3
      simp only [h3, if_true]
      rw [w64 (n := 0 - goesOf X side) (by omega) (by omega)]
      exact tail _ (by omega) (by omega)
    · simp only [decide_eq_true_eq] at h3
      simp only [h3, if_false]
      exact tail _ hgo.1 hgo.2
def fallEnd (b : BoardD) (z : LR (Int × List CellD) (FallD × List CellD)) : FallD × List CellD := match z with
 | .go z => ((1, b.1, z.1), z.2)
 | .ret r => r
def fallOf (b : BoardD) (G K : List Int) (col : Int) (o : List CellD) : FallD × List CellD := fallEnd b (fallL b G K b.1.toNat 0 col 0 o)
theorem ZsV (b : BoardD) (hb : boardOK b = true) (G K : List Int) (hG : G.length = b.2.2.length) (hK : K.length = b.2.2.length) (col : Int) (hc : 0 ≤ col) (hc2 : col < b.2.1) (o : List CellD) (ho : o.length = b.2.2.length) (hx : ∀ x ∈ o, cellOK x = true) : Ev (fun k => Z8q k (b.1, b.2.1, o) G K col) (fallOf b G K col o) := by
 obtain ⟨g1, g2, g3, g4, g5, g6⟩ := ZL hb
 refine Ev.succ ?_
 simp only [Z8q]
 refine Ev.bind (Zev b hb G K hG hK 0 0 0 b.1.toNat 0 col 0 o (by omega) (by omega) hc hc2 (by omega) (by omega) ho hx) ?_
 unfold fallOf
 cases fallL b G K b.1.toNat 0 col 0 o with
 | go z => exact Ev.go (Ev.some _)
 | ret r => exact Ev.ret (Ev.some _)
theorem Zo9 (b : BoardD) (hb : boardOK b = true) (d1 d2 d3 d4 d5 : Int) (o4 : List CellD) (e1 e2 : Int) (v1 : List Int) (v2 : List FaultD) (v3 v12 v15 : Int) : ∀ (r pre : List FaultD) (o : List CellD), (∀ f ∈ r, 0 ≤ f.2.1 ∧ f.2.1 < b.1 ∧ 0 ≤ f.2.2 ∧ f.2.2 < b.2.1) → (pre ++ r).length ≤ 9223372036854775806 → o.length = b.2.2.length →
    Ev (fun k => Z6o k b.1 b.2.1 b.2.2 d1 d2 d3 d4 d5 o4 e1 e2 o v1 v2 v3 v12 v15 (pre ++ r) ((pre ++ r).length : Int) (pre.length : Int)) (b.1, b.2.1, b.2.2, d1, d2, d3, d4, d5, o4, e1, e2, restore b r o, v1, v2, v3, v12, v15)
  | [], pre, o, hr, hl, ho => by
    refine Ev.succ ?_
    simp only [Z6o, Z7, decide_false, Bool.false_eq_true, if_false]
    exact Ev.some _
  | f :: r, pre, o, hr, hl, ho => by
    obtain ⟨k1, k2, k3, k4⟩ := hr f (List.mem_cons_self ..)
    have hp := Z9s hb k1 k2 k3 k4
    have hpo : f.2.1 * b.2.1 + f.2.2 < (o.length : Int) := by omega
    have hr' : ∀ g ∈ r, 0 ≤ g.2.1 ∧ g.2.1 < b.1 ∧ 0 ≤ g.2.2 ∧ g.2.2 < b.2.1 := fun g hg => hr g (List.mem_cons_of_mem _ hg)
    have ih := fun (o' : List CellD) (ho' : o'.length = b.2.2.length) => Zo9 b hb d1 d2 d3 d4 d5 o4 e1 e2 v1 v2 v3 v12 v15 r (pre ++ [f]) o' hr' (by simpa using hl) ho'
    simp only [← Z0] at ih
    have hrest : restore b (f :: r) o = restore b r (if f.1 = 1 then List.set o (placeOf b f).toNat (List.getD b.2.2 (placeOf b f).toNat (0, 0)) else o) := rfl
    rw [hrest]
    refine Ev.succ ?_
    simp only [Z6o, Z5, Za, decide_true, if_true, Int.toNat_natCast, Z4]
    rw [Z6 pre f r (by omega), w64 (n := f.2.1 * b.2.1) (by omega) (by omega), w64 (n := f.2.1 * b.2.1 + f.2.2) (by omega) (by omega)]
    simp only [hp.1, hp.2.1, hpo, if_true]
    refine Ev.ite (fun h => ?_) (fun h => ?_)
    · simp only [decide_eq_true_eq] at h
      rw [if_pos h]
      exact ih _ (by rw [List.length_set]; exact ho)
    · simp only [decide_eq_true_eq] at h
      rw [if_neg h]
      exact ih _ ho
theorem Zr2 (b : BoardD) (h : b.2.2.length ≤ 1000000) : Ev (fun k => Z73 k b) b := by
 refine Ev.succ ?_
 simp only [Z73, Z61]
 have : 0 + b.2.2.length ≤ 140737488355328 / 16 := by omega
 simp only [this, if_true]
 exact Ev.some _
theorem Zu7 (b : BoardD) (h : b.2.2.length ≤ 1000000) : Ev (fun k => Z9p k b) b := by
 refine Ev.succ ?_
 simp only [Z9p, Z33]
 have : 0 + b.2.2.length ≤ 140737488355328 / 16 := by omega
 simp only [this, if_true]
 exact Ev.some _
theorem ZwP (b : BoardD) (hb : boardOK b = true) (o : List CellD) (ho : o.length = b.2.2.length) {r c : Int} (h1 : 0 ≤ r) (h2 : r < b.1) (h3 : 0 ≤ c) (h4 : c < b.2.1) : Ev (fun k => Zf8 k (b.1, b.2.1, o) r c) (List.getD o (r * b.2.1 + c).toNat (0, 0)) := by
 have hp := Z9s hb h1 h2 h3 h4
 have hpo : r * b.2.1 + c < (o.length : Int) := by omega
 refine Ev.succ ?_
 simp only [Zf8]
 rw [w64 (n := r * b.2.1) (by omega) (by omega), w64 (n := r * b.2.1 + c) (by omega) (by omega)]
 simp only [hp.1, hpo, if_true]
 exact Ev.some _
theorem Zob (b : BoardD) (hb : boardOK b = true) (G : List Int) (hG : G.length = b.2.2.length) (l : List FaultD) (hl : faultsOK b (-1) l = true) (hll : l.length ≤ 9223372036854775806) (d1 d2 d3 d4 d5 : Int) (o4 : List CellD) : ∀ (n : Nat) (row col side : Int) (o : List CellD), row + n = b.1 → 0 ≤ row → 0 ≤ col → col < b.2.1 → -1 ≤ side → side ≤ 1 → o.length = b.2.2.length → (∀ x ∈ o, cellOK x = true) → (∀ i, i < o.length → List.getD (kindsB b l) i 0 = 1 → o[i]? = some (List.getD b.2.2 i (0, 0))) →
    Ev (fun k => Z7C k b.1 b.2.1 b.2.2 d1 d2 d3 d4 d5 o4 b.1 b.2.1 o G l col side row) ((fallL b G (kindsB b l) n row col side o).map2 (fun z => (b.1, b.2.1, b.2.2, d1, d2, d3, d4, d5, o4, b.1, b.2.1, z.2, z.1)) (fun r => (r.1, b.1, b.2.1, r.2)))
  | 0, row, col, side, o, hn, hr, hc, hc2, hs, hs2, ho, hx, hst => by
    refine Ev.succ ?_
    have : ¬ row < b.1 := by omega
    simp only [Z7C, this, decide_false, Bool.false_eq_true, if_false, fallL, LR.map2]
    exact Ev.some _
  | n + 1, row, col, side, o, hn, hr, hc, hc2, hs, hs2, ho, hx, hst => by
    obtain ⟨g1, g2, g3, g4, g5, g6⟩ := ZL hb
    have hpp := Zw g1 g2 g3 g4
    have hrow : row < b.1 := by omega
    have hp := Z9s hb hr hrow hc hc2
    have hoI : row * b.2.1 + col < (o.length : Int) := by omega
    have hcast : ((row * b.2.1 + col).toNat : Int) = row * b.2.1 + col := Int.toNat_of_nonneg hp.1
    have hK : List.getD (kindsB b l) (row * b.2.1 + col).toNat 0 = faAtD row col 0 l := by
      unfold kindsB
      rw [ZmT hb hr hrow hc hc2 hl (by simp)]
      congr 1
      simp only [List.getD, List.getElem?_replicate]
      split <;> rfl
    have hxo := hx _ (Zxr hp.1 hoI (0, 0))
    have hgo := Zya hxo hs hs2
    have hpass := Zzw b.1 b.2.1 o G (row * b.2.1 + col).toNat (by omega) (by omega) (by omega) hx
    rw [hcast] at hpass
    have hres := ZAm hb hl G ho (at' := (row * b.2.1 + col).toNat) (by omega) hst
    have hpl : (passAt G (row * b.2.1 + col).toNat o).length = b.2.2.length := by
      have := congrArg List.length hres
      rw [Zk7, Zbc] at this
      omega
    refine Ev.succ ?_
    simp only [Z7C, fallL]
    simp only [hrow, decide_true, if_true]
    refine Ev.bind (ZwP b hb o ho hr hrow hc hc2) ?_
    generalize hX : List.getD o (row * b.2.1 + col).toNat (0, 0) = X at *
    refine Ev.bind (ZBh l row col hll) ?_
    rw [hK]
    refine Ev.ite (fun h => ?_) (fun h => ?_)
    · simp only [decide_eq_true_eq] at h
      rw [if_pos h]
      simp only [Z6Q]
      exact Ev.bind (Ev.some _) (Ev.some _)
    simp only [decide_eq_true_eq] at h
    rw [if_neg h]
    refine Ev.ite (fun h5 => ?_) (fun h5 => ?_)
    · simp only [decide_eq_true_eq] at h5
      rw [if_pos h5]
      simp only [Z6b]
      exact Ev.bind (Ev.some _) (Ev.some _)
    simp only [decide_eq_true_eq] at h5
    rw [if_neg h5]
    refine Ev.bind (Zz1 X side hxo hs hs2) ?_
    have hg : -1 ≤ (if faAtD row col 0 l = 3 then 0 - goesOf X side else goesOf X side) ∧ (if faAtD row col 0 l = 3 then 0 - goesOf X side else goesOf X side) ≤ 1 := by split <;> omega
    have hj : Ev (fun k => Zal k b.1 b.2.1 b.2.2 d1 d2 d3 d4 d5 o4 b.1 b.2.1 o G l col row (goesOf X side) (decide (faAtD row col 0 l = 3))) (b.1, b.2.1, b.2.2, d1, d2, d3, d4, d5, o4, b.1, b.2.1, o, G, l, col, row, if faAtD row col 0 l = 3 then 0 - goesOf X side else goesOf X side) := by
      simp only [Zal]
      rw [w64 (n := 0 - goesOf X side) (by omega) (by omega)]
      refine Ev.of ?_
      by_cases h3 : faAtD row col 0 l = 3 <;> simp [h3]
    refine Ev.bind hj ?_
    generalize (if faAtD row col 0 l = 3 then 0 - goesOf X side else goesOf X side) = g at *
    dsimp only
    rw [w64 (n := row * b.2.1) (by omega) (by omega), w64 (n := row * b.2.1 + col) (by omega) (by omega)]
    refine Ev.bind hpass ?_
    refine Ev.bind (Zo9 b hb d1 d2 d3 d4 d5 o4 b.1 b.2.1 G l col row g l [] _ (Zjw hl) (by simpa using hll) hpl) ?_
    rw [hres]
    dsimp only
    rw [w64 (n := col + g) (by omega) (by omega), w64 (n := b.2.1 - 1) (by omega) (by omega), w64 (n := 0 - g) (by omega) (by omega), w64 (n := row + 1) (by omega) (by omega)]
    refine Ev.bind (Zc8 _ _ _) (Ev.ite (fun q => ?_) (fun q => ?_))
    · have q : ¬ (0 ≤ col + g ∧ col + g ≤ b.2.1 - 1) := nd q
      rw [if_neg (by omega)]
      simp only [Z5V]
      exact Ev.bind (Ev.some _) (Ev.some _)
    · have q : 0 ≤ col + g ∧ col + g ≤ b.2.1 - 1 := yd q
      rw [if_pos (by omega)]
      refine Zob b hb G hG l hl hll d1 d2 d3 d4 d5 o4 n (row + 1) (col + g) (0 - g) _ (by omega) (by omega) (by omega) (by omega) (by omega) (by omega) (by rw [Zbc]; exact ho) (Zr7 G _ hx) (fun i hi hk => ?_)
      rw [ZzQ G _ hk]
      rw [Zbc] at hi
      exact hst i hi hk
theorem ZB6 (b : BoardD) (hb : boardOK b = true) (G : List Int) (hG : G.length = b.2.2.length) (l : List FaultD) (hl : faultsOK b (-1) l = true) (hll : l.length ≤ 9223372036854775806) (col : Int) (hc : 0 ≤ col) (hc2 : col < b.2.1) : Ev (fun k => Zf7 k b G l col) ((fallOf b G (kindsB b l) col b.2.2).1, b.1, b.2.1, (fallOf b G (kindsB b l) col b.2.2).2) := by
 obtain ⟨g1, g2, g3, g4, g5, g6⟩ := ZL hb
 have hpp := Zw g1 g2 g3 g4
 refine Ev.succ ?_
 simp only [Zf7]
 refine Ev.bind (Zr2 b (by omega)) ?_
 refine Ev.bind (Zob b hb G hG l hl hll 0 0 0 0 0 [] b.1.toNat 0 col 0 b.2.2 (by omega) (by omega) hc hc2 (by omega) (by omega) rfl g6 (fun i hi _ => by simp [List.getD, List.getElem?_eq_getElem hi])) ?_
 unfold fallOf
 cases fallL b G (kindsB b l) b.1.toNat 0 col 0 b.2.2 with
 | go z =>
  refine Ev.go ?_
  simp only [Z5Y]
  exact Ev.bind (Ev.some _) (Ev.some _)
 | ret r => exact Ev.ret (Ev.some _)
end Go.Proofs.Ytpeflcbadgfebaa.Vs

set_option linter.unusedVariables false
set_option linter.unusedSimpArgs false
namespace Go.Proofs.Ytpeflcbadgfebaa.Vs
open Go.RowKit
def marksCellS : List (Int × Int) → Int → List (Int × Int)
 | [], _ => []
 | _ :: r, k => (k, k + 1) :: marksCellS r (k + 2)
theorem Zfs : ∀ (r pre : List (Int × Int)) (c : Int), 0 ≤ c → c + 2 * r.length ≤ 4611686018427387904 → (pre ++ r).length ≤ 4611686018427387904 → Ev (fun k => Z3A k (pre ++ r) c (pre.length : Int)) (pre ++ marksCellS r c, c + 2 * r.length)
 | [], pre, c, hc, h, hl => by
  refine Ev.succ ?_
  simp only [Z3A, Z7, decide_false, Bool.false_eq_true, if_false, marksCellS, List.length_nil, Int.natCast_zero, Int.mul_zero, Int.add_zero]
  exact Ev.some _
 | x :: r, pre, c, hc, h, hl => by
  have h' : (c + 2) + 2 * (r.length : Int) = c + 2 * ((x :: r).length : Int) := by simp only [List.length_cons]; omega
  have ih := Zfs r (pre ++ [(c, c + 1)]) (c + 2) (by omega) (by omega) (by simpa using hl)
  have hn := Z6 pre x r (by omega)
  have hn2 : ((pre ++ [x]).length : Int) = ((pre ++ [(c, c + 1)]).length : Int) := by simp
  refine Ev.succ ?_
  simp only [Z3A, Z5, Za, decide_true, if_true, Int.toNat_natCast, Z4, Z8Q, hn]
  simp only [List.length_cons] at h
  rw [w64 (n := c + 1) (by omega) (by omega), w64 (n := c + 1 + 1) (by omega) (by omega)]
  rw [← Z0, h'] at ih
  rw [hn2]
  refine Ev.congr (f := _) (by simpa [Int.add_assoc] using ih) ?_
  simp [marksCellS]
theorem Ztv (l : List (Int × Int)) (c : Int) (hc : 0 ≤ c) (h : c + 2 * l.length ≤ 4611686018427387904) : Ev (fun k => ZcM k l c) (c + 2 * l.length, marksCellS l c) :=
 Ev.succ (Ev.bind (Zfs l [] c hc h (by simp; omega)) (Ev.some _))
def marksIntS : List Int → Int → List Int
 | [], _ => []
 | _ :: r, k => k :: marksIntS r (k + 1)
theorem ZnX : ∀ (l : List Int) (k : Int), (marksIntS l k).length = l.length
 | [], _ => rfl
 | _ :: r, k => by simp [marksIntS, ZnX r]
theorem ZgC : ∀ (r pre : List Int) (c : Int), 0 ≤ c → c + 1 * r.length ≤ 4611686018427387904 → (pre ++ r).length ≤ 4611686018427387904 → Ev (fun k => Z4b k (pre ++ r) c (pre.length : Int)) (pre ++ marksIntS r c, c + 1 * r.length)
 | [], pre, c, hc, h, hl => by
  refine Ev.succ ?_
  simp only [Z4b, Z7, decide_false, Bool.false_eq_true, if_false, marksIntS, List.length_nil, Int.natCast_zero, Int.mul_zero, Int.add_zero]
  exact Ev.some _
 | x :: r, pre, c, hc, h, hl => by
  have h' : (c + 1) + 1 * (r.length : Int) = c + 1 * ((x :: r).length : Int) := by simp only [List.length_cons]; omega
  have ih := ZgC r (pre ++ [c]) (c + 1) (by omega) (by omega) (by simpa using hl)
  have hn := Z6 pre x r (by omega)
  have hn2 : ((pre ++ [x]).length : Int) = ((pre ++ [c]).length : Int) := by simp
  refine Ev.succ ?_
  simp only [Z4b, Z5, Za, decide_true, if_true, Int.toNat_natCast, Z4, Z8Q, hn]
  simp only [List.length_cons] at h
  rw [w64 (n := c + 1) (by omega) (by omega)]
  rw [← Z0, h'] at ih
  rw [hn2]
  refine Ev.congr (f := _) (by simpa [Int.add_assoc] using ih) ?_
  simp [marksIntS]
theorem ZdP (l : List Int) (c : Int) (hc : 0 ≤ c) (h : c + 1 * l.length ≤ 4611686018427387904) : Ev (fun k => Z7Y k l c) (c + 1 * l.length, marksIntS l c) :=
 Ev.succ (Ev.bind (ZgC l [] c hc h (by simp; omega)) (Ev.some _))
theorem Zgl : ∀ (r pre : List Int) (c : Int), 0 ≤ c → c + 1 * r.length ≤ 4611686018427387904 → (pre ++ marksIntS r c).length ≤ 4611686018427387904 → Ev (fun k => Z4q k (pre ++ marksIntS r c) c (pre.length : Int)) (LR.go (c + 1 * r.length))
 | [], pre, c, hc, h, hl => by
  refine Ev.succ ?_
  simp only [Z4q, marksIntS, Z7, decide_false, Bool.false_eq_true, if_false, List.length_nil, Int.natCast_zero, Int.mul_zero, Int.add_zero]
  exact Ev.some _
 | x :: r, pre, c, hc, h, hl => by
  have h' : (c + 1) + 1 * (r.length : Int) = c + 1 * ((x :: r).length : Int) := by simp only [List.length_cons]; omega
  simp only [marksIntS] at hl ⊢
  have ih := Zgl r (pre ++ [c]) (c + 1) (by omega) (by omega) (by simpa using hl)
  have hn := Z6 pre c (marksIntS r (c + 1)) (by omega)
  refine Ev.succ ?_
  simp only [Z4q, Z5, Za, decide_true, if_true, Int.toNat_natCast, Z4, hn]
  simp only [List.length_cons] at h
  rw [w64 (n := c + 1) (by omega) (by omega)]
  rw [← Z0, h'] at ih
  simpa [Int.add_assoc] using ih
theorem Zan (l : List Int) (c : Int) (hc : 0 ≤ c) (h : c + 1 * l.length ≤ 4611686018427387904) : Ev (fun k => Z60 k (marksIntS l c) c) (c + 1 * l.length) := by
 refine Ev.succ (Ev.bind (Zgl l [] c hc h (by rw [List.nil_append, ZnX]; omega)) ?_)
 exact Ev.go (Ev.some _)
theorem Ziq (b : BoardD) (c : Int) (hc : 0 ≤ c) (h : c + 2 * b.2.2.length ≤ 4611686018427387904) : Ev (fun k => Z7e k b c) (c + 2 * b.2.2.length, marksCellS b.2.2 c) := by
 refine Ev.succ ?_
 simp only [Z7e]
 exact Ev.bind (Ztv _ c hc h) (Ev.some _)
end Go.Proofs.Ytpeflcbadgfebaa.Vs

set_option linter.unusedVariables false
set_option linter.unusedSimpArgs false
namespace Go.Proofs.Ytpeflcbadgfebaa.Vs
open Go.RowKit
theorem ZpF (b : BoardD) (G K : List Int) : ∀ (n : Nat) (row col side : Int) (o : List CellD), (fallEnd b (fallL b G K n row col side o)).2.length = o.length
 | 0, _, _, _, _ => rfl
 | n + 1, row, col, side, o => by
  unfold fallL
  dsimp only
  repeat' split
  all_goals first | rfl | (rw [ZpF]; exact Zbc _ _ _ _) | exact Zbc _ _ _ _
end Go.Proofs.Ytpeflcbadgfebaa.Vs

set_option linter.unusedVariables false
set_option linter.unusedSimpArgs false
namespace Go.Proofs.Ytpeflcbadgfebaa.Vs
open Go.RowKit
theorem ZzR (G K : List Int) (at' : Nat) (o : List CellD) : (stepAt G K at' o).map Prod.fst = o.map Prod.fst := by
 unfold stepAt turnAt
 split
 ·apply List.ext_getElem?
  intro i
  simp only [List.getElem?_map, ZaT]
  cases o[i]? with
  | none => rfl
  | some x =>
   simp only [Option.map_some]
   split <;> simp [flip1]
 ·rfl
theorem Zk2 (b : BoardD) (G K : List Int) : ∀ (n : Nat) (row col side : Int) (o : List CellD), (∀ x ∈ o, cellOK x = true) → (∀ x ∈ (fallEnd b (fallL b G K n row col side o)).2, cellOK x = true) ∧ (fallEnd b (fallL b G K n row col side o)).2.map Prod.fst = o.map Prod.fst
 | 0, _, _, _, o, hx => ⟨hx, rfl⟩
 | n + 1, row, col, side, o, hx => by
  have h1 := Zk2 b G K n (row + 1)
  unfold fallL
  dsimp only
  have h2 := Zr7 G K (at' := (row * b.2.1 + col).toNat) hx
  have h3 := ZzR G K (row * b.2.1 + col).toNat o
  repeat' split
  all_goals first | exact ⟨hx, rfl⟩ | exact ⟨h2, h3⟩ | exact ⟨(h1 _ _ _ h2).1, (h1 _ _ _ h2).2.trans h3⟩
theorem Zro (b : BoardD) (G K : List Int) (c : Int) {o : List CellD} (hx : ∀ x ∈ o, cellOK x = true) : ∀ x ∈ (fallOf b G K c o).2, cellOK x = true := (Zk2 b G K _ _ _ _ o hx).1
theorem ZA3 (b : BoardD) (G K : List Int) (c : Int) {o : List CellD} (hx : ∀ x ∈ o, cellOK x = true) : (fallOf b G K c o).2.map Prod.fst = o.map Prod.fst := (Zk2 b G K _ _ _ _ o hx).2
theorem Zvn {b b' : BoardD} (h : b.2.1 = b'.2.1) (G K : List Int) : ∀ (n : Nat) (row col side : Int) (o : List CellD), fallL b G K n row col side o = fallL b' G K n row col side o
 | 0, _, _, _, _ => rfl
 | n + 1, row, col, side, o => by simp only [fallL, h, Zvn h G K n]
theorem ZBl {b b' : BoardD} (h1 : b.1 = b'.1) (h2 : b.2.1 = b'.2.1) (G K : List Int) (c : Int) (o : List CellD) : fallOf b G K c o = fallOf b' G K c o := by
 have : fallEnd b = fallEnd b' := by funext z; cases z <;> simp [fallEnd, h1]
 unfold fallOf
 rw [this, Zvn h2, h1]
theorem ZBu {b b' : BoardD} (h : b.2.1 = b'.2.1) (hl : b.2.2.length = b'.2.2.length) (l : List FaultD) : kindsB b l = kindsB b' l := by simp only [kindsB, kindsOf, placeOf, h, hl]
theorem ZCk {x y : CellD} (h : x.1 = y.1) (k : Int) : fits x k = fits y k := by unfold fits turning; rw [h]
theorem ZCf {o o' : List CellD} (h : o.map Prod.fst = o'.map Prod.fst) (i : Nat) : (List.getD o i (0, 0)).1 = (List.getD o' i (0, 0)).1 := by
 have := congrArg (fun l => l[i]?) h
 simp only [List.getElem?_map] at this
 simp only [List.getD]
 cases h1 : o[i]? <;> cases h2 : o'[i]? <;> simp [h1, h2] at this ⊢
 exact this
theorem ZnT {b b' : BoardD} (h1 : b.1 = b'.1) (h2 : b.2.1 = b'.2.1) (h : b.2.2.map Prod.fst = b'.2.2.map Prod.fst) : ∀ (l : List FaultD) (last : Int), faultsOK b last l = faultsOK b' last l
 | [], _ => rfl
 | x :: r, last => by
  simp only [faultsOK, h1, h2, ZnT h1 h2 h r]
  rw [ZCk (ZCf h _)]
theorem ZCR {b : BoardD} (hb : boardOK b = true) {o : List CellD} (ho : o.length = b.2.2.length) (hx : ∀ x ∈ o, cellOK x = true) : boardOK (b.1, b.2.1, o) = true := by
 obtain ⟨g1, g2, g3, g4, g5, g6⟩ := ZL hb
 unfold boardOK
 have : (o.length : Int) = b.1 * b.2.1 := by omega
 simp only [g1, g2, g3, g4, this, and_self, decide_true, Bool.true_and]
 exact List.all_eq_true.2 hx
def runsOf (b : BoardD) (G K : List Int) : List Int → List CellD → List FallD × List CellD
 | [], o => ([], o)
 | c :: r, o => ((fallOf b G K c o).1 :: (runsOf b G K r (fallOf b G K c o).2).1, (runsOf b G K r (fallOf b G K c o).2).2)
theorem Zv6 (b : BoardD) (G K : List Int) : ∀ (l : List Int) (o : List CellD), (runsOf b G K l o).1.length = l.length
 | [], _ => rfl
 | c :: r, o => by simp [runsOf, Zv6 b G K r]
def colsOK (b : BoardD) (l : List Int) : Prop := ∀ c ∈ l, 0 ≤ c ∧ c < b.2.1
theorem Zld (b : BoardD) (hb : boardOK b = true) (G : List Int) (hG : G.length = b.2.2.length) (l : List FaultD) (hl : faultsOK b (-1) l = true) (hll : l.length ≤ 9223372036854775806) (d1 d2 : Int) (d3 : List CellD) : ∀ (r pre : List Int) (o : List CellD) (w : List FallD), colsOK b r → (pre ++ r).length ≤ 1000 → w.length = pre.length → o.length = b.2.2.length → (∀ x ∈ o, cellOK x = true) → o.map Prod.fst = b.2.2.map Prod.fst →
    Ev (fun k => Z6N k d1 d2 d3 b.1 b.2.1 o G w l (pre ++ r) ((pre ++ r).length : Int) (pre.length : Int)) (d1, d2, d3, b.1, b.2.1, (runsOf b G (kindsB b l) r o).2, w ++ (runsOf b G (kindsB b l) r o).1)
  | [], pre, o, w, hc, hl1, hw, ho, hx, hp => by
    refine Ev.succ ?_
    simp only [Z6N, Z7, decide_false, Bool.false_eq_true, if_false]
    simp only [runsOf, List.append_nil]
    exact Ev.some _
  | c :: r, pre, o, w, hc, hl1, hw, ho, hx, hp => by
    obtain ⟨k1, k2⟩ := hc c (List.mem_cons_self ..)
    have hb' := ZCR hb ho hx
    have hg := ZB6 (b.1, b.2.1, o) hb' G (hG.trans ho.symm) l (by rw [ZnT (b := (b.1, b.2.1, o)) (b' := b) rfl rfl hp]; exact hl) hll c k1 k2
    rw [ZBl (b := (b.1, b.2.1, o)) (b' := b) rfl rfl, ZBu (b := (b.1, b.2.1, o)) (b' := b) rfl ho] at hg
    have hlw : w.length + 1 ≤ 140737488355328 / 24 := by simp at hl1; omega
    refine Ev.succ ?_
    simp only [Z6N, Z5, Za, decide_true, if_true, Int.toNat_natCast, Z4]
    refine Ev.bind hg ?_
    simp only [List.length_singleton, hlw, if_true]
    rw [Z6 pre c r (by omega)]
    have ih := Zld b hb G hG l hl hll d1 d2 d3 r (pre ++ [c]) (fallOf b G (kindsB b l) c o).2 (w ++ [(fallOf b G (kindsB b l) c o).1]) (fun y hy => hc y (List.mem_cons_of_mem _ hy)) (by simpa using hl1) (by simp [hw]) ((ZpF b G _ _ _ _ _ o).trans ho) (Zro _ _ _ _ hx) ((ZA3 _ _ _ _ hx).trans hp)
    rw [← Z0] at ih
    refine ih.congr ?_
    simp [runsOf]
theorem ZAC (b : BoardD) (hb : boardOK b = true) (l : List FaultD) (hl : faultsOK b (-1) l = true) (hll : l.length ≤ 9223372036854775806) (t : List Int) (ht : t.length ≤ 1000) (hc : colsOK b t) : Ev (fun k => ZdS k b l t) ((runsOf b (groupsOf b) (kindsB b l) t b.2.2).1, b.1, b.2.1, (runsOf b (groupsOf b) (kindsB b l) t b.2.2).2) := by
 obtain ⟨g1, g2, g3, g4, g5, g6⟩ := ZL hb
 have hpp := Zw g1 g2 g3 g4
 refine Ev.succ ?_
 simp only [ZdS]
 have h0 : Ev (fun k => Z3W k b.1 b.2.1 b.2.2 0 0 [] l t) (0, 0, [], b.1, b.2.1, b.2.2, groupsOf b, l, t) := by
  simp only [Z3W]
  exact Ev.bind (Zr2 b (by omega)) (Ev.bind (Zvj b hb) (Ev.some _))
 refine Ev.bind h0 ?_
 refine Ev.bind (Zld b hb (groupsOf b) (ZpG b) l hl hll 0 0 [] t [] b.2.2 [] hc (by simpa using ht) rfl rfl g6 rfl) ?_
 exact Ev.some _
theorem Ze6 (b : BoardD) (hb : boardOK b = true) (G K : List Int) (hG : G.length = b.2.2.length) (hK : K.length = b.2.2.length) (d1 d2 : Int) (d3 : List CellD) : ∀ (r pre : List Int) (o : List CellD) (w : List FallD), colsOK b r → (pre ++ r).length ≤ 1000 → w.length = pre.length → o.length = b.2.2.length → (∀ x ∈ o, cellOK x = true) →
    Ev (fun k => Z2E k d1 d2 d3 b.1 b.2.1 o G K w (pre ++ r) ((pre ++ r).length : Int) (pre.length : Int)) (d1, d2, d3, b.1, b.2.1, (runsOf b G K r o).2, w ++ (runsOf b G K r o).1)
  | [], pre, o, w, hc, hl1, hw, ho, hx => by
    refine Ev.succ ?_
    simp only [Z2E, Z7, decide_false, Bool.false_eq_true, if_false]
    simp only [runsOf, List.append_nil]
    exact Ev.some _
  | c :: r, pre, o, w, hc, hl1, hw, ho, hx => by
    obtain ⟨k1, k2⟩ := hc c (List.mem_cons_self ..)
    have hg := ZsV b hb G K hG hK c k1 k2 o ho hx
    have hlw : w.length + 1 ≤ 140737488355328 / 24 := by simp at hl1; omega
    refine Ev.succ ?_
    simp only [Z2E, Z5, Za, decide_true, if_true, Int.toNat_natCast, Z4]
    refine Ev.bind hg ?_
    simp only [List.length_singleton, hlw, if_true]
    rw [Z6 pre c r (by omega)]
    have ih := Ze6 b hb G K hG hK d1 d2 d3 r (pre ++ [c]) (fallOf b G K c o).2 (w ++ [(fallOf b G K c o).1]) (fun y hy => hc y (List.mem_cons_of_mem _ hy)) (by simpa using hl1) (by simp [hw]) ((ZpF b G _ _ _ _ _ o).trans ho) (Zro _ _ _ _ hx)
    rw [← Z0] at ih
    refine ih.congr ?_
    simp [runsOf]
theorem Zq1 (b : BoardD) (hb : boardOK b = true) (l : List FaultD) (hl : faultsOK b (-1) l = true) (hll : l.length ≤ 9223372036854775806) (t : List Int) (ht : t.length ≤ 1000) (hc : colsOK b t) : Ev (fun k => Z7U k b l t) ((runsOf b (groupsOf b) (kindsB b l) t b.2.2).1, b.1, b.2.1, (runsOf b (groupsOf b) (kindsB b l) t b.2.2).2) := by
 obtain ⟨g1, g2, g3, g4, g5, g6⟩ := ZL hb
 have hpp := Zw g1 g2 g3 g4
 refine Ev.succ ?_
 simp only [Z7U]
 refine Ev.bind (Zu7 b (by omega)) (Ev.bind (Zor b hb) (Ev.bind (ZoN b hb l hl hll) ?_))
 refine Ev.bind (Ze6 b hb (groupsOf b) (kindsB b l) (ZpG b) (ZBL b l) 0 0 [] t [] b.2.2 [] hc (by simpa using ht) rfl rfl g6) ?_
 exact Ev.some _
end Go.Proofs.Ytpeflcbadgfebaa.Vs

set_option linter.unusedVariables false
set_option linter.unusedSimpArgs false
namespace Go.Proofs.Ytpeflcbadgfebaa.Vs
open Go.RowKit
def testOK (b : BoardD) (t : List Int) : Bool := decide (t.length ≤ 8) && t.all fun c => decide (0 ≤ c ∧ c < b.2.1)
theorem Zdo (b : BoardD) : ∀ (r pre : List Int), (pre ++ r).length ≤ 9223372036854775806 → Ev (fun k => Z21 k b.1 b.2.1 b.2.2 (pre ++ r) ((pre ++ r).length : Int) (pre.length : Int)) (if r.all (fun c => decide (0 ≤ c ∧ c < b.2.1)) then LR.go () else LR.ret false)
 | [], pre, hl => by
  refine Ev.succ ?_
  simp only [Z21, Z7, decide_false, Bool.false_eq_true, if_false, List.all_nil, if_true]
  exact Ev.some _
 | x :: r, pre, hl => by
  have ih := Zdo b r (pre ++ [x]) (by simpa using hl)
  refine Ev.succ ?_
  simp only [Z21, Z5, Za, decide_true, if_true, Int.toNat_natCast, Z4]
  rw [Z6 pre x r (by omega)]
  rw [← Z0] at ih
  refine Ev.ite (fun h => ?_) (fun h => Ev.ite (fun h2 => ?_) (fun h2 => ?_))
  ·simp only [decide_eq_true_eq] at h
   have hx : ¬ (0 ≤ x ∧ x < b.2.1) := by omega
   simp only [hx, List.all_cons, decide_false, Bool.false_and, Bool.false_eq_true, if_false]; exact Ev.some _
  ·simp only [decide_eq_true_eq] at h2
   have hx : ¬ (0 ≤ x ∧ x < b.2.1) := by omega
   simp only [hx, List.all_cons, decide_false, Bool.false_and, Bool.false_eq_true, if_false]; exact Ev.some _
  ·simp only [decide_eq_true_eq] at h h2
   have hx : 0 ≤ x ∧ x < b.2.1 := by omega
   simp only [hx, and_self, List.all_cons, decide_true, Bool.true_and]; exact ih
theorem Zpu (b : BoardD) (l : List Int) (hb : b.2.2.length ≤ 9223372036854775806) (hl : l.length ≤ 9223372036854775806) : Ev (fun k => Z7t k b l) (boardOK b && decide (l.length ≤ 60) && l.all fun c => decide (0 ≤ c ∧ c < b.2.1)) := by
 refine Ev.succ ?_
 simp only [Z7t]
 refine Ev.bind (Zlm b hb) ?_
 cases hbo : boardOK b with
 | false => simp only [Bool.not_false, if_true, Bool.false_and]; exact Ev.some _
 | true =>
  simp only [Bool.not_true, Bool.false_eq_true, if_false, Bool.true_and]
  refine Ev.ite (fun h => Ev.of ?_) (fun h => ?_)
  ·simp only [decide_eq_true_eq] at h
   have : ¬ l.length ≤ 60 := by omega
   simp [this]
  ·simp only [decide_eq_true_eq] at h
   have h6 : l.length ≤ 60 := by omega
   refine Ev.bind (Zdo b l [] (by simpa using hl)) ?_
   simp only [h6, decide_true, Bool.true_and]
   cases hx : l.all (fun c => decide (0 ≤ c ∧ c < b.2.1)) with
   | true => simp only [if_true]; exact Ev.go (Ev.some _)
   | false => simp only [Bool.false_eq_true, if_false]; exact Ev.ret (Ev.some _)
end Go.Proofs.Ytpeflcbadgfebaa.Vs

set_option linter.unusedVariables false
set_option linter.unusedSimpArgs false
namespace Go.Proofs.Ytpeflcbadgfebaa.Vs
open Go.RowKit
theorem ZyQ (l : List Int) (n : Int) (h0 : 0 ≤ n) (h1 : n ≤ 1048576) (hl : l.length ≤ 9223372036854775807) : Ev (fun k => Zcl k l n) (if n - l.length < 0 then -1 else n - l.length) := by
 refine Ev.succ ?_
 simp only [Zcl]
 refine Ev.of ?_
 rw [w64 (by omega) (by omega)]
 by_cases h : n - (l.length : Int) < 0 <;> simp [h]
theorem Zjc : ∀ (r pre rest : List Int), rest.length = r.length → (pre ++ r).length ≤ 1048576 → Ev (fun k => Z5M k (pre ++ rest) (pre ++ r) (pre.length : Int)) (pre ++ r)
 | [], pre, rest, h, hl => by
  obtain rfl : rest = [] := List.eq_nil_of_length_eq_zero h
  refine Ev.succ ?_
  simp only [Z5M, Z7, decide_false, Bool.false_eq_true, if_false]
  exact Ev.some _
 | x :: r, pre, [], h, hl => by simp at h
 | x :: r, pre, y :: rest, h, hl => by
  have ih := Zjc r (pre ++ [x]) rest (by simpa using h) (by simpa using hl)
  refine Ev.succ ?_
  simp only [Z5M, Z5, Za, decide_true, if_true, Int.toNat_natCast, Z4, Z8Q]
  rw [Z6 pre x r (by omega)]
  rw [← Z0, ← Z0] at ih
  exact ih
theorem Zyf (l : List Int) (hl : l.length ≤ 1048576) : Ev (fun k => Zcn k l) l := by
 refine Ev.succ ?_
 have hm : l.length * 8 ≤ 281474976710656 := by omega
 simp only [Zcn, Int.toNat_natCast, hm, if_true]
 exact Ev.bind (Zjc l [] (List.replicate l.length 0) (by simp) (by simpa using hl)) (Ev.some _)
theorem Zjm : ∀ (r s pre : List Int) (pre' : List Int), s.length = r.length → pre'.length = pre.length → (pre ++ r).length ≤ 9223372036854775806 → Ev (fun k => Z5W k (pre ++ r) (pre' ++ s) (pre.length : Int)) (if r = s then LR.go () else LR.ret false)
 | [], s, pre, pre', h, hp, hl => by
  obtain rfl : s = [] := List.eq_nil_of_length_eq_zero h
  refine Ev.succ ?_
  simp only [Z5W, Z7, decide_false, Bool.false_eq_true, if_false, if_true]
  exact Ev.some _
 | x :: r, [], pre, pre', h, hp, hl => by simp at h
 | x :: r, y :: s, pre, pre', h, hp, hl => by
  have ih := Zjm r s (pre ++ [x]) (pre' ++ [y]) (by simpa using h) (by simpa using hp) (by simpa using hl)
  have l2 : (pre.length : Int) < ((pre' ++ y :: s).length : Int) := by rw [← hp]; exact Z5 _ _ _
  have g2 : List.getD (pre' ++ y :: s) pre.length 0 = y := by rw [← hp]; exact Z4 _ _ _ _
  refine Ev.succ ?_
  simp only [Z5W, Z5, Za, l2, decide_true, if_true, Int.toNat_natCast, Z4, g2]
  rw [Z6 pre x r (by omega)]
  rw [← Z0, ← Z0] at ih
  by_cases hxy : x = y
  ·subst hxy
   simp only [ne_eq, not_true_eq_false, decide_false, Bool.false_eq_true, if_false]
   refine ih.congr ?_
   by_cases hrs : r = s <;> simp [hrs]
  ·simp only [ne_eq, hxy, not_false_eq_true, decide_true, if_true]
   refine Ev.of ?_
   rw [if_neg (by intro hc; injection hc with h1 h2; exact hxy h1)]
theorem Z6n (l m : List Int) (hl : l.length ≤ 9223372036854775806) : Ev (fun k => Z2g k l m) (decide (l = m)) := by
 refine Ev.succ ?_
 simp only [Z2g]
 by_cases h : l.length = m.length
 ·simp only [h, ne_eq, not_true_eq_false, decide_false, Bool.false_eq_true, if_false]
  refine Ev.bind (Zjm l m [] [] h.symm rfl (by simpa using hl)) ?_
  by_cases hlm : l = m
  ·rw [if_pos hlm]; simp only [hlm, decide_true]; exact Ev.go (Ev.some _)
  ·rw [if_neg hlm]; simp only [hlm, decide_false]; exact Ev.ret (Ev.some _)
 ·have h2 : ¬ (l.length : Int) = (m.length : Int) := by omega
  have h3 : ¬ l = m := fun hc => h (by rw [hc])
  simp only [ne_eq, h2, not_false_eq_true, decide_true, if_true, h3, decide_false]
  exact Ev.some _
end Go.Proofs.Ytpeflcbadgfebaa.Vs

set_option linter.unusedVariables false
set_option linter.unusedSimpArgs false
namespace Go.Proofs.Ytpeflcbadgfebaa.Vs
open Go.RowKit
theorem eq3 (x y : FallD) : (decide (x.1 = y.1) && (decide (x.2.1 = y.2.1) && (decide (x.2.2 = y.2.2) && true))) = decide (x = y) := by
 obtain ⟨a0, a1, a2⟩ := x
 obtain ⟨b0, b1, b2⟩ := y
 by_cases h0 : a0 = b0 <;> by_cases h1 : a1 = b1 <;> by_cases h2 : a2 = b2 <;> simp [h0, h1, h2]
def diffIx : Nat → List FallD → List FallD → Option Nat
 | i, x :: r, y :: s => if x = y then diffIx (i + 1) r s else some i
 | _, _, _ => none
def ixOf : Option Nat → Int
 | none => -1
 | some i => (i : Int)
def lrOf {R : Type} (f : Nat → R) : Option Nat → LR Unit R
 | none => .go ()
 | some i => .ret (f i)
theorem ZjO : ∀ (i : Nat) (r s : List FallD), s.length = r.length → (diffIx i r s = none ↔ r = s)
 | i, [], s, h => by
  obtain rfl : s = [] := List.eq_nil_of_length_eq_zero h
  simp [diffIx]
 | i, x :: r, [], h => by simp at h
 | i, x :: r, y :: s, h => by
  have ih := ZjO (i + 1) r s (by simpa using h)
  by_cases hxy : x = y <;> simp [diffIx, hxy, ih]
theorem ZDk (z : Option Nat) : ixOf z < 0 ↔ z = none := by
 cases z with
 | none => simp [ixOf]
 | some i => simp only [ixOf, reduceCtorEq, iff_false]; omega
theorem Zje : ∀ (r s pre pre' : List FallD), s.length = r.length → pre'.length = pre.length → (pre ++ r).length ≤ 1000000 → Ev (fun k => Z63 k (pre' ++ s) (pre ++ r) ((pre ++ r).length : Int) (pre.length : Int)) (lrOf (fun i => (i : Int)) (diffIx pre.length r s))
 | [], s, pre, pre', h, hp, hl => by
  obtain rfl : s = [] := List.eq_nil_of_length_eq_zero h
  refine Ev.succ ?_
  simp only [Z63, Z7, decide_false, Bool.false_eq_true, if_false]
  exact Ev.some _
 | x :: r, [], pre, pre', h, hp, hl => by simp at h
 | x :: r, y :: s, pre, pre', h, hp, hl => by
  have ih := Zje r s (pre ++ [x]) (pre' ++ [y]) (by simpa using h) (by simpa using hp) (by simpa using hl)
  have l2 : (pre.length : Int) < ((pre' ++ y :: s).length : Int) := by rw [← hp]; exact Z5 _ _ _
  have g2 : List.getD (pre' ++ y :: s) pre.length (0, 0, 0) = y := by rw [← hp]; exact Z4 _ _ _ _
  refine Ev.succ ?_
  simp only [Z63, Z5, Za, l2, decide_true, if_true, Int.toNat_natCast, Z4, g2, eq3]
  rw [Z6 pre x r (by omega)]
  rw [← Z0, ← Z0] at ih
  refine Ev.ite (fun hh => ?_) (fun hh => ?_)
  ·have hh : ¬ x = y := nd hh
   exact Ev.of (by simp [diffIx, hh, lrOf])
  ·have hh : x = y := yd hh
   refine ih.congr ?_
   simp [diffIx, hh]
theorem Z5G : ∀ (r s pre pre' : List FallD), s.length = r.length → pre'.length = pre.length → (pre ++ r).length ≤ 1000000 → Ev (fun k => Zj k (pre ++ r) (pre' ++ s) ((pre ++ r).length : Int) (pre.length : Int)) (lrOf (fun _ => false) (diffIx pre.length r s))
 | [], s, pre, pre', h, hp, hl => by
  obtain rfl : s = [] := List.eq_nil_of_length_eq_zero h
  refine Ev.succ ?_
  simp only [Zj, Z7, decide_false, Bool.false_eq_true, if_false]
  exact Ev.some _
 | x :: r, [], pre, pre', h, hp, hl => by simp at h
 | x :: r, y :: s, pre, pre', h, hp, hl => by
  have ih := Z5G r s (pre ++ [x]) (pre' ++ [y]) (by simpa using h) (by simpa using hp) (by simpa using hl)
  have l2 : (pre.length : Int) < ((pre' ++ y :: s).length : Int) := by rw [← hp]; exact Z5 _ _ _
  have g2 : List.getD (pre' ++ y :: s) pre.length (0, 0, 0) = y := by rw [← hp]; exact Z4 _ _ _ _
  refine Ev.succ ?_
  simp only [Zj, Z5, Za, l2, decide_true, if_true, Int.toNat_natCast, Z4, g2, eq3]
  rw [Z6 pre x r (by omega)]
  rw [← Z0, ← Z0] at ih
  refine Ev.ite (fun hh => ?_) (fun hh => ?_)
  ·have hh : ¬ x = y := nd hh
   exact Ev.of (by simp [diffIx, hh, lrOf])
  ·have hh : x = y := yd hh
   refine ih.congr ?_
   simp [diffIx, hh]
theorem Zyo (l m : List FallD) (h : m.length = l.length) (hl : l.length ≤ 1000000) : Ev (fun k => Zcc k l m) (ixOf (diffIx 0 l m)) := by
 refine Ev.succ ?_
 simp only [Zcc]
 refine Ev.bind (Zje l m [] [] h rfl (by simpa using hl)) ?_
 simp only [List.length_nil]
 cases diffIx 0 l m with
 | none => exact Ev.go (Ev.some _)
 | some i => exact Ev.ret (Ev.some _)
theorem ZbF (l m : List FallD) (hl : l.length ≤ 1000000) : Ev (fun k => Z12 k l m) (decide (l = m)) := by
 refine Ev.succ ?_
 simp only [Z12]
 by_cases h : l.length = m.length
 ·simp only [h, ne_eq, not_true_eq_false, decide_false, Bool.false_eq_true, if_false]
  have hh := Z5G l m [] [] h.symm rfl (by simpa using hl)
  simp only [List.nil_append, List.length_nil, h] at hh
  refine Ev.bind hh ?_
  have hn := ZjO 0 l m h.symm
  cases hd : diffIx 0 l m with
  | none =>
   rw [hd] at hn
   simp only [hn.1 rfl, decide_true]
   exact Ev.go (Ev.some _)
  | some i =>
   rw [hd] at hn
   have : ¬ l = m := fun hc => by have := hn.2 hc; cases this
   simp only [this, decide_false]
   exact Ev.ret (Ev.some _)
 ·have h2 : ¬ (l.length : Int) = (m.length : Int) := by omega
  have h3 : ¬ l = m := fun hc => h (by rw [hc])
  simp only [ne_eq, h2, not_false_eq_true, decide_true, if_true, h3, decide_false]
  exact Ev.some _
def endsOf (b : BoardD) (l : List FaultD) (t : List Int) : List FallD := (runsOf b (groupsOf b) (kindsB b l) t b.2.2).1
theorem ZC2 (b : BoardD) (l : List FaultD) (t : List Int) : (endsOf b l t).length = t.length := Zv6 _ _ _ _ _
end Go.Proofs.Ytpeflcbadgfebaa.Vs

set_option linter.unusedVariables false
set_option linter.unusedSimpArgs false
namespace Go.Proofs.Ytpeflcbadgfebaa.Vs
open Go.RowKit
def kindsAt (C i : Int) (x : CellD) : List FaultD := ([1, 2, 3].filter (fits x)).map fun kd => (kd, Int.tdiv i C, Int.tmod i C)
def possFrom (C : Int) : Int → List CellD → List FaultD
 | _, [] => []
 | i, x :: r => kindsAt C i x ++ possFrom C (i + 1) r
theorem Zk9 (C i : Int) (x : CellD) : (kindsAt C i x).length ≤ 3 := by
 unfold kindsAt
 rw [List.length_map]
 exact Nat.le_trans (List.length_filter_le _ _) (by simp)
theorem Zrp (C : Int) : ∀ (r : List CellD) (i : Int), (possFrom C i r).length ≤ 3 * r.length
 | [], _ => by simp [possFrom]
 | x :: r, i => by
  have h1 := Zk9 C i x
  have h2 := Zrp C r (i + 1)
  simp only [possFrom, List.length_append, List.length_cons]
  omega
theorem ZBG {i C : Int} (hi : 0 ≤ i) (hC : 1 ≤ C) : 0 ≤ Int.tdiv i C ∧ Int.tdiv i C ≤ i := by
 rw [Int.tdiv_eq_ediv_of_nonneg hi]
 exact ⟨Int.ediv_nonneg hi (by omega), Int.ediv_le_self _ hi⟩
theorem Z7b (R C : Int) (cs : List CellD) (x : CellD) (i kd : Int) (hi : 0 ≤ i) (hi2 : i ≤ 90) (hC : 1 ≤ C) (hk : 1 ≤ kd) (hk2 : kd ≤ 3) (v8 : List CellD) (v9 v10 : Int) (o : List FaultD) (ho : o.length ≤ 1000) (z : Int × Int × List CellD × List FaultD × List CellD × Int × Int)
    (h : Ev (fun k => ZB k R C cs (if fits x kd then o ++ [(kd, Int.tdiv i C, Int.tmod i C)] else o) x.1 x.2 i (kd + 1) v8 v9 v10) z) : Ev (fun k => ZB k R C cs o x.1 x.2 i kd v8 v9 v10) z := by
  have hd := ZBG hi hC
  have hC0 : ¬ C = 0 := by omega
  have hlen : o.length + 1 ≤ 5864062014805 := by omega
  refine Ev.succ ?_
  simp only [ZB, hk2, decide_true, if_true]
  rw [w64 (n := kd + 1) (by omega) (by omega), w64 (n := Int.tdiv i C) (by omega) (by omega)]
  refine Ev.bind (ZzJ x kd) ?_
  cases hf : fits x kd with
  | true =>
    simp only [hf, if_true] at h
    simp only [if_true, hC0, if_false, List.length_singleton]
    have : o.length + 1 ≤ 140737488355328 / 24 := by omega
    simp only [this, if_true]
    exact h
  | false =>
    simp only [hf, Bool.false_eq_true, if_false] at h
    simp only [Bool.false_eq_true, if_false]
    exact h
theorem Zpc (R C : Int) (cs : List CellD) (x : CellD) (i : Int) (hi : 0 ≤ i) (hi2 : i ≤ 90) (hC : 1 ≤ C) (v8 : List CellD) (v9 v10 : Int) (o : List FaultD) (ho : o.length ≤ 900) : Ev (fun k => ZB k R C cs o x.1 x.2 i 1 v8 v9 v10) (R, C, cs, o ++ kindsAt C i x, v8, v9, v10) := by
 have e1 : (if fits x 1 then o ++ [(1, Int.tdiv i C, Int.tmod i C)] else o) = o ++ (if fits x 1 then [(1, Int.tdiv i C, Int.tmod i C)] else []) := by split <;> simp
 refine Z7b R C cs x i 1 hi hi2 hC (by omega) (by omega) v8 v9 v10 o (by omega) _ ?_
 rw [e1]
 generalize h1 : (if fits x 1 then [((1 : Int), Int.tdiv i C, Int.tmod i C)] else []) = o1
 have l1 : o1.length ≤ 1 := by rw [← h1]; split <;> simp
 refine Z7b R C cs x i 2 hi hi2 hC (by omega) (by omega) v8 v9 v10 _ (by simp; omega) _ ?_
 have e2 : (if fits x 2 then (o ++ o1) ++ [(2, Int.tdiv i C, Int.tmod i C)] else o ++ o1) = (o ++ o1) ++ (if fits x 2 then [(2, Int.tdiv i C, Int.tmod i C)] else []) := by split <;> simp
 rw [e2]
 generalize h2 : (if fits x 2 then [((2 : Int), Int.tdiv i C, Int.tmod i C)] else []) = o2
 have l2 : o2.length ≤ 1 := by rw [← h2]; split <;> simp
 refine Z7b R C cs x i 3 hi hi2 hC (by omega) (by omega) v8 v9 v10 _ (by simp; omega) _ ?_
 refine Ev.succ ?_
 simp only [ZB]
 have h4 : ¬ (3 + 1 : Int) ≤ 3 := by omega
 simp only [h4, decide_false, Bool.false_eq_true, if_false]
 refine Ev.of ?_
 rw [← h1, ← h2]
 unfold kindsAt
 cases f1 : fits x 1 <;> cases f2 : fits x 2 <;> cases f3 : fits x 3 <;> simp [List.filter, f1, f2, f3]
theorem Zeh (R C : Int) (hC : 1 ≤ C) (cs : List CellD) : ∀ (r pre : List CellD) (o : List FaultD), (pre ++ r).length ≤ 90 → o.length ≤ 3 * pre.length → Ev (fun k => Z1N k R C cs o (pre ++ r) ((pre ++ r).length : Int) (pre.length : Int)) (o ++ possFrom C pre.length r)
 | [], pre, o, hl, ho => by
  refine Ev.succ ?_
  simp only [Z1N, Z7, decide_false, Bool.false_eq_true, if_false, possFrom]
  rw [List.append_nil o]
  exact Ev.some _
 | x :: r, pre, o, hl, ho => by
  have hl2 := hl
  simp only [List.length_append, List.length_cons] at hl2
  have hka : (kindsAt C pre.length x).length ≤ 3 := Zk9 _ _ _
  have ih := Zeh R C hC cs r (pre ++ [x]) (o ++ kindsAt C pre.length x) (by simpa using hl) (by simp; omega)
  refine Ev.succ ?_
  simp only [Z1N, Z5, Za, decide_true, if_true, Int.toNat_natCast, Z4]
  refine Ev.bind (Zpc R C cs x (pre.length : Int) (by omega) (by omega) hC (pre ++ x :: r) ((pre ++ x :: r).length : Int) (pre.length : Int) o (by omega)) ?_
  show Ev (fun k => Z1N k R C cs (o ++ kindsAt C pre.length x) (pre ++ x :: r) ((pre ++ x :: r).length : Int) (wrap64 ((pre.length : Int) + 1))) _
  rw [Z6 pre x r (by omega)]
  rw [← Z0] at ih
  refine ih.congr ?_
  simp [possFrom]
theorem Zs9 (b : BoardD) (hb : boardOK b = true) : Ev (fun k => Z8s k b) (possFrom b.2.1 0 b.2.2) := by
 obtain ⟨g1, g2, g3, g4, g5, g6⟩ := ZL hb
 have hp := Zw g1 g2 g3 g4
 refine Ev.succ ?_
 simp only [Z8s]
 exact Ev.bind (Zeh b.1 b.2.1 g3 b.2.2 b.2.2 [] [] (by simp; omega) (by simp)) (Ev.some _)
theorem Z5a (R C : Int) (cs : List CellD) (x : CellD) (hx : cellOK x = true) (i kd : Int) (hi : 0 ≤ i) (hi2 : i ≤ 90) (hC : 1 ≤ C) (hk : 1 ≤ kd) (hk2 : kd ≤ 3) (v8 : List CellD) (v9 v10 : Int) (o : List FaultD) (ho : o.length ≤ 1000) (z : Int × Int × List CellD × List FaultD × List CellD × Int × Int)
    (h : Ev (fun k => Zp k R C cs (if fits x kd then o ++ [(kd, Int.tdiv i C, Int.tmod i C)] else o) x.1 x.2 i (kd + 1) v8 v9 v10) z) : Ev (fun k => Zp k R C cs o x.1 x.2 i kd v8 v9 v10) z := by
  have hd := ZBG hi hC
  have hC0 : ¬ C = 0 := by omega
  have hlen : o.length + 1 ≤ 5864062014805 := by omega
  refine Ev.succ ?_
  simp only [Zp, hk2, decide_true, if_true]
  rw [w64 (n := kd + 1) (by omega) (by omega), w64 (n := Int.tdiv i C) (by omega) (by omega)]
  refine Ev.bind (ZwB x kd hx) ?_
  cases hf : fits x kd with
  | true =>
    simp only [hf, if_true] at h
    simp only [if_true, hC0, if_false, List.length_singleton]
    have : o.length + 1 ≤ 140737488355328 / 24 := by omega
    simp only [this, if_true]
    exact h
  | false =>
    simp only [hf, Bool.false_eq_true, if_false] at h
    simp only [Bool.false_eq_true, if_false]
    exact h
theorem Ziu (R C : Int) (cs : List CellD) (x : CellD) (hx : cellOK x = true) (i : Int) (hi : 0 ≤ i) (hi2 : i ≤ 90) (hC : 1 ≤ C) (v8 : List CellD) (v9 v10 : Int) (o : List FaultD) (ho : o.length ≤ 900) : Ev (fun k => Zp k R C cs o x.1 x.2 i 1 v8 v9 v10) (R, C, cs, o ++ kindsAt C i x, v8, v9, v10) := by
 have e1 : (if fits x 1 then o ++ [(1, Int.tdiv i C, Int.tmod i C)] else o) = o ++ (if fits x 1 then [(1, Int.tdiv i C, Int.tmod i C)] else []) := by split <;> simp
 refine Z5a R C cs x hx i 1 hi hi2 hC (by omega) (by omega) v8 v9 v10 o (by omega) _ ?_
 rw [e1]
 generalize h1 : (if fits x 1 then [((1 : Int), Int.tdiv i C, Int.tmod i C)] else []) = o1
 have l1 : o1.length ≤ 1 := by rw [← h1]; split <;> simp
 refine Z5a R C cs x hx i 2 hi hi2 hC (by omega) (by omega) v8 v9 v10 _ (by simp; omega) _ ?_
 have e2 : (if fits x 2 then (o ++ o1) ++ [(2, Int.tdiv i C, Int.tmod i C)] else o ++ o1) = (o ++ o1) ++ (if fits x 2 then [(2, Int.tdiv i C, Int.tmod i C)] else []) := by split <;> simp
 rw [e2]
 generalize h2 : (if fits x 2 then [((2 : Int), Int.tdiv i C, Int.tmod i C)] else []) = o2
 have l2 : o2.length ≤ 1 := by rw [← h2]; split <;> simp
 refine Z5a R C cs x hx i 3 hi hi2 hC (by omega) (by omega) v8 v9 v10 _ (by simp; omega) _ ?_
 refine Ev.succ ?_
 simp only [Zp]
 have h4 : ¬ (3 + 1 : Int) ≤ 3 := by omega
 simp only [h4, decide_false, Bool.false_eq_true, if_false]
 refine Ev.of ?_
 rw [← h1, ← h2]
 unfold kindsAt
 cases f1 : fits x 1 <;> cases f2 : fits x 2 <;> cases f3 : fits x 3 <;> simp [List.filter, f1, f2, f3]
theorem Zby (R C : Int) (hC : 1 ≤ C) (cs : List CellD) : ∀ (r pre : List CellD) (o : List FaultD), (∀ y ∈ r, cellOK y = true) → (pre ++ r).length ≤ 90 → o.length ≤ 3 * pre.length → Ev (fun k => ZK k R C cs o (pre ++ r) ((pre ++ r).length : Int) (pre.length : Int)) (o ++ possFrom C pre.length r)
 | [], pre, o, hx, hl, ho => by
  refine Ev.succ ?_
  simp only [ZK, Z7, decide_false, Bool.false_eq_true, if_false, possFrom]
  rw [List.append_nil o]
  exact Ev.some _
 | x :: r, pre, o, hx, hl, ho => by
  have hl2 := hl
  simp only [List.length_append, List.length_cons] at hl2
  have hka : (kindsAt C pre.length x).length ≤ 3 := Zk9 _ _ _
  have ih := Zby R C hC cs r (pre ++ [x]) (o ++ kindsAt C pre.length x) (fun y hy => hx y (List.mem_cons_of_mem _ hy)) (by simpa using hl) (by simp; omega)
  refine Ev.succ ?_
  simp only [ZK, Z5, Za, decide_true, if_true, Int.toNat_natCast, Z4]
  refine Ev.bind (Ziu R C cs x (hx x (List.mem_cons_self ..)) (pre.length : Int) (by omega) (by omega) hC (pre ++ x :: r) ((pre ++ x :: r).length : Int) (pre.length : Int) o (by omega)) ?_
  show Ev (fun k => ZK k R C cs (o ++ kindsAt C pre.length x) (pre ++ x :: r) ((pre ++ x :: r).length : Int) (wrap64 ((pre.length : Int) + 1))) _
  rw [Z6 pre x r (by omega)]
  rw [← Z0] at ih
  refine ih.congr ?_
  simp [possFrom]
theorem ZlE (b : BoardD) (hb : boardOK b = true) : Ev (fun k => Z5L k b) (possFrom b.2.1 0 b.2.2) := by
 obtain ⟨g1, g2, g3, g4, g5, g6⟩ := ZL hb
 have hp := Zw g1 g2 g3 g4
 refine Ev.succ ?_
 simp only [Z5L]
 exact Ev.bind (Zby b.1 b.2.1 g3 b.2.2 b.2.2 [] [] g6 (by simp; omega) (by simp)) (Ev.some _)
theorem ZD5 {i C : Int} (hi : 0 ≤ i) (hC : 1 ≤ C) : Int.tdiv i C * C + Int.tmod i C = i ∧ 0 ≤ Int.tmod i C ∧ Int.tmod i C < C ∧ 0 ≤ Int.tdiv i C := by
 rw [Int.tdiv_eq_ediv_of_nonneg hi, Int.tmod_eq_emod_of_nonneg hi]
 refine ⟨?_, Int.emod_nonneg _ (by omega), Int.emod_lt_of_pos _ (by omega), Int.ediv_nonneg hi (by omega)⟩
 rw [Int.mul_comm]
 exact Int.mul_ediv_add_emod i C
theorem ZAK {C i : Int} {x : CellD} {f : FaultD} (h : f ∈ kindsAt C i x) : f.2.1 = Int.tdiv i C ∧ f.2.2 = Int.tmod i C ∧ fits x f.1 = true := by
 unfold kindsAt at h
 obtain ⟨kd, h1, rfl⟩ := List.mem_map.1 h
 exact ⟨rfl, rfl, (List.mem_filter.1 h1).2⟩
theorem ZAo {C : Int} : ∀ {r : List CellD} {i : Nat} {f : FaultD}, f ∈ possFrom C i r → ∃ j : Nat, i ≤ j ∧ j < i + r.length ∧ f.2.1 = Int.tdiv j C ∧ f.2.2 = Int.tmod j C ∧ fits (List.getD r (j - i) (0, 0)) f.1 = true
 | [], i, f, h => by simp [possFrom] at h
 | x :: r, i, f, h => by
  simp only [possFrom, List.mem_append] at h
  rcases h with h | h
  ·obtain ⟨h1, h2, h3⟩ := ZAK h
   exact ⟨i, Nat.le_refl _, by simp, h1, h2, by simpa using h3⟩
  ·have h' : f ∈ possFrom C ((i + 1 : Nat) : Int) r := h
   obtain ⟨j, h1, h2, h3, h4, h5⟩ := ZAo h'
   refine ⟨j, by omega, by simp only [List.length_cons]; omega, h3, h4, ?_⟩
   rw [show j - i = (j - (i + 1)) + 1 by omega]
   exact h5
theorem ZBS {b : BoardD} (hb : boardOK b = true) {f : FaultD} (h : f ∈ possFrom b.2.1 0 b.2.2) : 0 ≤ f.2.1 ∧ f.2.1 < b.1 ∧ 0 ≤ f.2.2 ∧ f.2.2 < b.2.1 ∧ fits (List.getD b.2.2 (placeOf b f).toNat (0, 0)) f.1 = true := by
 obtain ⟨g1, g2, g3, g4, g5, g6⟩ := ZL hb
 have h' : f ∈ possFrom b.2.1 ((0 : Nat) : Int) b.2.2 := h
 obtain ⟨j, h1, h2, h3, h4, h5⟩ := ZAo h'
 obtain ⟨d1, d2, d3, d4⟩ := ZD5 (i := (j : Int)) (C := b.2.1) (by omega) g3
 have hp : placeOf b f = j := by unfold placeOf; rw [h3, h4]; exact d1
 refine ⟨by rw [h3]; exact d4, ?_, by rw [h4]; exact d2, by rw [h4]; exact d3, ?_⟩
 ·rw [h3]
  by_cases hh : Int.tdiv (j : Int) b.2.1 < b.1
  ·exact hh
  ·have := Int.mul_le_mul_of_nonneg_right (show b.1 ≤ Int.tdiv (j : Int) b.2.1 by omega) (show 0 ≤ b.2.1 by omega)
   omega
 ·rw [hp]
  simpa using h5
theorem ZzP {b : BoardD} (hb : boardOK b = true) {f : FaultD} (h : f ∈ possFrom b.2.1 0 b.2.2) : faultsOK b (-1) [f] = true := by
 obtain ⟨h1, h2, h3, h4, h5⟩ := ZBS hb h
 have hp := Z9s hb h1 h2 h3 h4
 unfold placeOf at h5
 have h6 : 0 ≤ f.2.1 ∧ f.2.1 < b.1 ∧ 0 ≤ f.2.2 ∧ f.2.2 < b.2.1 ∧ -1 < f.2.1 * b.2.1 + f.2.2 := ⟨h1, h2, h3, h4, by omega⟩
 simp only [faultsOK, h5, h6, and_self, decide_true, Bool.and_self]
theorem Znq {b : BoardD} (hb : boardOK b = true) : (possFrom b.2.1 0 b.2.2).length ≤ 270 := by
 obtain ⟨g1, g2, g3, g4, g5, g6⟩ := ZL hb
 have hpp := Zw g1 g2 g3 g4
 have := Zrp b.2.1 b.2.2 0
 omega
end Go.Proofs.Ytpeflcbadgfebaa.Vs

set_option linter.unusedVariables false
set_option linter.unusedSimpArgs false
namespace Go.Proofs.Ytpeflcbadgfebaa.Vs
open Go.RowKit
def szRows {α : Type} : List (List α) → Int
 | [] => 0
 | x :: r => (x.length : Int) + szRows r
theorem Z7K {α : Type} : ∀ (l : List (List α)), 0 ≤ szRows l
 | [] => Int.le_refl _
 | x :: r => by have := Z7K r; simp only [szRows]; omega
theorem Znf {α : Type} : ∀ {l : List (List α)} {x : List α}, x ∈ l → (x.length : Int) ≤ szRows l
 | y :: r, x, h => by
  have h1 := Z7K r
  simp only [szRows]
  rcases List.mem_cons.1 h with rfl | h
  ·omega
  ·have := Znf h; omega
theorem ZhR : ∀ (r pre : List (List Int)) (n : Int), 0 ≤ n → n ≤ 1048576 → (∀ x ∈ r, x.length ≤ 9223372036854775807) → (pre ++ r).length ≤ 9223372036854775806 → Ev (fun k => Z5h k (pre ++ r) n (pre.length : Int)) (if n - szRows r < 0 then LR.ret (-1) else LR.go (n - szRows r))
 | [], pre, n, h0, h1, hx, hl => by
  refine Ev.succ ?_
  simp only [Z5h, Z7, decide_false, Bool.false_eq_true, if_false]
  rw [if_neg (show ¬ n - szRows ([] : List (List Int)) < 0 by simp only [szRows]; omega)]
  exact Ev.of (by simp [szRows])
 | x :: r, pre, n, h0, h1, hx, hl => by
  have hxl := hx x (List.mem_cons_self ..)
  have hr := Z7K r
  refine Ev.succ ?_
  simp only [Z5h, Z5, Za, decide_true, if_true, Int.toNat_natCast, Z4]
  rw [Z6 pre x r (by omega)]
  refine Ev.bind (ZyQ x n h0 h1 hxl) ?_
  by_cases h : n - (x.length : Int) < 0
  ·simp only [h, if_true]
   rw [if_pos (show n - szRows (x :: r) < 0 by simp only [szRows]; omega)]
   exact Ev.some _
  ·simp only [h, if_false, decide_false, Bool.false_eq_true]
   have ih := ZhR r (pre ++ [x]) (n - x.length) (by omega) (by omega) (fun y hy => hx y (List.mem_cons_of_mem _ hy)) (by simpa using hl)
   rw [← Z0] at ih
   have e1 : n - szRows (x :: r) = n - (x.length : Int) - szRows r := by simp only [szRows]; omega
   rw [e1]
   exact ih
theorem Zm4 (l : List (List Int)) (n : Int) (h0 : 0 ≤ n) (h1 : n ≤ 1048576) (hl : l.length ≤ 9223372036854775807) (hx : ∀ x ∈ l, x.length ≤ 9223372036854775807) : Ev (fun k => Z93 k l n) (if n - l.length < 0 then -1 else if n - l.length - szRows l < 0 then -1 else n - l.length - szRows l) := by
 refine Ev.succ ?_
 simp only [Z93]
 rw [w64 (by omega) (by omega)]
 by_cases h : n - (l.length : Int) < 0
 ·simp only [h, decide_true, if_true]; exact Ev.some _
 ·simp only [h, decide_false, Bool.false_eq_true, if_false]
  refine Ev.bind (ZhR l [] _ (by omega) (by omega) hx (by simp; omega)) ?_
  by_cases g : n - (l.length : Int) - szRows l < 0
  ·simp only [g, if_true]; exact Ev.ret (Ev.some _)
  ·simp only [g, if_false]; exact Ev.go (Ev.some _)
theorem Zhi : ∀ (r pre rest : List (List Int)), rest.length = r.length → (∀ x ∈ r, x.length ≤ 1048576) → (pre ++ r).length ≤ 1048576 → Ev (fun k => Z4O k (pre ++ rest) (pre ++ r) (pre.length : Int)) (pre ++ r)
 | [], pre, rest, h, hx, hl => by
  obtain rfl : rest = [] := List.eq_nil_of_length_eq_zero h
  refine Ev.succ ?_
  simp only [Z4O, Z7, decide_false, Bool.false_eq_true, if_false]
  exact Ev.some _
 | x :: r, pre, [], h, hx, hl => by simp at h
 | x :: r, pre, y :: rest, h, hx, hl => by
  have ih := Zhi r (pre ++ [x]) rest (by simpa using h) (fun y hy => hx y (List.mem_cons_of_mem _ hy)) (by simpa using hl)
  refine Ev.succ ?_
  simp only [Z4O, Z5, Za, decide_true, if_true, Int.toNat_natCast, Z4, Z8Q]
  rw [Z6 pre x r (by omega)]
  refine Ev.bind (Zyf x (hx x (List.mem_cons_self ..))) ?_
  rw [← Z0, ← Z0] at ih
  exact ih
theorem Z3k (l : List (List Int)) (hl : l.length ≤ 1048576) (hx : ∀ x ∈ l, x.length ≤ 1048576) : Ev (fun k => Z1a k l) l := by
 refine Ev.succ ?_
 have hm : l.length * 24 ≤ 281474976710656 := by omega
 simp only [Z1a, Int.toNat_natCast, hm, if_true]
 exact Ev.bind (Zhi l [] (List.replicate l.length []) (by simp) hx (by simpa using hl)) (Ev.some _)
theorem Zic : ∀ (r s pre pre' : List (List Int)), s.length = r.length → pre'.length = pre.length → (∀ x ∈ r, x.length ≤ 9223372036854775806) → (pre ++ r).length ≤ 9223372036854775806 → Ev (fun k => Z5m k (pre ++ r) (pre' ++ s) (pre.length : Int)) (if r = s then LR.go () else LR.ret false)
 | [], s, pre, pre', h, hp, hx, hl => by
  obtain rfl : s = [] := List.eq_nil_of_length_eq_zero h
  refine Ev.succ ?_
  simp only [Z5m, Z7, decide_false, Bool.false_eq_true, if_false, if_true]
  exact Ev.some _
 | x :: r, [], pre, pre', h, hp, hx, hl => by simp at h
 | x :: r, y :: s, pre, pre', h, hp, hx, hl => by
  have ih := Zic r s (pre ++ [x]) (pre' ++ [y]) (by simpa using h) (by simpa using hp) (fun y hy => hx y (List.mem_cons_of_mem _ hy)) (by simpa using hl)
  have l2 : (pre.length : Int) < ((pre' ++ y :: s).length : Int) := by rw [← hp]; exact Z5 _ _ _
  have g2 : List.getD (pre' ++ y :: s) pre.length [] = y := by rw [← hp]; exact Z4 _ _ _ _
  refine Ev.succ ?_
  simp only [Z5m, Z5, Za, l2, decide_true, if_true, Int.toNat_natCast, Z4, g2]
  rw [Z6 pre x r (by omega)]
  rw [← Z0, ← Z0] at ih
  refine Ev.bind (Z6n x y (hx x (List.mem_cons_self ..))) ?_
  by_cases hxy : x = y
  ·subst hxy
   simp only [decide_true, Bool.not_true, Bool.false_eq_true, if_false]
   refine ih.congr ?_
   by_cases hrs : r = s <;> simp [hrs]
  ·simp only [hxy, decide_false, Bool.not_false, if_true]
   refine Ev.of ?_
   rw [if_neg (by intro hc; injection hc with h1 h2; exact hxy h1)]
theorem ZkV (l m : List (List Int)) (hl : l.length ≤ 9223372036854775806) (hx : ∀ x ∈ l, x.length ≤ 9223372036854775806) : Ev (fun k => Z8Z k l m) (decide (l = m)) := by
 refine Ev.succ ?_
 simp only [Z8Z]
 by_cases h : l.length = m.length
 ·simp only [h, ne_eq, not_true_eq_false, decide_false, Bool.false_eq_true, if_false]
  refine Ev.bind (Zic l m [] [] h.symm rfl hx (by simpa using hl)) ?_
  by_cases hlm : l = m
  ·rw [if_pos hlm]; simp only [hlm, decide_true]; exact Ev.go (Ev.some _)
  ·rw [if_neg hlm]; simp only [hlm, decide_false]; exact Ev.ret (Ev.some _)
 ·have h2 : ¬ (l.length : Int) = (m.length : Int) := by omega
  have h3 : ¬ l = m := fun hc => h (by rw [hc])
  simp only [ne_eq, h2, not_false_eq_true, decide_true, if_true, h3, decide_false]
  exact Ev.some _
end Go.Proofs.Ytpeflcbadgfebaa.Vs
