/- The proof, part 6. -/
import Derived.Test.Ytgjmhbjdhihgaaaqhm4
set_option maxRecDepth 100000
set_option maxHeartbeats 2000000
set_option linter.unusedVariables false
set_option linter.unusedSimpArgs false
namespace Go.Proofs.Ytgjmhbjdhihgaaa.Vs
open Go.RowKit
noncomputable section
noncomputable def Z6L : List PK := [PK.mk (Ty.int .i64) false none false none]
noncomputable def ZgZ : List PK := [PK.mk (Ty.pair (Ty.slice (5 : Nat) (Ty.int .u8)) (Ty.pair (Ty.int .i64) (Ty.int .u64))) false none false (some (114 : Nat)), PK.mk (Ty.slice (3 : Nat) (Ty.int .i64)) false none false none]
noncomputable def ZfL (r : Int × Int × Int) : Tup Z6L × OutD := ((r.1, ()), some ⟨Ty.pair (Ty.slice (5 : Nat) (Ty.int .u8)) (Ty.pair (Ty.int .i64) (Ty.int .u64)), [([], r.2)]⟩)
noncomputable def ZbL : Tup Z6L × OutD → Option (Int × Int × Int)
 | (a, some ⟨u, ys⟩) => if h : u = Ty.pair (Ty.slice (5 : Nat) (Ty.int .u8)) (Ty.pair (Ty.int .i64) (Ty.int .u64)) then (match castU h ys with
  | [([], y)] => some (a.1, y)
  | _ => none) else none
 | _ => none
theorem Zmi : ∀ b r, ZbL b = some r → ZfL r = b := by
 rintro ⟨a, o⟩ r h
 cases o with
 | none => cases h
 | some s =>
  obtain ⟨u, ys⟩ := s
  simp only [ZbL] at h
  split at h
  ·rename_i hu
   subst hu
   match ys, h with
   | [], h => cases (show (none : Option _) = some r from h)
   | [([], y)], h => injection (show some _ = some r from h) with h; subst h; rfl
   | [(_ :: _, y)], h => cases (show (none : Option _) = some r from h)
   | (h1, _) :: _ :: _, h => cases h1 <;> cases (show (none : Option _) = some r from h)
  ·cases h
noncomputable def Zf : Nat → List Int × Int × Int → List Int → Option (Int × Int × Int)
 | 0, _, _ => none
 | k + 1, p0, p1 =>
  Option.bind (Z2 k (Prod.fst p0, Prod.fst p0.2, Prod.snd p0.2) (↑(List.length p1) : Int)) fun z0 => if (0 : Int) ≤ Prod.fst z0 then if Prod.fst z0 < (↑(List.length p1) : Int) then some (List.getD p1 (Int.toNat z0.1) (0 : Int), Prod.fst z0.2, Prod.snd z0.2) else none else none
noncomputable def Z10 : FnDef := .of ZgZ Z6L (Int × Int × Int) (fun k x => Zf k x.1 x.2.1) ZfL ZbL Zmi
noncomputable def Zce : Code := Try.f90.body.getD .skip
noncomputable def Z9i : Ctx (Tup Z6L × OutD) := { T := T, G := [(111, ZI.E)], mvs := [], no := 2, n := 12, res := resOf T ZgZ Z6L Try.f90.results.toList, loops := [], regs := [], conds := [] }
theorem Ztb (k : Nat) : EnvOK Try.prog k Z9i.G := (EnvOK.cons (Z32 k) (EnvOK.nil mixed))
theorem ZrN (k : Nat) (x : Tup Z10.ps) : Z10.f (k + 1) x = fnK Z10 Z9i Zce k x := by kernel_rfl
theorem ZrF (x : Tup Z10.ps) : Z10.f 0 x = none := by kernel_rfl
theorem Zs6 (k : Nat) : LOK Try.prog Z9i k Zce := LOK.by [] (by kernel_rfl) AllOK.nil
theorem Z6V (k : Nat) : SoundAt Try.prog k 90 Z10.E := @Ze Try.prog Z10 Z9i 90 Try.f90 Zce (by kernel_rfl) (by kernel_rfl) (by kernel_rfl) Try.func90 (by kernel_rfl) (by kernel_rfl) (by kernel_rfl) T_ok Ztb Zs6 ZrF ZrN k
noncomputable def Z93 : List PK := [PK.mk Ty.bool false none false none]
noncomputable def ZpN : List PK := [PK.mk (Ty.pair (Ty.int .i64) (Ty.pair (Ty.int .i64) (Ty.slice (79 : Nat) (Ty.pair (Ty.int .i64) (Ty.int .i64))))) true none false none, PK.mk (Ty.slice (77 : Nat) (Ty.pair (Ty.int .i64) (Ty.pair (Ty.int .i64) (Ty.int .i64)))) false none false none]
noncomputable def Zgw (r : Bool) : Tup Z93 × OutD := ((r, ()), none)
noncomputable def Zgm : Tup Z93 × OutD → Option (Bool)
 | (a, none) => some (a.1)
 | _ => none
theorem Zi0 : ∀ b r, Zgm b = some r → Zgw r = b := by
 rintro ⟨a, o⟩ r h
 cases o with
 | none => injection h with h; subst h; rfl
 | some _ => cases h
noncomputable def Z6W : Nat → Int → Int → List (Int × Int) → List (Int × Int × Int) → Int → List (Int × Int × Int) → Int → Int → Option (LR (List (Int × Int × Int)) Bool)
 | 0, _, _, _, _, _, _, _, _ => none
 | k + 1, b1_0, b1_1, b1_2, v1, v5, v8, v9, v10 =>
  if decide (v10 < v9) = true then if (0 : Int) ≤ v10 then if v10 < (↑(List.length v8) : Int) then Option.bind (Z21 k (Prod.fst (Prod.snd (List.getD v8 (Int.toNat v10) ((0 : Int), (0 : Int), (0 : Int))))) (0 : Int) (wrap64 (b1_0 - (1 : Int)))) fun z0 => if (!z0) = true then some (LR.ret false) else Option.bind (Z21 k (Prod.snd (Prod.snd (List.getD v8 (Int.toNat v10) ((0 : Int), (0 : Int), (0 : Int))))) (0 : Int) (wrap64 (b1_1 - (1 : Int)))) fun z1 => if (!z1) = true then some (LR.ret false) else Option.bind (Z88 k (b1_0, b1_1, b1_2) (Prod.fst (Prod.snd (List.getD v8 (Int.toNat v10) ((0 : Int), (0 : Int), (0 : Int))))) (Prod.snd (Prod.snd (List.getD v8 (Int.toNat v10) ((0 : Int), (0 : Int), (0 : Int)))))) fun z2 => Option.bind (Zbn k (Prod.fst z2, Prod.snd z2) (Prod.fst (List.getD v8 (Int.toNat v10) ((0 : Int), (0 : Int), (0 : Int))))) fun z3 => if (!z3) = true then some (LR.ret false) else if decide (wrap64 (wrap64 (Prod.fst (Prod.snd (List.getD v8 (Int.toNat v10) ((0 : Int), (0 : Int), (0 : Int)))) * b1_1) + Prod.snd (Prod.snd (List.getD v8 (Int.toNat v10) ((0 : Int), (0 : Int), (0 : Int))))) ≤ v5) = true then some (LR.ret false) else Z6W k b1_0 b1_1 b1_2 v1 (wrap64 (wrap64 (Prod.fst (Prod.snd (List.getD v8 (Int.toNat v10) ((0 : Int), (0 : Int), (0 : Int)))) * b1_1) + Prod.snd (Prod.snd (List.getD v8 (Int.toNat v10) ((0 : Int), (0 : Int), (0 : Int)))))) v8 v9 (wrap64 (v10 + (1 : Int))) else none else none else some (LR.go v1)
noncomputable def Ze9 : Spec := Spec.mk [OSh.ro, OSh.box (53 : Nat) [Sh.int .i64, Sh.int .i64, Sh.snap (0 : Nat) (Ty.pair (Ty.int .i64) (Ty.int .i64))]] [((1 : Nat), TSh.at (Sh.snap (0 : Nat) (Ty.pair (Ty.int .i64) (Ty.pair (Ty.int .i64) (Ty.int .i64))))), ((2 : Nat), TSh.at (Sh.ptr (1 : Nat) (0 : Nat))), ((5 : Nat), TSh.at (Sh.int .i64)), ((8 : Nat), TSh.at (Sh.snap (0 : Nat) (Ty.pair (Ty.int .i64) (Ty.pair (Ty.int .i64) (Ty.int .i64))))), ((9 : Nat), TSh.at (Sh.int .i64)), ((10 : Nat), TSh.at (Sh.int .i64))]
noncomputable def Zx5 : Spec := Spec.mk [OSh.ro] [((1 : Nat), TSh.at (Sh.snap (0 : Nat) (Ty.pair (Ty.int .i64) (Ty.pair (Ty.int .i64) (Ty.int .i64)))))]
noncomputable def Z6k : LoopDef (Tup Z93 × OutD) := .rets Ze9 Zx5 (List (Int × Int × Int)) (Bool) (fun k x => Z6W k x.1.2.1.1 x.1.2.1.2.1 x.1.2.1.2.2.1 x.2.1 x.2.2.2.1 x.2.2.2.2.1 x.2.2.2.2.2.1 x.2.2.2.2.2.2.1) (fun z => (((), ()), (z, ()))) (fun y => (y.2.1)) (fun _ => rfl) Zgw Zgm Zi0
noncomputable def Zbu : Nat → Int × Int × List (Int × Int) → List (Int × Int × Int) → Option Bool
 | 0, _, _ => none
 | k + 1, p0, p1 =>
  Option.bind (Z6W k p0.1 p0.2.1 p0.2.2 p1 (-1 : Int) p1 (↑(List.length p1) : Int) (0 : Int)) fun z4 => LR.on z4 (fun y4 => some (decide ((↑(List.length y4) : Int) ≤ (4 : Int)))) fun r4 => some r4
noncomputable def Z4r : FnDef := .of ZpN Z93 (Bool) (fun k x => Zbu k x.1 x.2.1) Zgw Zgm Zi0
noncomputable def ZdZ : Code := Try.f122.body.getD .skip
noncomputable def Z7p : Ctx (Tup Z93 × OutD) := { T := T, G := [(96, Z2t.E), (183, Z55.E), (182, Z4w.E)], mvs := [], no := 0, n := 66, res := resOf T ZpN Z93 Try.f122.results.toList, loops := [(0, Z6k.E)], regs := [], conds := [] }
theorem Zq7 (k : Nat) : EnvOK Try.prog k Z7p.G := (EnvOK.cons (Z9T k) (EnvOK.cons (ZlC k) (EnvOK.cons (ZpP k) (EnvOK.nil mixed))))
noncomputable def Zbd : Code := (findLoop 0 ZdZ).getD .skip
theorem Zx3 (k : Nat) (x : Ze9.D) : Z6k.lp (k + 1) x = loopK Z7p Z6k 0 Zbd k x := by kernel_rfl
theorem Zw3 (k : Nat) : LOK Try.prog Z7p k Zbd := LOK.by [] (by kernel_rfl) AllOK.nil
theorem ZwA (x : Ze9.D) : Z6k.lp 0 x = none := by kernel_rfl
theorem ZuE (k : Nat) : EOK Try.prog Z7p k Z6k.E (.block 0 (.loop Zbd)) := Zp T_ok Zq7 ZwA Zx3 Zw3 k
theorem ZAb (k : Nat) (x : Tup Z4r.ps) : Z4r.f (k + 1) x = fnK Z4r Z7p ZdZ k x := by kernel_rfl
theorem ZAi (x : Tup Z4r.ps) : Z4r.f 0 x = none := by kernel_rfl
theorem ZAI (k : Nat) : LOK Try.prog Z7p k ZdZ := LOK.by [(Z6k.E, .block 0 (.loop Zbd))] (by kernel_rfl) (AllOK.cons (ZuE k) AllOK.nil)
theorem ZpS (k : Nat) : SoundAt Try.prog k 122 Z4r.E := @Ze Try.prog Z4r Z7p 122 Try.f122 ZdZ (by kernel_rfl) (by kernel_rfl) (by kernel_rfl) Try.func122 (by kernel_rfl) (by kernel_rfl) (by kernel_rfl) T_ok Zq7 ZAI ZAi ZAb k
noncomputable def Z5n : List PK := [PK.mk (Ty.pair (Ty.int .i64) (Ty.pair (Ty.int .i64) (Ty.int .i64))) true none false none]
noncomputable def Zit : List PK := [PK.mk (Ty.pair (Ty.int .i64) (Ty.pair (Ty.int .i64) (Ty.slice (79 : Nat) (Ty.pair (Ty.int .i64) (Ty.int .i64))))) true (some ((2 : Nat), (79 : Nat), Ty.pair (Ty.int .i64) (Ty.int .i64))) false none, PK.mk (Ty.slice (3 : Nat) (Ty.int .i64)) false none false none, PK.mk (Ty.slice (3 : Nat) (Ty.int .i64)) false none false none, PK.mk (Ty.int .i64) false none false none]
noncomputable def Zcd (r : (Int × Int × Int) × List (Int × Int)) : Tup Z5n × OutD := ((r.1, ()), some ⟨Ty.pair (Ty.int .i64) (Ty.int .i64), r.2⟩)
noncomputable def Z9q : Tup Z5n × OutD → Option ((Int × Int × Int) × List (Int × Int))
 | (a, some ⟨u, ys⟩) => if h : u = Ty.pair (Ty.int .i64) (Ty.int .i64) then some (a.1, castU h ys) else none
 | _ => none
theorem ZeD : ∀ b r, Z9q b = some r → Zcd r = b := by
 rintro ⟨a, o⟩ r h
 cases o with
 | none => cases h
 | some s =>
  obtain ⟨u, ys⟩ := s
  simp only [Z9q] at h
  split at h
  ·rename_i hu; subst hu; injection h with h; subst h; rfl
  ·cases h
noncomputable def ZS : Nat → List (Int × Int) → Int → Int → Int → Int → Int → List Int → List Int → Int → Int → Int → Option (LR (List (Int × Int) × Int × Int × Int × Int × Int × Int) ((Int × Int × Int) × List (Int × Int)))
 | 0, _, _, _, _, _, _, _, _, _, _, _ => none
 | k + 1, o1, b2_0, b2_1, b3_0, b3_1, b3_2, v1, v2, v3, v9, v10 =>
  if decide (v10 < b2_0) = true then if (0 : Int) ≤ wrap64 (wrap64 (v10 * b2_1) + v3) then if wrap64 (wrap64 (v10 * b2_1) + v3) < (↑(List.length v2) : Int) then if decide (List.getD v2 (Int.toNat (wrap64 (wrap64 (v10 * b2_1) + v3))) (0 : Int) = (2 : Int)) = true then some (LR.ret (((3 : Int), v10, v3), o1)) else if (0 : Int) ≤ wrap64 (wrap64 (v10 * b2_1) + v3) then if wrap64 (wrap64 (v10 * b2_1) + v3) < (↑(List.length o1) : Int) then Option.bind (Zby k (Prod.fst (List.getD o1 (Int.toNat (wrap64 (wrap64 (v10 * b2_1) + v3))) ((0 : Int), (0 : Int))), Prod.snd (List.getD o1 (Int.toNat (wrap64 (wrap64 (v10 * b2_1) + v3))) ((0 : Int), (0 : Int)))) v9) fun z0 => if (!Prod.snd z0) = true then some (LR.ret (((2 : Int), v10, v3), o1)) else if (0 : Int) ≤ wrap64 (wrap64 (v10 * b2_1) + v3) then if wrap64 (wrap64 (v10 * b2_1) + v3) < (↑(List.length v2) : Int) then if decide (List.getD v2 (Int.toNat (wrap64 (wrap64 (v10 * b2_1) + v3))) (0 : Int) = (3 : Int)) = true then if (0 : Int) ≤ wrap64 (wrap64 (v10 * b2_1) + v3) then if wrap64 (wrap64 (v10 * b2_1) + v3) < (↑(List.length o1) : Int) then Option.bind (Z2J k (Prod.fst (List.getD o1 (Int.toNat (wrap64 (wrap64 (v10 * b2_1) + v3))) ((0 : Int), (0 : Int))), Prod.snd (List.getD o1 (Int.toNat (wrap64 (wrap64 (v10 * b2_1) + v3))) ((0 : Int), (0 : Int))))) fun z1 => if z1 = true then Option.bind (Z5z k (b2_0, b2_1, o1) v1 v2 (wrap64 (wrap64 (v10 * b2_1) + v3))) fun z2 => if decide (wrap64 (v3 + wrap64 ((0 : Int) - Prod.fst z0)) < (0 : Int)) = true then some (LR.ret (((3 : Int), v10, wrap64 (v3 + wrap64 ((0 : Int) - Prod.fst z0))), z2)) else if decide (wrap64 (v3 + wrap64 ((0 : Int) - Prod.fst z0)) ≥ b2_1) = true then some (LR.ret (((3 : Int), v10, wrap64 (v3 + wrap64 ((0 : Int) - Prod.fst z0))), z2)) else ZS k z2 b2_0 b2_1 b3_0 b3_1 b3_2 v1 v2 (wrap64 (v3 + wrap64 ((0 : Int) - Prod.fst z0))) (wrap64 ((0 : Int) - wrap64 ((0 : Int) - Prod.fst z0))) (wrap64 (v10 + (1 : Int))) else if decide (wrap64 (v3 + wrap64 ((0 : Int) - Prod.fst z0)) < (0 : Int)) = true then some (LR.ret (((3 : Int), v10, wrap64 (v3 + wrap64 ((0 : Int) - Prod.fst z0))), o1)) else if decide (wrap64 (v3 + wrap64 ((0 : Int) - Prod.fst z0)) ≥ b2_1) = true then some (LR.ret (((3 : Int), v10, wrap64 (v3 + wrap64 ((0 : Int) - Prod.fst z0))), o1)) else ZS k o1 b2_0 b2_1 b3_0 b3_1 b3_2 v1 v2 (wrap64 (v3 + wrap64 ((0 : Int) - Prod.fst z0))) (wrap64 ((0 : Int) - wrap64 ((0 : Int) - Prod.fst z0))) (wrap64 (v10 + (1 : Int))) else none else none else if (0 : Int) ≤ wrap64 (wrap64 (v10 * b2_1) + v3) then if wrap64 (wrap64 (v10 * b2_1) + v3) < (↑(List.length o1) : Int) then Option.bind (Z2J k (Prod.fst (List.getD o1 (Int.toNat (wrap64 (wrap64 (v10 * b2_1) + v3))) ((0 : Int), (0 : Int))), Prod.snd (List.getD o1 (Int.toNat (wrap64 (wrap64 (v10 * b2_1) + v3))) ((0 : Int), (0 : Int))))) fun z3 => if z3 = true then Option.bind (Z5z k (b2_0, b2_1, o1) v1 v2 (wrap64 (wrap64 (v10 * b2_1) + v3))) fun z4 => if decide (wrap64 (v3 + Prod.fst z0) < (0 : Int)) = true then some (LR.ret (((3 : Int), v10, wrap64 (v3 + Prod.fst z0)), z4)) else if decide (wrap64 (v3 + Prod.fst z0) ≥ b2_1) = true then some (LR.ret (((3 : Int), v10, wrap64 (v3 + Prod.fst z0)), z4)) else ZS k z4 b2_0 b2_1 b3_0 b3_1 b3_2 v1 v2 (wrap64 (v3 + Prod.fst z0)) (wrap64 ((0 : Int) - Prod.fst z0)) (wrap64 (v10 + (1 : Int))) else if decide (wrap64 (v3 + Prod.fst z0) < (0 : Int)) = true then some (LR.ret (((3 : Int), v10, wrap64 (v3 + Prod.fst z0)), o1)) else if decide (wrap64 (v3 + Prod.fst z0) ≥ b2_1) = true then some (LR.ret (((3 : Int), v10, wrap64 (v3 + Prod.fst z0)), o1)) else ZS k o1 b2_0 b2_1 b3_0 b3_1 b3_2 v1 v2 (wrap64 (v3 + Prod.fst z0)) (wrap64 ((0 : Int) - Prod.fst z0)) (wrap64 (v10 + (1 : Int))) else none else none else none else none else none else none else none else none else some (LR.go (o1, b2_0, b2_1, b3_0, b3_1, b3_2, v3))
noncomputable def Zb1 : Spec := Spec.mk [OSh.ro, OSh.row false (79 : Nat) (Ty.pair (Ty.int .i64) (Ty.int .i64)), OSh.box (53 : Nat) [Sh.int .i64, Sh.int .i64, Sh.sl (1 : Nat)], OSh.box (63 : Nat) [Sh.int .i64, Sh.int .i64, Sh.int .i64]] [((1 : Nat), TSh.at (Sh.snap (0 : Nat) (Ty.int .i64))), ((2 : Nat), TSh.at (Sh.snap (0 : Nat) (Ty.int .i64))), ((3 : Nat), TSh.at (Sh.int .i64)), ((4 : Nat), TSh.at (Sh.ptr (2 : Nat) (0 : Nat))), ((8 : Nat), TSh.at (Sh.ptr (3 : Nat) (0 : Nat))), ((9 : Nat), TSh.at (Sh.int .i64)), ((10 : Nat), TSh.at (Sh.int .i64))]
noncomputable def Zok : Spec := Spec.mk [OSh.ro, OSh.row false (79 : Nat) (Ty.pair (Ty.int .i64) (Ty.int .i64)), OSh.box (53 : Nat) [Sh.int .i64, Sh.int .i64, Sh.sl (1 : Nat)], OSh.box (63 : Nat) [Sh.int .i64, Sh.int .i64, Sh.int .i64]] [((3 : Nat), TSh.at (Sh.int .i64)), ((4 : Nat), TSh.at (Sh.ptr (2 : Nat) (0 : Nat))), ((8 : Nat), TSh.at (Sh.ptr (3 : Nat) (0 : Nat)))]
noncomputable def Z3N : LoopDef (Tup Z5n × OutD) := .rets Zb1 Zok (List (Int × Int) × Int × Int × Int × Int × Int × Int) ((Int × Int × Int) × List (Int × Int)) (fun k x => ZS k x.1.2.1 x.1.2.2.1.1 x.1.2.2.1.2.1 x.1.2.2.2.1.1 x.1.2.2.2.1.2.1 x.1.2.2.2.1.2.2.1 x.2.1 x.2.2.1 x.2.2.2.1 x.2.2.2.2.2.2.1 x.2.2.2.2.2.2.2.1) (fun z => (((), z.1, (z.2.1, z.2.2.1, (), ()), (z.2.2.2.1, z.2.2.2.2.1, z.2.2.2.2.2.1, ()), ()), (z.2.2.2.2.2.2, (), (), ()))) (fun y => (y.1.2.1, y.1.2.2.1.1, y.1.2.2.1.2.1, y.1.2.2.2.1.1, y.1.2.2.2.1.2.1, y.1.2.2.2.1.2.2.1, y.2.1)) (fun _ => rfl) Zcd Z9q ZeD
noncomputable def Zae : Nat → Int × Int × List (Int × Int) → List Int → List Int → Int → Option ((Int × Int × Int) × List (Int × Int))
 | 0, _, _, _, _ => none
 | k + 1, p0, p1, p2, p3 =>
  Option.bind (ZS k p0.2.2 p0.1 p0.2.1 (0 : Int) (0 : Int) (0 : Int) p1 p2 p3 (0 : Int) (0 : Int)) fun z5 => LR.on z5 (fun y5 => some (((1 : Int), Prod.fst y5.2, Prod.snd y5.2.2.2.2.2), Prod.fst y5)) fun r5 => some r5
noncomputable def Z37 : FnDef := .of Zit Z5n ((Int × Int × Int) × List (Int × Int)) (fun k x => Zae k x.1 x.2.1 x.2.2.1 x.2.2.2.1) Zcd Z9q ZeD
noncomputable def Zac : Code := Try.f126.body.getD .skip
noncomputable def Z4a : Ctx (Tup Z5n × OutD) := { T := T, G := [(187, Z4v.E), (188, Z2D.E), (189, Z36.E)], mvs := [], no := 1, n := 87, res := resOf T Zit Z5n Try.f126.results.toList, loops := [(0, Z3N.E)], regs := [], conds := [] }
theorem Zih (k : Nat) : EnvOK Try.prog k Z4a.G := (EnvOK.cons (ZpI k) (EnvOK.cons (ZjV k) (EnvOK.cons (Zuy k) (EnvOK.nil mixed))))
noncomputable def Z7M : Code := (findLoop 0 Zac).getD .skip
theorem Zo0 (k : Nat) (x : Zb1.D) : Z3N.lp (k + 1) x = loopK Z4a Z3N 0 Z7M k x := by kernel_rfl
theorem Zo5 (k : Nat) : LOK Try.prog Z4a k Z7M := LOK.by [] (by kernel_rfl) AllOK.nil
theorem Zoq (x : Zb1.D) : Z3N.lp 0 x = none := by kernel_rfl
theorem ZmQ (k : Nat) : EOK Try.prog Z4a k Z3N.E (.block 0 (.loop Z7M)) := Zp T_ok Zih Zoq Zo0 Zo5 k
theorem ZuI (k : Nat) (x : Tup Z37.ps) : Z37.f (k + 1) x = fnK Z37 Z4a Zac k x := by kernel_rfl
theorem ZtI (x : Tup Z37.ps) : Z37.f 0 x = none := by kernel_rfl
theorem ZtC (k : Nat) : LOK Try.prog Z4a k Zac := LOK.by [(Z3N.E, .block 0 (.loop Z7M))] (by kernel_rfl) (AllOK.cons (ZmQ k) AllOK.nil)
theorem ZuD (k : Nat) : SoundAt Try.prog k 126 Z37.E := @Ze Try.prog Z37 Z4a 126 Try.f126 Zac (by kernel_rfl) (by kernel_rfl) (by kernel_rfl) Try.func126 (by kernel_rfl) (by kernel_rfl) (by kernel_rfl) T_ok Zih ZtC ZtI ZuI k
noncomputable def Zax : List PK := [PK.mk Ty.bool false none false none]
noncomputable def ZnY : List PK := [PK.mk (Ty.pair (Ty.int .i64) (Ty.pair (Ty.int .i64) (Ty.slice (79 : Nat) (Ty.pair (Ty.int .i64) (Ty.int .i64))))) true none false none]
noncomputable def ZkP (r : Bool) : Tup Zax × OutD := ((r, ()), none)
noncomputable def ZkT : Tup Zax × OutD → Option (Bool)
 | (a, none) => some (a.1)
 | _ => none
theorem ZsE : ∀ b r, ZkT b = some r → ZkP r = b := by
 rintro ⟨a, o⟩ r h
 cases o with
 | none => injection h with h; subst h; rfl
 | some _ => cases h
noncomputable def Z8i : Nat → Int × Int × List (Int × Int) → Option Bool
 | 0, _ => none
 | k + 1, p0 =>
  if decide (Prod.fst p0 ≥ (1 : Int)) = true then if decide (Prod.fst p0 ≤ (10 : Int)) = true then if decide (Prod.fst p0.2 ≥ (1 : Int)) = true then if decide (Prod.fst p0.2 ≤ (9 : Int)) = true then if decide ((↑(List.length p0.2.2) : Int) = wrap64 (Prod.fst p0 * Prod.fst p0.2)) = true then Option.bind (Za4 k p0.2.2) fun z0 => some z0 else some false else some false else some false else some false else some false
noncomputable def Z2O : FnDef := .of ZnY Zax (Bool) (fun k x => Z8i k x.1) ZkP ZkT ZsE
noncomputable def ZgK : Code := Try.f132.body.getD .skip
noncomputable def Zd0 : Ctx (Tup Zax × OutD) := { T := T, G := [(192, Z30.E)], mvs := [], no := 0, n := 37, res := resOf T ZnY Zax Try.f132.results.toList, loops := [], regs := [], conds := [] }
theorem Zzj (k : Nat) : EnvOK Try.prog k Zd0.G := (EnvOK.cons (ZuY k) (EnvOK.nil mixed))
theorem Zz7 (k : Nat) (x : Tup Z2O.ps) : Z2O.f (k + 1) x = fnK Z2O Zd0 ZgK k x := by kernel_rfl
theorem ZyL (x : Tup Z2O.ps) : Z2O.f 0 x = none := by kernel_rfl
theorem ZyV (k : Nat) : LOK Try.prog Zd0 k ZgK := LOK.by [] (by kernel_rfl) AllOK.nil
theorem Zgr (k : Nat) : SoundAt Try.prog k 132 Z2O.E := @Ze Try.prog Z2O Zd0 132 Try.f132 ZgK (by kernel_rfl) (by kernel_rfl) (by kernel_rfl) Try.func132 (by kernel_rfl) (by kernel_rfl) (by kernel_rfl) T_ok Zzj ZyV ZyL Zz7 k
noncomputable def Z9a : List PK := [PK.mk Ty.bool false none false none]
noncomputable def ZpK : List PK := [PK.mk (Ty.pair (Ty.int .i64) (Ty.pair (Ty.int .i64) (Ty.slice (79 : Nat) (Ty.pair (Ty.int .i64) (Ty.int .i64))))) true none false none]
noncomputable def Zgu (r : Bool) : Tup Z9a × OutD := ((r, ()), none)
noncomputable def Zgs : Tup Z9a × OutD → Option (Bool)
 | (a, none) => some (a.1)
 | _ => none
theorem Zil : ∀ b r, Zgs b = some r → Zgu r = b := by
 rintro ⟨a, o⟩ r h
 cases o with
 | none => injection h with h; subst h; rfl
 | some _ => cases h
noncomputable def Z73 : Nat → List (Int × Int) → Int → Int → Option (LR Unit Bool)
 | 0, _, _, _ => none
 | k + 1, v27, v28, v29 =>
  if decide (v29 < v28) = true then if (0 : Int) ≤ v29 then if v29 < (↑(List.length v27) : Int) then Option.bind (ZdX k (Prod.fst (List.getD v27 (Int.toNat v29) ((0 : Int), (0 : Int))), Prod.snd (List.getD v27 (Int.toNat v29) ((0 : Int), (0 : Int))))) fun z2 => if (!z2) = true then some (LR.ret false) else Z73 k v27 v28 (wrap64 (v29 + (1 : Int))) else none else none else some (LR.go ())
noncomputable def Zeo : Spec := Spec.mk [OSh.ro] [((27 : Nat), TSh.at (Sh.snap (0 : Nat) (Ty.pair (Ty.int .i64) (Ty.int .i64)))), ((28 : Nat), TSh.at (Sh.int .i64)), ((29 : Nat), TSh.at (Sh.int .i64))]
noncomputable def ZwG : Spec := Spec.mk [OSh.ro] []
noncomputable def Z67 : LoopDef (Tup Z9a × OutD) := .rets Zeo ZwG (Unit) (Bool) (fun k x => Z73 k x.2.1 x.2.2.1 x.2.2.2.1) (fun z => (((), ()), (()))) (fun y => ()) (fun _ => rfl) Zgu Zgs Zil
noncomputable def Z7v : Nat → Int × Int × List (Int × Int) → Option Bool
 | 0, _ => none
 | k + 1, p0 =>
  Option.bind (Z21 k p0.1 (1 : Int) (10 : Int)) fun z0 => if (!z0) = true then some false else Option.bind (Z21 k p0.2.1 (1 : Int) (9 : Int)) fun z1 => if (!z1) = true then some false else if decide ((↑(List.length p0.2.2) : Int) ≠ wrap64 (Prod.fst p0 * Prod.fst p0.2)) = true then some false else Option.bind (Z73 k p0.2.2 (↑(List.length p0.2.2) : Int) (0 : Int)) fun z3 => LR.on z3 (fun y3 => some true) fun r3 => some r3
noncomputable def Z2K : FnDef := .of ZpK Z9a (Bool) (fun k x => Z7v k x.1) Zgu Zgs Zil
noncomputable def ZdU : Code := Try.f133.body.getD .skip
noncomputable def Z7u : Ctx (Tup Z9a × OutD) := { T := T, G := [(96, Z2t.E), (193, Z5C.E)], mvs := [], no := 0, n := 37, res := resOf T ZpK Z9a Try.f133.results.toList, loops := [(0, Z67.E)], regs := [], conds := [] }
theorem ZpQ (k : Nat) : EnvOK Try.prog k Z7u.G := (EnvOK.cons (Z9T k) (EnvOK.cons (ZAB k) (EnvOK.nil mixed)))
noncomputable def ZaZ : Code := (findLoop 0 ZdU).getD .skip
theorem Zwk (k : Nat) (x : Zeo.D) : Z67.lp (k + 1) x = loopK Z7u Z67 0 ZaZ k x := by kernel_rfl
theorem ZwD (k : Nat) : LOK Try.prog Z7u k ZaZ := LOK.by [] (by kernel_rfl) AllOK.nil
theorem ZvN (x : Zeo.D) : Z67.lp 0 x = none := by kernel_rfl
theorem Zui (k : Nat) : EOK Try.prog Z7u k Z67.E (.block 0 (.loop ZaZ)) := Zp T_ok ZpQ ZvN Zwk ZwD k
theorem ZAC (k : Nat) (x : Tup Z2K.ps) : Z2K.f (k + 1) x = fnK Z2K Z7u ZdU k x := by kernel_rfl
theorem ZA2 (x : Tup Z2K.ps) : Z2K.f 0 x = none := by kernel_rfl
theorem ZzU (k : Nat) : LOK Try.prog Z7u k ZdU := LOK.by [(Z67.E, .block 0 (.loop ZaZ))] (by kernel_rfl) (AllOK.cons (Zui k) AllOK.nil)
theorem ZdM (k : Nat) : SoundAt Try.prog k 133 Z2K.E := @Ze Try.prog Z2K Z7u 133 Try.f133 ZdU (by kernel_rfl) (by kernel_rfl) (by kernel_rfl) Try.func133 (by kernel_rfl) (by kernel_rfl) (by kernel_rfl) T_ok ZpQ ZzU ZA2 ZAC k
noncomputable def Z49 : List PK := [PK.mk (Ty.slice (77 : Nat) (Ty.pair (Ty.int .i64) (Ty.pair (Ty.int .i64) (Ty.int .i64)))) false none false none]
noncomputable def Zii : List PK := [PK.mk (Ty.pair (Ty.int .i64) (Ty.pair (Ty.int .i64) (Ty.slice (79 : Nat) (Ty.pair (Ty.int .i64) (Ty.int .i64))))) true none false none]
noncomputable def Zhe (r : List (Int × Int × Int)) : Tup Z49 × OutD := ((r, ()), none)
noncomputable def Zh4 : Tup Z49 × OutD → Option (List (Int × Int × Int))
 | (a, none) => some (a.1)
 | _ => none
theorem Zna : ∀ b r, Zh4 b = some r → Zhe r = b := by
 rintro ⟨a, o⟩ r h
 cases o with
 | none => injection h with h; subst h; rfl
 | some _ => cases h
noncomputable def Z1A : Nat → Int → Int → List (Int × Int) → List (Int × Int × Int) → Int → Int → Int → Int → List (Int × Int) → Int → Int → Option (Int × Int × List (Int × Int) × List (Int × Int × Int) × List (Int × Int) × Int × Int)
 | 0, _, _, _, _, _, _, _, _, _, _, _ => none
 | k + 1, b1_0, b1_1, b1_2, o2, b3_0, b3_1, v4, v6, v8, v9, v10 =>
  if decide (v6 ≤ (3 : Int)) = true then Option.bind (Zbn k (b3_0, b3_1) v6) fun z0 => if z0 = true then if b1_1 = (0 : Int) then none else if b1_1 = (0 : Int) then none else if List.length o2 + List.length [(v6, wrap64 (Int.tdiv v4 b1_1), Int.tmod v4 b1_1)] ≤ (140737488355328 / 24 : Nat) then Z1A k b1_0 b1_1 b1_2 (o2 ++ [(v6, wrap64 (Int.tdiv v4 b1_1), Int.tmod v4 b1_1)]) b3_0 b3_1 v4 (wrap64 (v6 + (1 : Int))) v8 v9 v10 else none else Z1A k b1_0 b1_1 b1_2 o2 b3_0 b3_1 v4 (wrap64 (v6 + (1 : Int))) v8 v9 v10 else some (b1_0, b1_1, b1_2, o2, v8, v9, v10)
noncomputable def Zbj : Spec := Spec.mk [OSh.ro, OSh.box (53 : Nat) [Sh.int .i64, Sh.int .i64, Sh.snap (0 : Nat) (Ty.pair (Ty.int .i64) (Ty.int .i64))], OSh.row true (77 : Nat) (Ty.pair (Ty.int .i64) (Ty.pair (Ty.int .i64) (Ty.int .i64))), OSh.box (79 : Nat) [Sh.int .i64, Sh.int .i64]] [((1 : Nat), TSh.at (Sh.ptr (1 : Nat) (0 : Nat))), ((3 : Nat), TSh.at (Sh.sl (2 : Nat))), ((4 : Nat), TSh.at (Sh.int .i64)), ((5 : Nat), TSh.at (Sh.ptr (3 : Nat) (0 : Nat))), ((6 : Nat), TSh.at (Sh.int .i64)), ((8 : Nat), TSh.at (Sh.snap (0 : Nat) (Ty.pair (Ty.int .i64) (Ty.int .i64)))), ((9 : Nat), TSh.at (Sh.int .i64)), ((10 : Nat), TSh.at (Sh.int .i64))]
noncomputable def ZoF : Spec := Spec.mk [OSh.ro, OSh.box (53 : Nat) [Sh.int .i64, Sh.int .i64, Sh.snap (0 : Nat) (Ty.pair (Ty.int .i64) (Ty.int .i64))], OSh.row true (77 : Nat) (Ty.pair (Ty.int .i64) (Ty.pair (Ty.int .i64) (Ty.int .i64)))] [((1 : Nat), TSh.at (Sh.ptr (1 : Nat) (0 : Nat))), ((3 : Nat), TSh.at (Sh.sl (2 : Nat))), ((8 : Nat), TSh.at (Sh.snap (0 : Nat) (Ty.pair (Ty.int .i64) (Ty.int .i64)))), ((9 : Nat), TSh.at (Sh.int .i64)), ((10 : Nat), TSh.at (Sh.int .i64))]
noncomputable def Z3O : LoopDef (Tup Z49 × OutD) := .plain Zbj ZoF (Int × Int × List (Int × Int) × List (Int × Int × Int) × List (Int × Int) × Int × Int) (fun k x => Z1A k x.1.2.1.1 x.1.2.1.2.1 x.1.2.1.2.2.1 x.1.2.2.1 x.1.2.2.2.1.1 x.1.2.2.2.1.2.1 x.2.2.2.1 x.2.2.2.2.2.1 x.2.2.2.2.2.2.1 x.2.2.2.2.2.2.2.1 x.2.2.2.2.2.2.2.2.1) (fun z => (((), (z.1, z.2.1, z.2.2.1, ()), z.2.2.2.1, ()), ((), (), z.2.2.2.2.1, z.2.2.2.2.2.1, z.2.2.2.2.2.2, ()))) (fun y => (y.1.2.1.1, y.1.2.1.2.1, y.1.2.1.2.2.1, y.1.2.2.1, y.2.2.2.1, y.2.2.2.2.1, y.2.2.2.2.2.1)) (fun _ => rfl)
noncomputable def Z3e : Nat → Int → Int → List (Int × Int) → List (Int × Int × Int) → List (Int × Int) → Int → Int → Option (List (Int × Int × Int))
 | 0, _, _, _, _, _, _, _ => none
 | k + 1, b1_0, b1_1, b1_2, o2, v8, v9, v10 =>
  if decide (v10 < v9) = true then if (0 : Int) ≤ v10 then if v10 < (↑(List.length v8) : Int) then Option.bind (Z1A k b1_0 b1_1 b1_2 o2 (Prod.fst (List.getD v8 (Int.toNat v10) ((0 : Int), (0 : Int)))) (Prod.snd (List.getD v8 (Int.toNat v10) ((0 : Int), (0 : Int)))) v10 (1 : Int) v8 v9 v10) fun z1 => Z3e k z1.1 z1.2.1 z1.2.2.1 z1.2.2.2.1 z1.2.2.2.2.1 z1.2.2.2.2.2.1 (wrap64 (Prod.snd z1.2.2.2.2.2 + (1 : Int))) else none else none else some o2
noncomputable def Zb2 : Spec := Spec.mk [OSh.ro, OSh.box (53 : Nat) [Sh.int .i64, Sh.int .i64, Sh.snap (0 : Nat) (Ty.pair (Ty.int .i64) (Ty.int .i64))], OSh.row true (77 : Nat) (Ty.pair (Ty.int .i64) (Ty.pair (Ty.int .i64) (Ty.int .i64)))] [((1 : Nat), TSh.at (Sh.ptr (1 : Nat) (0 : Nat))), ((3 : Nat), TSh.at (Sh.sl (2 : Nat))), ((8 : Nat), TSh.at (Sh.snap (0 : Nat) (Ty.pair (Ty.int .i64) (Ty.int .i64)))), ((9 : Nat), TSh.at (Sh.int .i64)), ((10 : Nat), TSh.at (Sh.int .i64))]
noncomputable def ZoJ : Spec := Spec.mk [OSh.ro, OSh.row true (77 : Nat) (Ty.pair (Ty.int .i64) (Ty.pair (Ty.int .i64) (Ty.int .i64)))] [((3 : Nat), TSh.at (Sh.sl (1 : Nat)))]
noncomputable def Z40 : LoopDef (Tup Z49 × OutD) := .plain Zb2 ZoJ (List (Int × Int × Int)) (fun k x => Z3e k x.1.2.1.1 x.1.2.1.2.1 x.1.2.1.2.2.1 x.1.2.2.1 x.2.2.2.1 x.2.2.2.2.1 x.2.2.2.2.2.1) (fun z => (((), z, ()), ((), ()))) (fun y => (y.1.2.1)) (fun _ => rfl)
noncomputable def Z31 : Nat → Int × Int × List (Int × Int) → Option (List (Int × Int × Int))
 | 0, _ => none
 | k + 1, p0 =>
  Option.bind (Z3e k p0.1 p0.2.1 p0.2.2 [] p0.2.2 (↑(List.length p0.2.2) : Int) (0 : Int)) fun z2 => some z2
noncomputable def Z1a : FnDef := .of Zii Z49 (List (Int × Int × Int)) (fun k x => Z31 k x.1) Zhe Zh4 Zna
noncomputable def Z7E : Code := Try.f148.body.getD .skip
noncomputable def Z1M : Ctx (Tup Z49 × OutD) := { T := T, G := [(182, Z4w.E)], mvs := [], no := 0, n := 37, res := resOf T Zii Z49 Try.f148.results.toList, loops := [(2, Z3O.E), (0, Z40.E)], regs := [], conds := [] }
theorem Zdo (k : Nat) : EnvOK Try.prog k Z1M.G := (EnvOK.cons (ZpP k) (EnvOK.nil mixed))
noncomputable def Z84 : Code := (findLoop 2 Z7E).getD .skip
theorem ZoS (k : Nat) (x : Zbj.D) : Z3O.lp (k + 1) x = loopK Z1M Z3O 2 Z84 k x := by kernel_rfl
theorem Zp5 (k : Nat) : LOK Try.prog Z1M k Z84 := LOK.by [] (by kernel_rfl) AllOK.nil
theorem ZoO (x : Zbj.D) : Z3O.lp 0 x = none := by kernel_rfl
theorem ZnM (k : Nat) : EOK Try.prog Z1M k Z3O.E (.block 2 (.loop Z84)) := Zp T_ok Zdo ZoO ZoS Zp5 k
noncomputable def Z7N : Code := (findLoop 0 Z7E).getD .skip
theorem ZoY (k : Nat) (x : Zb2.D) : Z40.lp (k + 1) x = loopK Z1M Z40 0 Z7N k x := by kernel_rfl
theorem Zoy (k : Nat) : LOK Try.prog Z1M k Z7N := LOK.by [(Z3O.E, .block 2 (.loop Z84))] (by kernel_rfl) (AllOK.cons (ZnM k) AllOK.nil)
theorem ZoB (x : Zb2.D) : Z40.lp 0 x = none := by kernel_rfl
theorem Zmu (k : Nat) : EOK Try.prog Z1M k Z40.E (.block 0 (.loop Z7N)) := Zp T_ok Zdo ZoB ZoY Zoy k
theorem ZuG (k : Nat) (x : Tup Z1a.ps) : Z1a.f (k + 1) x = fnK Z1a Z1M Z7E k x := by kernel_rfl
theorem ZuH (x : Tup Z1a.ps) : Z1a.f 0 x = none := by kernel_rfl
theorem ZuW (k : Nat) : LOK Try.prog Z1M k Z7E := LOK.by [(Z40.E, .block 0 (.loop Z7N))] (by kernel_rfl) (AllOK.cons (Zmu k) AllOK.nil)
theorem Z7z (k : Nat) : SoundAt Try.prog k 148 Z1a.E := @Ze Try.prog Z1a Z1M 148 Try.f148 Z7E (by kernel_rfl) (by kernel_rfl) (by kernel_rfl) Try.func148 (by kernel_rfl) (by kernel_rfl) (by kernel_rfl) T_ok Zdo ZuW ZuH ZuG k
noncomputable def Z8v : List PK := [PK.mk Ty.bool false none false none]
noncomputable def ZjN : List PK := [PK.mk (Ty.pair (Ty.slice (5 : Nat) (Ty.int .u8)) (Ty.pair (Ty.int .i64) (Ty.int .u64))) false none false (some (114 : Nat)), PK.mk (Ty.int .i64) false none false none]
noncomputable def Zif (r : Bool × Int × Int) : Tup Z8v × OutD := ((r.1, ()), some ⟨Ty.pair (Ty.slice (5 : Nat) (Ty.int .u8)) (Ty.pair (Ty.int .i64) (Ty.int .u64)), [([], r.2)]⟩)
noncomputable def Zdf : Tup Z8v × OutD → Option (Bool × Int × Int)
 | (a, some ⟨u, ys⟩) => if h : u = Ty.pair (Ty.slice (5 : Nat) (Ty.int .u8)) (Ty.pair (Ty.int .i64) (Ty.int .u64)) then (match castU h ys with
  | [([], y)] => some (a.1, y)
  | _ => none) else none
 | _ => none
theorem Zo2 : ∀ b r, Zdf b = some r → Zif r = b := by
 rintro ⟨a, o⟩ r h
 cases o with
 | none => cases h
 | some s =>
  obtain ⟨u, ys⟩ := s
  simp only [Zdf] at h
  split at h
  ·rename_i hu
   subst hu
   match ys, h with
   | [], h => cases (show (none : Option _) = some r from h)
   | [([], y)], h => injection (show some _ = some r from h) with h; subst h; rfl
   | [(_ :: _, y)], h => cases (show (none : Option _) = some r from h)
   | (h1, _) :: _ :: _, h => cases h1 <;> cases (show (none : Option _) = some r from h)
  ·cases h
noncomputable def Z19 : Nat → List Int × Int × Int → Int → Option (Bool × Int × Int)
 | 0, _, _ => none
 | k + 1, p0, p1 =>
  Option.bind (Z2 k (Prod.fst p0, Prod.fst p0.2, Prod.snd p0.2) p1) fun z0 => some (decide (Prod.fst z0 = (0 : Int)), Prod.fst z0.2, Prod.snd z0.2)
noncomputable def Z1v : FnDef := .of ZjN Z8v (Bool × Int × Int) (fun k x => Z19 k x.1 x.2.1) Zif Zdf Zo2
noncomputable def Zek : Code := Try.f150.body.getD .skip
noncomputable def ZaN : Ctx (Tup Z8v × OutD) := { T := T, G := [(111, ZI.E)], mvs := [], no := 2, n := 9, res := resOf T ZjN Z8v Try.f150.results.toList, loops := [], regs := [], conds := [] }
theorem Zwo (k : Nat) : EnvOK Try.prog k ZaN.G := (EnvOK.cons (Z32 k) (EnvOK.nil mixed))
theorem Zwc (k : Nat) (x : Tup Z1v.ps) : Z1v.f (k + 1) x = fnK Z1v ZaN Zek k x := by kernel_rfl
theorem Zxb (x : Tup Z1v.ps) : Z1v.f 0 x = none := by kernel_rfl
theorem ZwB (k : Nat) : LOK Try.prog ZaN k Zek := LOK.by [] (by kernel_rfl) AllOK.nil
theorem Zbl (k : Nat) : SoundAt Try.prog k 150 Z1v.E := @Ze Try.prog Z1v ZaN 150 Try.f150 Zek (by kernel_rfl) (by kernel_rfl) (by kernel_rfl) Try.func150 (by kernel_rfl) (by kernel_rfl) (by kernel_rfl) T_ok Zwo ZwB Zxb Zwc k
noncomputable def Zav : List PK := [PK.mk Ty.bool false none false none]
noncomputable def Zn8 : List PK := [PK.mk (Ty.pair (Ty.int .i64) (Ty.int .i64)) true none false none, PK.mk (Ty.int .i64) false none false none]
noncomputable def ZkX (r : Bool) : Tup Zav × OutD := ((r, ()), none)
noncomputable def ZkS : Tup Zav × OutD → Option (Bool)
 | (a, none) => some (a.1)
 | _ => none
theorem Ztn : ∀ b r, ZkS b = some r → ZkX r = b := by
 rintro ⟨a, o⟩ r h
 cases o with
 | none => injection h with h; subst h; rfl
 | some _ => cases h
noncomputable def Zam : Nat → Int × Int → Int → Option Bool
 | 0, _, _ => none
 | k + 1, p0, p1 =>
  if decide (p1 = (1 : Int)) = true then Option.bind (Z2J k (Prod.fst p0, Prod.snd p0)) fun z0 => some z0 else if decide (p1 = (2 : Int)) = true then some true else if decide (p1 = (3 : Int)) = true then Option.bind (Z2J k (Prod.fst p0, Prod.snd p0)) fun z1 => if z1 = true then some true else if decide (Prod.fst p0 = (1 : Int)) = true then some true else some (decide (Prod.fst p0 = (2 : Int))) else some false
noncomputable def Z3T : FnDef := .of Zn8 Zav (Bool) (fun k x => Zam k x.1 x.2.1) ZkX ZkS Ztn
noncomputable def ZgF : Code := Try.f181.body.getD .skip
noncomputable def ZcT : Ctx (Tup Zav × OutD) := { T := T, G := [(188, Z2D.E)], mvs := [], no := 0, n := 26, res := resOf T Zn8 Zav Try.f181.results.toList, loops := [], regs := [], conds := [] }
theorem ZyD (k : Nat) : EnvOK Try.prog k ZcT.G := (EnvOK.cons (ZjV k) (EnvOK.nil mixed))
theorem Zz4 (k : Nat) (x : Tup Z3T.ps) : Z3T.f (k + 1) x = fnK Z3T ZcT ZgF k x := by kernel_rfl
theorem ZyG (x : Tup Z3T.ps) : Z3T.f 0 x = none := by kernel_rfl
theorem ZyE (k : Nat) : LOK Try.prog ZcT k ZgF := LOK.by [] (by kernel_rfl) AllOK.nil
theorem ZmG (k : Nat) : SoundAt Try.prog k 181 Z3T.E := @Ze Try.prog Z3T ZcT 181 Try.f181 ZgF (by kernel_rfl) (by kernel_rfl) (by kernel_rfl) Try.func181 (by kernel_rfl) (by kernel_rfl) (by kernel_rfl) T_ok ZyD ZyE ZyG Zz4 k
noncomputable def Z3I : List PK := [PK.mk (Ty.pair (Ty.int .i64) (Ty.pair (Ty.int .i64) (Ty.int .i64))) true none false none, PK.mk (Ty.pair (Ty.int .i64) (Ty.pair (Ty.int .i64) (Ty.slice (79 : Nat) (Ty.pair (Ty.int .i64) (Ty.int .i64))))) true none false none]
noncomputable def Zvk : List PK := [PK.mk (Ty.pair (Ty.int .i64) (Ty.pair (Ty.int .i64) (Ty.slice (79 : Nat) (Ty.pair (Ty.int .i64) (Ty.int .i64))))) true none false none, PK.mk (Ty.slice (3 : Nat) (Ty.int .i64)) false none false none, PK.mk (Ty.slice (77 : Nat) (Ty.pair (Ty.int .i64) (Ty.pair (Ty.int .i64) (Ty.int .i64)))) false none false none, PK.mk (Ty.int .i64) false none false none]
noncomputable def ZjK (r : (Int × Int × Int) × Int × Int × List (Int × Int)) : Tup Z3I × OutD := ((r.1, r.2, ()), none)
noncomputable def Zjy : Tup Z3I × OutD → Option ((Int × Int × Int) × Int × Int × List (Int × Int))
 | (a, none) => some (a.1, a.2.1)
 | _ => none
theorem Zlk : ∀ b r, Zjy b = some r → ZjK r = b := by
 rintro ⟨a, o⟩ r h
 cases o with
 | none => injection h with h; subst h; rfl
 | some _ => cases h
noncomputable def Z8e : Nat → Int → Int → Int → Int → Int → List (Int × Int) → Int → Int → List (Int × Int) → Int → Int → Option (Int × Int × Int × Int × Int × List (Int × Int)) := fun k b1_0 b1_1 b1_2 b2_0 b2_1 o3 b4_0 b4_1 o5 v3 v12 =>
    some ((3 : Int), v12, v3, b4_0, b4_1, o5)
noncomputable def ZbY : Nat → Int → Int → Int → Int → Int → List (Int × Int) → Int → Int → List (Int × Int) → Int → Int → Option (List (Int × Int × Int × Int × Int × List (Int × Int))) := fun k b1_0 b1_1 b1_2 b2_0 b2_1 o3 b4_0 b4_1 o5 v3 v12 =>
    joinL (some [((3 : Int), v12, v3, b4_0, b4_1, o5)]) (some [((3 : Int), v12, v3, b4_0, b4_1, o5)])
noncomputable def Zli : Spec := Spec.mk [OSh.ro, OSh.box (63 : Nat) [Sh.int .i64, Sh.int .i64, Sh.int .i64], OSh.box (53 : Nat) [Sh.int .i64, Sh.int .i64, Sh.sl (3 : Nat)], OSh.row true (79 : Nat) (Ty.pair (Ty.int .i64) (Ty.int .i64)), OSh.box (53 : Nat) [Sh.int .i64, Sh.int .i64, Sh.sl (5 : Nat)], OSh.row true (79 : Nat) (Ty.pair (Ty.int .i64) (Ty.int .i64))] [((3 : Nat), TSh.at (Sh.int .i64)), ((8 : Nat), TSh.at (Sh.ptr (1 : Nat) (0 : Nat))), ((9 : Nat), TSh.at (Sh.ptr (2 : Nat) (0 : Nat))), ((10 : Nat), TSh.at (Sh.ptr (4 : Nat) (0 : Nat))), ((12 : Nat), TSh.at (Sh.int .i64))]
noncomputable def ZxK : Spec := Spec.mk [OSh.ro, OSh.box (63 : Nat) [Sh.int .i64, Sh.int .i64, Sh.int .i64], OSh.box (53 : Nat) [Sh.int .i64, Sh.int .i64, Sh.sl (3 : Nat)], OSh.row true (79 : Nat) (Ty.pair (Ty.int .i64) (Ty.int .i64))] [((8 : Nat), TSh.at (Sh.ptr (1 : Nat) (0 : Nat))), ((9 : Nat), TSh.at (Sh.ptr (2 : Nat) (0 : Nat)))]
noncomputable def Z7m : LoopDef (Tup Z3I × OutD) := .plain Zli ZxK (Int × Int × Int × Int × Int × List (Int × Int)) (fun k x => Z8e k x.1.2.1.1 x.1.2.1.2.1 x.1.2.1.2.2.1 x.1.2.2.1.1 x.1.2.2.1.2.1 x.1.2.2.2.1 x.1.2.2.2.2.1.1 x.1.2.2.2.2.1.2.1 x.1.2.2.2.2.2.1 x.2.1 x.2.2.2.2.2.1) (fun z => (((), (z.1, z.2.1, z.2.2.1, ()), (z.2.2.2.1, z.2.2.2.2.1, (), ()), z.2.2.2.2.2, ()), ((), (), ()))) (fun y => (y.1.2.1.1, y.1.2.1.2.1, y.1.2.1.2.2.1, y.1.2.2.1.1, y.1.2.2.1.2.1, y.1.2.2.2.1)) (fun _ => rfl)
theorem Zyx (k : Nat) (b1_0 : Int) (b1_1 : Int) (b1_2 : Int) (b2_0 : Int) (b2_1 : Int) (o3 : List (Int × Int)) (b4_0 : Int) (b4_1 : Int) (o5 : List (Int × Int)) (v3 : Int) (v12 : Int) : ZbY k b1_0 b1_1 b1_2 b2_0 b2_1 o3 b4_0 b4_1 o5 v3 v12 = repl 2 (Z8e k b1_0 b1_1 b1_2 b2_0 b2_1 o3 b4_0 b4_1 o5 v3 v12) := by
 first
 | (simp only [ZbY, Z8e, Zb, Zg, Zc, Za, Z9, Z8, if_true]; done)
 | (simp only [ZbY, Z8e, Zb, Zg, Zc, Za, Z9, Z8, if_true]; simp only [Z4y, Z4u, Z7o, Z8]; simp only [Z9c]; exact Z5J ⟨fun h => by simp only [h, and_self], fun h => by simp only [h, and_self]⟩)
noncomputable def Z72 : Nat → Int → Int → Int → Int → Int → List (Int × Int) → Int → Int → List (Int × Int) → Int → Int → Option (Int × Int × Int × Int × Int × List (Int × Int)) := fun k b1_0 b1_1 b1_2 b2_0 b2_1 o3 b4_0 b4_1 o5 v3 v12 =>
    some ((2 : Int), v12, v3, b4_0, b4_1, o5)
noncomputable def ZaS : Nat → Int → Int → Int → Int → Int → List (Int × Int) → Int → Int → List (Int × Int) → Int → Int → Option (List (Int × Int × Int × Int × Int × List (Int × Int))) := fun k b1_0 b1_1 b1_2 b2_0 b2_1 o3 b4_0 b4_1 o5 v3 v12 =>
    joinL (some [((2 : Int), v12, v3, b4_0, b4_1, o5)]) (some [((2 : Int), v12, v3, b4_0, b4_1, o5)])
noncomputable def Zjf : Spec := Spec.mk [OSh.ro, OSh.box (63 : Nat) [Sh.int .i64, Sh.int .i64, Sh.int .i64], OSh.box (53 : Nat) [Sh.int .i64, Sh.int .i64, Sh.sl (3 : Nat)], OSh.row true (79 : Nat) (Ty.pair (Ty.int .i64) (Ty.int .i64)), OSh.box (53 : Nat) [Sh.int .i64, Sh.int .i64, Sh.sl (5 : Nat)], OSh.row true (79 : Nat) (Ty.pair (Ty.int .i64) (Ty.int .i64))] [((3 : Nat), TSh.at (Sh.int .i64)), ((8 : Nat), TSh.at (Sh.ptr (1 : Nat) (0 : Nat))), ((9 : Nat), TSh.at (Sh.ptr (2 : Nat) (0 : Nat))), ((10 : Nat), TSh.at (Sh.ptr (4 : Nat) (0 : Nat))), ((12 : Nat), TSh.at (Sh.int .i64))]
noncomputable def ZvY : Spec := Spec.mk [OSh.ro, OSh.box (63 : Nat) [Sh.int .i64, Sh.int .i64, Sh.int .i64], OSh.box (53 : Nat) [Sh.int .i64, Sh.int .i64, Sh.sl (3 : Nat)], OSh.row true (79 : Nat) (Ty.pair (Ty.int .i64) (Ty.int .i64))] [((8 : Nat), TSh.at (Sh.ptr (1 : Nat) (0 : Nat))), ((9 : Nat), TSh.at (Sh.ptr (2 : Nat) (0 : Nat)))]
noncomputable def Z6e : LoopDef (Tup Z3I × OutD) := .plain Zjf ZvY (Int × Int × Int × Int × Int × List (Int × Int)) (fun k x => Z72 k x.1.2.1.1 x.1.2.1.2.1 x.1.2.1.2.2.1 x.1.2.2.1.1 x.1.2.2.1.2.1 x.1.2.2.2.1 x.1.2.2.2.2.1.1 x.1.2.2.2.2.1.2.1 x.1.2.2.2.2.2.1 x.2.1 x.2.2.2.2.2.1) (fun z => (((), (z.1, z.2.1, z.2.2.1, ()), (z.2.2.2.1, z.2.2.2.2.1, (), ()), z.2.2.2.2.2, ()), ((), (), ()))) (fun y => (y.1.2.1.1, y.1.2.1.2.1, y.1.2.1.2.2.1, y.1.2.2.1.1, y.1.2.2.1.2.1, y.1.2.2.2.1)) (fun _ => rfl)
theorem Zx1 (k : Nat) (b1_0 : Int) (b1_1 : Int) (b1_2 : Int) (b2_0 : Int) (b2_1 : Int) (o3 : List (Int × Int)) (b4_0 : Int) (b4_1 : Int) (o5 : List (Int × Int)) (v3 : Int) (v12 : Int) : ZaS k b1_0 b1_1 b1_2 b2_0 b2_1 o3 b4_0 b4_1 o5 v3 v12 = repl 2 (Z72 k b1_0 b1_1 b1_2 b2_0 b2_1 o3 b4_0 b4_1 o5 v3 v12) := by
 first
 | (simp only [ZaS, Z72, Zb, Zg, Zc, Za, Z9, Z8, if_true]; done)
 | (simp only [ZaS, Z72, Zb, Zg, Zc, Za, Z9, Z8, if_true]; simp only [Z4y, Z4u, Z7o, Z8]; simp only [Z9c]; exact Z5J ⟨fun h => by simp only [h, and_self], fun h => by simp only [h, and_self]⟩)
noncomputable def ZbZ : Nat → Int → Int → List (Int × Int) → Int → Int → Int → Int → Int → List (Int × Int) → Int → Int → List (Int × Int) → List Int → List (Int × Int × Int) → Int → Int → Int → Bool → Option (Int × Int × List (Int × Int) × Int × Int × Int × Int × Int × List (Int × Int) × Int × Int × List (Int × Int) × List Int × List (Int × Int × Int) × Int × Int × Int) := fun k b1_0 b1_1 b1_2 b2_0 b2_1 b2_2 b3_0 b3_1 o4 b5_0 b5_1 o6 v1 v2 v3 v12 v15 v52 =>
    if v52 = true then some (b1_0, b1_1, b1_2, b2_0, b2_1, b2_2, b3_0, b3_1, o4, b5_0, b5_1, o6, v1, v2, v3, v12, wrap64 ((0 : Int) - v15)) else some (b1_0, b1_1, b1_2, b2_0, b2_1, b2_2, b3_0, b3_1, o4, b5_0, b5_1, o6, v1, v2, v3, v12, v15)
noncomputable def Zx8 : Spec := Spec.mk [OSh.ro, OSh.box (53 : Nat) [Sh.int .i64, Sh.int .i64, Sh.snap (0 : Nat) (Ty.pair (Ty.int .i64) (Ty.int .i64))], OSh.box (63 : Nat) [Sh.int .i64, Sh.int .i64, Sh.int .i64], OSh.box (53 : Nat) [Sh.int .i64, Sh.int .i64, Sh.sl (4 : Nat)], OSh.row true (79 : Nat) (Ty.pair (Ty.int .i64) (Ty.int .i64)), OSh.box (53 : Nat) [Sh.int .i64, Sh.int .i64, Sh.sl (6 : Nat)], OSh.row true (79 : Nat) (Ty.pair (Ty.int .i64) (Ty.int .i64))] [((1 : Nat), TSh.at (Sh.snap (0 : Nat) (Ty.int .i64))), ((2 : Nat), TSh.at (Sh.snap (0 : Nat) (Ty.pair (Ty.int .i64) (Ty.pair (Ty.int .i64) (Ty.int .i64))))), ((3 : Nat), TSh.at (Sh.int .i64)), ((4 : Nat), TSh.at (Sh.ptr (1 : Nat) (0 : Nat))), ((8 : Nat), TSh.at (Sh.ptr (2 : Nat) (0 : Nat))), ((9 : Nat), TSh.at (Sh.ptr (3 : Nat) (0 : Nat))), ((10 : Nat), TSh.at (Sh.ptr (5 : Nat) (0 : Nat))), ((12 : Nat), TSh.at (Sh.int .i64)), ((15 : Nat), TSh.at (Sh.int .i64)), ((52 : Nat), TSh.at Sh.bool)]
noncomputable def ZvM : Spec := Spec.mk [OSh.ro, OSh.box (53 : Nat) [Sh.int .i64, Sh.int .i64, Sh.snap (0 : Nat) (Ty.pair (Ty.int .i64) (Ty.int .i64))], OSh.box (63 : Nat) [Sh.int .i64, Sh.int .i64, Sh.int .i64], OSh.box (53 : Nat) [Sh.int .i64, Sh.int .i64, Sh.sl (4 : Nat)], OSh.row true (79 : Nat) (Ty.pair (Ty.int .i64) (Ty.int .i64)), OSh.box (53 : Nat) [Sh.int .i64, Sh.int .i64, Sh.sl (6 : Nat)], OSh.row true (79 : Nat) (Ty.pair (Ty.int .i64) (Ty.int .i64))] [((1 : Nat), TSh.at (Sh.snap (0 : Nat) (Ty.int .i64))), ((2 : Nat), TSh.at (Sh.snap (0 : Nat) (Ty.pair (Ty.int .i64) (Ty.pair (Ty.int .i64) (Ty.int .i64))))), ((3 : Nat), TSh.at (Sh.int .i64)), ((4 : Nat), TSh.at (Sh.ptr (1 : Nat) (0 : Nat))), ((8 : Nat), TSh.at (Sh.ptr (2 : Nat) (0 : Nat))), ((9 : Nat), TSh.at (Sh.ptr (3 : Nat) (0 : Nat))), ((10 : Nat), TSh.at (Sh.ptr (5 : Nat) (0 : Nat))), ((12 : Nat), TSh.at (Sh.int .i64)), ((15 : Nat), TSh.at (Sh.int .i64))]
noncomputable def Z1w : LoopDef (Tup Z3I × OutD) := .plain Zx8 ZvM (Int × Int × List (Int × Int) × Int × Int × Int × Int × Int × List (Int × Int) × Int × Int × List (Int × Int) × List Int × List (Int × Int × Int) × Int × Int × Int) (fun k x => ZbZ k x.1.2.1.1 x.1.2.1.2.1 x.1.2.1.2.2.1 x.1.2.2.1.1 x.1.2.2.1.2.1 x.1.2.2.1.2.2.1 x.1.2.2.2.1.1 x.1.2.2.2.1.2.1 x.1.2.2.2.2.1 x.1.2.2.2.2.2.1.1 x.1.2.2.2.2.2.1.2.1 x.1.2.2.2.2.2.2.1 x.2.1 x.2.2.1 x.2.2.2.1 x.2.2.2.2.2.2.2.2.1 x.2.2.2.2.2.2.2.2.2.1 x.2.2.2.2.2.2.2.2.2.2.1) (fun z => (((), (z.1, z.2.1, z.2.2.1, ()), (z.2.2.2.1, z.2.2.2.2.1, z.2.2.2.2.2.1, ()), (z.2.2.2.2.2.2.1, z.2.2.2.2.2.2.2.1, (), ()), z.2.2.2.2.2.2.2.2.1, (z.2.2.2.2.2.2.2.2.2.1, z.2.2.2.2.2.2.2.2.2.2.1, (), ()), z.2.2.2.2.2.2.2.2.2.2.2.1, ()), (z.2.2.2.2.2.2.2.2.2.2.2.2.1, z.2.2.2.2.2.2.2.2.2.2.2.2.2.1, z.2.2.2.2.2.2.2.2.2.2.2.2.2.2.1, (), (), (), (), z.2.2.2.2.2.2.2.2.2.2.2.2.2.2.2.1, z.2.2.2.2.2.2.2.2.2.2.2.2.2.2.2.2, ()))) (fun y => (y.1.2.1.1, y.1.2.1.2.1, y.1.2.1.2.2.1, y.1.2.2.1.1, y.1.2.2.1.2.1, y.1.2.2.1.2.2.1, y.1.2.2.2.1.1, y.1.2.2.2.1.2.1, y.1.2.2.2.2.1, y.1.2.2.2.2.2.1.1, y.1.2.2.2.2.2.1.2.1, y.1.2.2.2.2.2.2.1, y.2.1, y.2.2.1, y.2.2.2.1, y.2.2.2.2.2.2.2.2.1, y.2.2.2.2.2.2.2.2.2.1)) (fun _ => rfl)
noncomputable def Z7t : Nat → Int → Int → List (Int × Int) → Int → Int → Int → Int → Int → List (Int × Int) → Int → Int → List (Int × Int) → List Int → List (Int × Int × Int) → Int → Int → Int → List (Int × Int × Int) → Int → Int → Option (Int × Int × List (Int × Int) × Int × Int × Int × Int × Int × List (Int × Int) × Int × Int × List (Int × Int) × List Int × List (Int × Int × Int) × Int × Int × Int)
 | 0, _, _, _, _, _, _, _, _, _, _, _, _, _, _, _, _, _, _, _, _ => none
 | k + 1, b1_0, b1_1, b1_2, b2_0, b2_1, b2_2, b3_0, b3_1, o4, b5_0, b5_1, o6, v1, v2, v3, v12, v15, v64, v65, v66 =>
  if decide (v66 < v65) = true then if (0 : Int) ≤ v66 then if v66 < (↑(List.length v64) : Int) then if decide (Prod.fst (List.getD v64 (Int.toNat v66) ((0 : Int), (0 : Int), (0 : Int))) = (1 : Int)) = true then if (0 : Int) ≤ wrap64 (wrap64 (Prod.fst (Prod.snd (List.getD v64 (Int.toNat v66) ((0 : Int), (0 : Int), (0 : Int)))) * b1_1) + Prod.snd (Prod.snd (List.getD v64 (Int.toNat v66) ((0 : Int), (0 : Int), (0 : Int))))) then if wrap64 (wrap64 (Prod.fst (Prod.snd (List.getD v64 (Int.toNat v66) ((0 : Int), (0 : Int), (0 : Int)))) * b1_1) + Prod.snd (Prod.snd (List.getD v64 (Int.toNat v66) ((0 : Int), (0 : Int), (0 : Int))))) < (↑(List.length b1_2) : Int) then if (0 : Int) ≤ wrap64 (wrap64 (Prod.fst (Prod.snd (List.getD v64 (Int.toNat v66) ((0 : Int), (0 : Int), (0 : Int)))) * b1_1) + Prod.snd (Prod.snd (List.getD v64 (Int.toNat v66) ((0 : Int), (0 : Int), (0 : Int))))) then if wrap64 (wrap64 (Prod.fst (Prod.snd (List.getD v64 (Int.toNat v66) ((0 : Int), (0 : Int), (0 : Int)))) * b1_1) + Prod.snd (Prod.snd (List.getD v64 (Int.toNat v66) ((0 : Int), (0 : Int), (0 : Int))))) < (↑(List.length o6) : Int) then Z7t k b1_0 b1_1 b1_2 b2_0 b2_1 b2_2 b3_0 b3_1 o4 b5_0 b5_1 (List.set o6 (Int.toNat (wrap64 (wrap64 (Prod.fst (Prod.snd (List.getD v64 (Int.toNat v66) ((0 : Int), (0 : Int), (0 : Int)))) * b1_1) + Prod.snd (Prod.snd (List.getD v64 (Int.toNat v66) ((0 : Int), (0 : Int), (0 : Int))))))) (Prod.fst (List.getD b1_2 (Int.toNat (wrap64 (wrap64 (Prod.fst (Prod.snd (List.getD v64 (Int.toNat v66) ((0 : Int), (0 : Int), (0 : Int)))) * b1_1) + Prod.snd (Prod.snd (List.getD v64 (Int.toNat v66) ((0 : Int), (0 : Int), (0 : Int))))))) ((0 : Int), (0 : Int))), Prod.snd (List.getD b1_2 (Int.toNat (wrap64 (wrap64 (Prod.fst (Prod.snd (List.getD v64 (Int.toNat v66) ((0 : Int), (0 : Int), (0 : Int)))) * b1_1) + Prod.snd (Prod.snd (List.getD v64 (Int.toNat v66) ((0 : Int), (0 : Int), (0 : Int))))))) ((0 : Int), (0 : Int))))) v1 v2 v3 v12 v15 v64 v65 (wrap64 (v66 + (1 : Int))) else none else none else none else none else Z7t k b1_0 b1_1 b1_2 b2_0 b2_1 b2_2 b3_0 b3_1 o4 b5_0 b5_1 o6 v1 v2 v3 v12 v15 v64 v65 (wrap64 (v66 + (1 : Int))) else none else none else some (b1_0, b1_1, b1_2, b2_0, b2_1, b2_2, b3_0, b3_1, o4, b5_0, b5_1, o6, v1, v2, v3, v12, v15)
noncomputable def ZgG : Spec := Spec.mk [OSh.ro, OSh.box (53 : Nat) [Sh.int .i64, Sh.int .i64, Sh.snap (0 : Nat) (Ty.pair (Ty.int .i64) (Ty.int .i64))], OSh.box (63 : Nat) [Sh.int .i64, Sh.int .i64, Sh.int .i64], OSh.box (53 : Nat) [Sh.int .i64, Sh.int .i64, Sh.sl (4 : Nat)], OSh.row true (79 : Nat) (Ty.pair (Ty.int .i64) (Ty.int .i64)), OSh.box (53 : Nat) [Sh.int .i64, Sh.int .i64, Sh.sl (6 : Nat)], OSh.row true (79 : Nat) (Ty.pair (Ty.int .i64) (Ty.int .i64))] [((1 : Nat), TSh.at (Sh.snap (0 : Nat) (Ty.int .i64))), ((2 : Nat), TSh.at (Sh.snap (0 : Nat) (Ty.pair (Ty.int .i64) (Ty.pair (Ty.int .i64) (Ty.int .i64))))), ((3 : Nat), TSh.at (Sh.int .i64)), ((4 : Nat), TSh.at (Sh.ptr (1 : Nat) (0 : Nat))), ((8 : Nat), TSh.at (Sh.ptr (2 : Nat) (0 : Nat))), ((9 : Nat), TSh.at (Sh.ptr (3 : Nat) (0 : Nat))), ((10 : Nat), TSh.at (Sh.ptr (5 : Nat) (0 : Nat))), ((12 : Nat), TSh.at (Sh.int .i64)), ((15 : Nat), TSh.at (Sh.int .i64)), ((64 : Nat), TSh.at (Sh.snap (0 : Nat) (Ty.pair (Ty.int .i64) (Ty.pair (Ty.int .i64) (Ty.int .i64))))), ((65 : Nat), TSh.at (Sh.int .i64)), ((66 : Nat), TSh.at (Sh.int .i64))]
noncomputable def ZyW : Spec := Spec.mk [OSh.ro, OSh.box (53 : Nat) [Sh.int .i64, Sh.int .i64, Sh.snap (0 : Nat) (Ty.pair (Ty.int .i64) (Ty.int .i64))], OSh.box (63 : Nat) [Sh.int .i64, Sh.int .i64, Sh.int .i64], OSh.box (53 : Nat) [Sh.int .i64, Sh.int .i64, Sh.sl (4 : Nat)], OSh.row true (79 : Nat) (Ty.pair (Ty.int .i64) (Ty.int .i64)), OSh.box (53 : Nat) [Sh.int .i64, Sh.int .i64, Sh.sl (6 : Nat)], OSh.row true (79 : Nat) (Ty.pair (Ty.int .i64) (Ty.int .i64))] [((1 : Nat), TSh.at (Sh.snap (0 : Nat) (Ty.int .i64))), ((2 : Nat), TSh.at (Sh.snap (0 : Nat) (Ty.pair (Ty.int .i64) (Ty.pair (Ty.int .i64) (Ty.int .i64))))), ((3 : Nat), TSh.at (Sh.int .i64)), ((4 : Nat), TSh.at (Sh.ptr (1 : Nat) (0 : Nat))), ((8 : Nat), TSh.at (Sh.ptr (2 : Nat) (0 : Nat))), ((9 : Nat), TSh.at (Sh.ptr (3 : Nat) (0 : Nat))), ((10 : Nat), TSh.at (Sh.ptr (5 : Nat) (0 : Nat))), ((12 : Nat), TSh.at (Sh.int .i64)), ((15 : Nat), TSh.at (Sh.int .i64))]
noncomputable def Z8f : LoopDef (Tup Z3I × OutD) := .plain ZgG ZyW (Int × Int × List (Int × Int) × Int × Int × Int × Int × Int × List (Int × Int) × Int × Int × List (Int × Int) × List Int × List (Int × Int × Int) × Int × Int × Int) (fun k x => Z7t k x.1.2.1.1 x.1.2.1.2.1 x.1.2.1.2.2.1 x.1.2.2.1.1 x.1.2.2.1.2.1 x.1.2.2.1.2.2.1 x.1.2.2.2.1.1 x.1.2.2.2.1.2.1 x.1.2.2.2.2.1 x.1.2.2.2.2.2.1.1 x.1.2.2.2.2.2.1.2.1 x.1.2.2.2.2.2.2.1 x.2.1 x.2.2.1 x.2.2.2.1 x.2.2.2.2.2.2.2.2.1 x.2.2.2.2.2.2.2.2.2.1 x.2.2.2.2.2.2.2.2.2.2.1 x.2.2.2.2.2.2.2.2.2.2.2.1 x.2.2.2.2.2.2.2.2.2.2.2.2.1) (fun z => (((), (z.1, z.2.1, z.2.2.1, ()), (z.2.2.2.1, z.2.2.2.2.1, z.2.2.2.2.2.1, ()), (z.2.2.2.2.2.2.1, z.2.2.2.2.2.2.2.1, (), ()), z.2.2.2.2.2.2.2.2.1, (z.2.2.2.2.2.2.2.2.2.1, z.2.2.2.2.2.2.2.2.2.2.1, (), ()), z.2.2.2.2.2.2.2.2.2.2.2.1, ()), (z.2.2.2.2.2.2.2.2.2.2.2.2.1, z.2.2.2.2.2.2.2.2.2.2.2.2.2.1, z.2.2.2.2.2.2.2.2.2.2.2.2.2.2.1, (), (), (), (), z.2.2.2.2.2.2.2.2.2.2.2.2.2.2.2.1, z.2.2.2.2.2.2.2.2.2.2.2.2.2.2.2.2, ()))) (fun y => (y.1.2.1.1, y.1.2.1.2.1, y.1.2.1.2.2.1, y.1.2.2.1.1, y.1.2.2.1.2.1, y.1.2.2.1.2.2.1, y.1.2.2.2.1.1, y.1.2.2.2.1.2.1, y.1.2.2.2.2.1, y.1.2.2.2.2.2.1.1, y.1.2.2.2.2.2.1.2.1, y.1.2.2.2.2.2.2.1, y.2.1, y.2.2.1, y.2.2.2.1, y.2.2.2.2.2.2.2.2.1, y.2.2.2.2.2.2.2.2.2.1)) (fun _ => rfl)
noncomputable def Z6Y : Nat → Int → Int → Int → Int → Int → List (Int × Int) → Int → Int → List (Int × Int) → Int → Int → Option (Int × Int × Int × Int × Int × List (Int × Int)) := fun k b1_0 b1_1 b1_2 b2_0 b2_1 o3 b4_0 b4_1 o5 v3 v12 =>
    some ((3 : Int), v12, v3, b4_0, b4_1, o5)
noncomputable def Zb7 : Nat → Int → Int → Int → Int → Int → List (Int × Int) → Int → Int → List (Int × Int) → Int → Int → Option (List (Int × Int × Int × Int × Int × List (Int × Int))) := fun k b1_0 b1_1 b1_2 b2_0 b2_1 o3 b4_0 b4_1 o5 v3 v12 =>
    joinL (some [((3 : Int), v12, v3, b4_0, b4_1, o5)]) (some [((3 : Int), v12, v3, b4_0, b4_1, o5)])
noncomputable def Zjo : Spec := Spec.mk [OSh.ro, OSh.box (63 : Nat) [Sh.int .i64, Sh.int .i64, Sh.int .i64], OSh.box (53 : Nat) [Sh.int .i64, Sh.int .i64, Sh.sl (3 : Nat)], OSh.row true (79 : Nat) (Ty.pair (Ty.int .i64) (Ty.int .i64)), OSh.box (53 : Nat) [Sh.int .i64, Sh.int .i64, Sh.sl (5 : Nat)], OSh.row true (79 : Nat) (Ty.pair (Ty.int .i64) (Ty.int .i64))] [((3 : Nat), TSh.at (Sh.int .i64)), ((8 : Nat), TSh.at (Sh.ptr (1 : Nat) (0 : Nat))), ((9 : Nat), TSh.at (Sh.ptr (2 : Nat) (0 : Nat))), ((10 : Nat), TSh.at (Sh.ptr (4 : Nat) (0 : Nat))), ((12 : Nat), TSh.at (Sh.int .i64))]
noncomputable def ZvZ : Spec := Spec.mk [OSh.ro, OSh.box (63 : Nat) [Sh.int .i64, Sh.int .i64, Sh.int .i64], OSh.box (53 : Nat) [Sh.int .i64, Sh.int .i64, Sh.sl (3 : Nat)], OSh.row true (79 : Nat) (Ty.pair (Ty.int .i64) (Ty.int .i64))] [((8 : Nat), TSh.at (Sh.ptr (1 : Nat) (0 : Nat))), ((9 : Nat), TSh.at (Sh.ptr (2 : Nat) (0 : Nat)))]
noncomputable def Z6n : LoopDef (Tup Z3I × OutD) := .plain Zjo ZvZ (Int × Int × Int × Int × Int × List (Int × Int)) (fun k x => Z6Y k x.1.2.1.1 x.1.2.1.2.1 x.1.2.1.2.2.1 x.1.2.2.1.1 x.1.2.2.1.2.1 x.1.2.2.2.1 x.1.2.2.2.2.1.1 x.1.2.2.2.2.1.2.1 x.1.2.2.2.2.2.1 x.2.1 x.2.2.2.2.2.1) (fun z => (((), (z.1, z.2.1, z.2.2.1, ()), (z.2.2.2.1, z.2.2.2.2.1, (), ()), z.2.2.2.2.2, ()), ((), (), ()))) (fun y => (y.1.2.1.1, y.1.2.1.2.1, y.1.2.1.2.2.1, y.1.2.2.1.1, y.1.2.2.1.2.1, y.1.2.2.2.1)) (fun _ => rfl)
theorem Zw4 (k : Nat) (b1_0 : Int) (b1_1 : Int) (b1_2 : Int) (b2_0 : Int) (b2_1 : Int) (o3 : List (Int × Int)) (b4_0 : Int) (b4_1 : Int) (o5 : List (Int × Int)) (v3 : Int) (v12 : Int) : Zb7 k b1_0 b1_1 b1_2 b2_0 b2_1 o3 b4_0 b4_1 o5 v3 v12 = repl 2 (Z6Y k b1_0 b1_1 b1_2 b2_0 b2_1 o3 b4_0 b4_1 o5 v3 v12) := by
 first
 | (simp only [Zb7, Z6Y, Zb, Zg, Zc, Za, Z9, Z8, if_true]; done)
 | (simp only [Zb7, Z6Y, Zb, Zg, Zc, Za, Z9, Z8, if_true]; simp only [Z4y, Z4u, Z7o, Z8]; simp only [Z9c]; exact Z5J ⟨fun h => by simp only [h, and_self], fun h => by simp only [h, and_self]⟩)
noncomputable def Z99 : Nat → Int → Int → List (Int × Int) → Int → Int → Int → Int → Int → List (Int × Int) → Int → Int → List (Int × Int) → List Int → List (Int × Int × Int) → Int → Int → Int → Option (LR (Int × Int × List (Int × Int) × Int × Int × Int × Int × Int × List (Int × Int) × Int × Int × List (Int × Int) × Int) ((Int × Int × Int) × Int × Int × List (Int × Int)))
 | 0, _, _, _, _, _, _, _, _, _, _, _, _, _, _, _, _, _ => none
 | k + 1, b1_0, b1_1, b1_2, b2_0, b2_1, b2_2, b3_0, b3_1, o4, b5_0, b5_1, o6, v1, v2, v3, v11, v12 =>
  if decide (v12 < b1_0) = true then Option.bind (Z88 k (b5_0, b5_1, o6) v12 v3) fun z1 => Option.bind (ZgM k v2 v12 v3) fun z2 => if decide (z2 = (2 : Int)) = true then Option.bind (Z8e k b2_0 b2_1 b2_2 b3_0 b3_1 o4 b5_0 b5_1 o6 v3 v12) fun z3 => some (LR.ret ((Prod.fst z3, Prod.fst z3.2, Prod.fst z3.2.2), Prod.fst z3.2.2.2, Prod.fst z3.2.2.2.2, Prod.snd z3.2.2.2.2)) else if decide (Prod.fst z1 = (5 : Int)) = true then Option.bind (Z72 k b2_0 b2_1 b2_2 b3_0 b3_1 o4 b5_0 b5_1 o6 v3 v12) fun z4 => some (LR.ret ((Prod.fst z4, Prod.fst z4.2, Prod.fst z4.2.2), Prod.fst z4.2.2.2, Prod.fst z4.2.2.2.2, Prod.snd z4.2.2.2.2)) else Option.bind (Z97 k (Prod.fst z1, Prod.snd z1) v11) fun z5 => Option.bind (ZbZ k b1_0 b1_1 b1_2 b2_0 b2_1 b2_2 b3_0 b3_1 o4 b5_0 b5_1 o6 v1 v2 v3 v12 z5 (decide (z2 = (3 : Int)))) fun z6 => Option.bind (Z9d k (Prod.fst z6.2.2.2.2.2.2.2.2.2, Prod.fst z6.2.2.2.2.2.2.2.2.2.2, Prod.fst z6.2.2.2.2.2.2.2.2.2.2.2) z6.2.2.2.2.2.2.2.2.2.2.2.2.1 (wrap64 (wrap64 (Prod.fst z6.2.2.2.2.2.2.2.2.2.2.2.2.2.2.2 * Prod.fst z6.2) + Prod.fst z6.2.2.2.2.2.2.2.2.2.2.2.2.2.2))) fun z7 => Option.bind (Z7t k z6.1 z6.2.1 z6.2.2.1 z6.2.2.2.1 z6.2.2.2.2.1 z6.2.2.2.2.2.1 z6.2.2.2.2.2.2.1 z6.2.2.2.2.2.2.2.1 z6.2.2.2.2.2.2.2.2.1 z6.2.2.2.2.2.2.2.2.2.1 z6.2.2.2.2.2.2.2.2.2.2.1 z7 z6.2.2.2.2.2.2.2.2.2.2.2.2.1 z6.2.2.2.2.2.2.2.2.2.2.2.2.2.1 z6.2.2.2.2.2.2.2.2.2.2.2.2.2.2.1 z6.2.2.2.2.2.2.2.2.2.2.2.2.2.2.2.1 z6.2.2.2.2.2.2.2.2.2.2.2.2.2.2.2.2 z6.2.2.2.2.2.2.2.2.2.2.2.2.2.1 (↑(List.length z6.2.2.2.2.2.2.2.2.2.2.2.2.2.1) : Int) (0 : Int)) fun z8 => Option.bind (Z21 k (wrap64 (Prod.fst z8.2.2.2.2.2.2.2.2.2.2.2.2.2.2 + Prod.snd z8.2.2.2.2.2.2.2.2.2.2.2.2.2.2.2)) (0 : Int) (wrap64 (Prod.fst z8.2 - (1 : Int)))) fun z9 => if (!z9) = true then Option.bind (Z6Y k z8.2.2.2.1 z8.2.2.2.2.1 z8.2.2.2.2.2.1 z8.2.2.2.2.2.2.1 z8.2.2.2.2.2.2.2.1 z8.2.2.2.2.2.2.2.2.1 z8.2.2.2.2.2.2.2.2.2.1 z8.2.2.2.2.2.2.2.2.2.2.1 z8.2.2.2.2.2.2.2.2.2.2.2.1 (wrap64 (Prod.fst z8.2.2.2.2.2.2.2.2.2.2.2.2.2.2 + Prod.snd z8.2.2.2.2.2.2.2.2.2.2.2.2.2.2.2)) z8.2.2.2.2.2.2.2.2.2.2.2.2.2.2.2.1) fun z10 => some (LR.ret ((Prod.fst z10, Prod.fst z10.2, Prod.fst z10.2.2), Prod.fst z10.2.2.2, Prod.fst z10.2.2.2.2, Prod.snd z10.2.2.2.2)) else Z99 k z8.1 z8.2.1 z8.2.2.1 z8.2.2.2.1 z8.2.2.2.2.1 z8.2.2.2.2.2.1 z8.2.2.2.2.2.2.1 z8.2.2.2.2.2.2.2.1 z8.2.2.2.2.2.2.2.2.1 z8.2.2.2.2.2.2.2.2.2.1 z8.2.2.2.2.2.2.2.2.2.2.1 z8.2.2.2.2.2.2.2.2.2.2.2.1 z8.2.2.2.2.2.2.2.2.2.2.2.2.1 z8.2.2.2.2.2.2.2.2.2.2.2.2.2.1 (wrap64 (Prod.fst z8.2.2.2.2.2.2.2.2.2.2.2.2.2.2 + Prod.snd z8.2.2.2.2.2.2.2.2.2.2.2.2.2.2.2)) (wrap64 ((0 : Int) - Prod.snd z8.2.2.2.2.2.2.2.2.2.2.2.2.2.2.2)) (wrap64 (Prod.fst z8.2.2.2.2.2.2.2.2.2.2.2.2.2.2.2 + (1 : Int))) else some (LR.go (b1_0, b1_1, b1_2, b2_0, b2_1, b2_2, b3_0, b3_1, o4, b5_0, b5_1, o6, v3))
noncomputable def Zgn : Spec := Spec.mk [OSh.ro, OSh.box (53 : Nat) [Sh.int .i64, Sh.int .i64, Sh.snap (0 : Nat) (Ty.pair (Ty.int .i64) (Ty.int .i64))], OSh.box (63 : Nat) [Sh.int .i64, Sh.int .i64, Sh.int .i64], OSh.box (53 : Nat) [Sh.int .i64, Sh.int .i64, Sh.sl (4 : Nat)], OSh.row true (79 : Nat) (Ty.pair (Ty.int .i64) (Ty.int .i64)), OSh.box (53 : Nat) [Sh.int .i64, Sh.int .i64, Sh.sl (6 : Nat)], OSh.row true (79 : Nat) (Ty.pair (Ty.int .i64) (Ty.int .i64))] [((1 : Nat), TSh.at (Sh.snap (0 : Nat) (Ty.int .i64))), ((2 : Nat), TSh.at (Sh.snap (0 : Nat) (Ty.pair (Ty.int .i64) (Ty.pair (Ty.int .i64) (Ty.int .i64))))), ((3 : Nat), TSh.at (Sh.int .i64)), ((4 : Nat), TSh.at (Sh.ptr (1 : Nat) (0 : Nat))), ((8 : Nat), TSh.at (Sh.ptr (2 : Nat) (0 : Nat))), ((9 : Nat), TSh.at (Sh.ptr (3 : Nat) (0 : Nat))), ((10 : Nat), TSh.at (Sh.ptr (5 : Nat) (0 : Nat))), ((11 : Nat), TSh.at (Sh.int .i64)), ((12 : Nat), TSh.at (Sh.int .i64))]
noncomputable def ZyF : Spec := Spec.mk [OSh.ro, OSh.box (53 : Nat) [Sh.int .i64, Sh.int .i64, Sh.snap (0 : Nat) (Ty.pair (Ty.int .i64) (Ty.int .i64))], OSh.box (63 : Nat) [Sh.int .i64, Sh.int .i64, Sh.int .i64], OSh.box (53 : Nat) [Sh.int .i64, Sh.int .i64, Sh.sl (4 : Nat)], OSh.row true (79 : Nat) (Ty.pair (Ty.int .i64) (Ty.int .i64)), OSh.box (53 : Nat) [Sh.int .i64, Sh.int .i64, Sh.sl (6 : Nat)], OSh.row true (79 : Nat) (Ty.pair (Ty.int .i64) (Ty.int .i64))] [((3 : Nat), TSh.at (Sh.int .i64)), ((4 : Nat), TSh.at (Sh.ptr (1 : Nat) (0 : Nat))), ((8 : Nat), TSh.at (Sh.ptr (2 : Nat) (0 : Nat))), ((9 : Nat), TSh.at (Sh.ptr (3 : Nat) (0 : Nat))), ((10 : Nat), TSh.at (Sh.ptr (5 : Nat) (0 : Nat)))]
noncomputable def Z8l : LoopDef (Tup Z3I × OutD) := .rets Zgn ZyF (Int × Int × List (Int × Int) × Int × Int × Int × Int × Int × List (Int × Int) × Int × Int × List (Int × Int) × Int) ((Int × Int × Int) × Int × Int × List (Int × Int)) (fun k x => Z99 k x.1.2.1.1 x.1.2.1.2.1 x.1.2.1.2.2.1 x.1.2.2.1.1 x.1.2.2.1.2.1 x.1.2.2.1.2.2.1 x.1.2.2.2.1.1 x.1.2.2.2.1.2.1 x.1.2.2.2.2.1 x.1.2.2.2.2.2.1.1 x.1.2.2.2.2.2.1.2.1 x.1.2.2.2.2.2.2.1 x.2.1 x.2.2.1 x.2.2.2.1 x.2.2.2.2.2.2.2.2.1 x.2.2.2.2.2.2.2.2.2.1) (fun z => (((), (z.1, z.2.1, z.2.2.1, ()), (z.2.2.2.1, z.2.2.2.2.1, z.2.2.2.2.2.1, ()), (z.2.2.2.2.2.2.1, z.2.2.2.2.2.2.2.1, (), ()), z.2.2.2.2.2.2.2.2.1, (z.2.2.2.2.2.2.2.2.2.1, z.2.2.2.2.2.2.2.2.2.2.1, (), ()), z.2.2.2.2.2.2.2.2.2.2.2.1, ()), (z.2.2.2.2.2.2.2.2.2.2.2.2, (), (), (), (), ()))) (fun y => (y.1.2.1.1, y.1.2.1.2.1, y.1.2.1.2.2.1, y.1.2.2.1.1, y.1.2.2.1.2.1, y.1.2.2.1.2.2.1, y.1.2.2.2.1.1, y.1.2.2.2.1.2.1, y.1.2.2.2.2.1, y.1.2.2.2.2.2.1.1, y.1.2.2.2.2.2.1.2.1, y.1.2.2.2.2.2.2.1, y.2.1)) (fun _ => rfl) ZjK Zjy Zlk
noncomputable def Z7a : Nat → Int → Int → List (Int × Int) → Int → Int → Int → Int → Int → List (Int × Int) → Int → Int → List (Int × Int) → Int → Option (Int × Int × Int × Int × Int × List (Int × Int)) := fun k b1_0 b1_1 b1_2 b2_0 b2_1 b2_2 b3_0 b3_1 o4 b5_0 b5_1 o6 v3 =>
    some ((1 : Int), b1_0, v3, b5_0, b5_1, o6)
noncomputable def ZaI : Nat → Int → Int → List (Int × Int) → Int → Int → Int → Int → Int → List (Int × Int) → Int → Int → List (Int × Int) → Int → Option (List (Int × Int × Int × Int × Int × List (Int × Int))) := fun k b1_0 b1_1 b1_2 b2_0 b2_1 b2_2 b3_0 b3_1 o4 b5_0 b5_1 o6 v3 =>
    joinL (some [((1 : Int), b1_0, v3, b5_0, b5_1, o6)]) (some [((1 : Int), b1_0, v3, b5_0, b5_1, o6)])
noncomputable def ZjA : Spec := Spec.mk [OSh.ro, OSh.box (53 : Nat) [Sh.int .i64, Sh.int .i64, Sh.snap (0 : Nat) (Ty.pair (Ty.int .i64) (Ty.int .i64))], OSh.box (63 : Nat) [Sh.int .i64, Sh.int .i64, Sh.int .i64], OSh.box (53 : Nat) [Sh.int .i64, Sh.int .i64, Sh.sl (4 : Nat)], OSh.row true (79 : Nat) (Ty.pair (Ty.int .i64) (Ty.int .i64)), OSh.box (53 : Nat) [Sh.int .i64, Sh.int .i64, Sh.sl (6 : Nat)], OSh.row true (79 : Nat) (Ty.pair (Ty.int .i64) (Ty.int .i64))] [((3 : Nat), TSh.at (Sh.int .i64)), ((4 : Nat), TSh.at (Sh.ptr (1 : Nat) (0 : Nat))), ((8 : Nat), TSh.at (Sh.ptr (2 : Nat) (0 : Nat))), ((9 : Nat), TSh.at (Sh.ptr (3 : Nat) (0 : Nat))), ((10 : Nat), TSh.at (Sh.ptr (5 : Nat) (0 : Nat)))]
noncomputable def Zwd : Spec := Spec.mk [OSh.ro, OSh.box (63 : Nat) [Sh.int .i64, Sh.int .i64, Sh.int .i64], OSh.box (53 : Nat) [Sh.int .i64, Sh.int .i64, Sh.sl (3 : Nat)], OSh.row true (79 : Nat) (Ty.pair (Ty.int .i64) (Ty.int .i64))] [((8 : Nat), TSh.at (Sh.ptr (1 : Nat) (0 : Nat))), ((9 : Nat), TSh.at (Sh.ptr (2 : Nat) (0 : Nat)))]
noncomputable def Z6j : LoopDef (Tup Z3I × OutD) := .plain ZjA Zwd (Int × Int × Int × Int × Int × List (Int × Int)) (fun k x => Z7a k x.1.2.1.1 x.1.2.1.2.1 x.1.2.1.2.2.1 x.1.2.2.1.1 x.1.2.2.1.2.1 x.1.2.2.1.2.2.1 x.1.2.2.2.1.1 x.1.2.2.2.1.2.1 x.1.2.2.2.2.1 x.1.2.2.2.2.2.1.1 x.1.2.2.2.2.2.1.2.1 x.1.2.2.2.2.2.2.1 x.2.1) (fun z => (((), (z.1, z.2.1, z.2.2.1, ()), (z.2.2.2.1, z.2.2.2.2.1, (), ()), z.2.2.2.2.2, ()), ((), (), ()))) (fun y => (y.1.2.1.1, y.1.2.1.2.1, y.1.2.1.2.2.1, y.1.2.2.1.1, y.1.2.2.1.2.1, y.1.2.2.2.1)) (fun _ => rfl)
theorem ZvO (k : Nat) (b1_0 : Int) (b1_1 : Int) (b1_2 : List (Int × Int)) (b2_0 : Int) (b2_1 : Int) (b2_2 : Int) (b3_0 : Int) (b3_1 : Int) (o4 : List (Int × Int)) (b5_0 : Int) (b5_1 : Int) (o6 : List (Int × Int)) (v3 : Int) : ZaI k b1_0 b1_1 b1_2 b2_0 b2_1 b2_2 b3_0 b3_1 o4 b5_0 b5_1 o6 v3 = repl 2 (Z7a k b1_0 b1_1 b1_2 b2_0 b2_1 b2_2 b3_0 b3_1 o4 b5_0 b5_1 o6 v3) := by
 first
 | (simp only [ZaI, Z7a, Zb, Zg, Zc, Za, Z9, Z8, if_true]; done)
 | (simp only [ZaI, Z7a, Zb, Zg, Zc, Za, Z9, Z8, if_true]; simp only [Z4y, Z4u, Z7o, Z8]; simp only [Z9c]; exact Z5J ⟨fun h => by simp only [h, and_self], fun h => by simp only [h, and_self]⟩)
noncomputable def ZgO : Nat → Int × Int × List (Int × Int) → List Int → List (Int × Int × Int) → Int → Option ((Int × Int × Int) × Int × Int × List (Int × Int))
 | 0, _, _, _, _ => none
 | k + 1, p0, p1, p2, p3 =>
  Option.bind (Z3B k (Prod.fst p0, Prod.fst p0.2, Prod.snd p0.2)) fun z0 => Option.bind (Z99 k p0.1 p0.2.1 p0.2.2 (0 : Int) (0 : Int) (0 : Int) (0 : Int) (0 : Int) [] z0.1 z0.2.1 z0.2.2 p1 p2 p3 (0 : Int) (0 : Int)) fun z11 => LR.on z11 (fun y11 => Option.bind (Z7a k y11.1 y11.2.1 y11.2.2.1 y11.2.2.2.1 y11.2.2.2.2.1 y11.2.2.2.2.2.1 y11.2.2.2.2.2.2.1 y11.2.2.2.2.2.2.2.1 y11.2.2.2.2.2.2.2.2.1 y11.2.2.2.2.2.2.2.2.2.1 y11.2.2.2.2.2.2.2.2.2.2.1 y11.2.2.2.2.2.2.2.2.2.2.2.1 y11.2.2.2.2.2.2.2.2.2.2.2.2) fun z12 => some ((Prod.fst z12, Prod.fst z12.2, Prod.fst z12.2.2), Prod.fst z12.2.2.2, Prod.fst z12.2.2.2.2, Prod.snd z12.2.2.2.2)) fun r11 => some r11
noncomputable def Z8b : FnDef := .of Zvk Z3I ((Int × Int × Int) × Int × Int × List (Int × Int)) (fun k x => ZgO k x.1 x.2.1 x.2.2.1 x.2.2.2.1) ZjK Zjy Zlk
noncomputable def Z4q : Code := Try.f186.body.getD .skip
noncomputable def Zi : Ctx (Tup Z3I × OutD) := { T := T, G := [(184, Z3y.E), (183, Z55.E), (210, Z87.E), (211, Z4z.E), (212, Z4x.E), (96, Z2t.E)], mvs := [], no := 0, n := 111, res := resOf T Zvk Z3I Try.f186.results.toList, loops := [(2, Z8f.E), (0, Z8l.E)], regs := [(9, Z7m.E), (11, Z6e.E), (26, Z6n.E), (27, Z6j.E)], conds := [(52, Z1w.E)] }
theorem Z8a (k : Nat) : EnvOK Try.prog k Zi.G := (EnvOK.cons (ZeK k) (EnvOK.cons (ZlC k) (EnvOK.cons (ZCw k) (EnvOK.cons (ZpM k) (EnvOK.cons (Zpk k) (EnvOK.cons (Z9T k) (EnvOK.nil mixed)))))))
noncomputable def Zfu : Array Oper := (findReg 9 Z4q).getD #[]
theorem ZxN (k : Nat) (x : Zli.D) : execD Zi.T Zi.G Zi.mvs k Zfu (Z7m.inp.st Zi.n x) (outK Zi Z7m) = ZbY k x.1.2.1.1 x.1.2.1.2.1 x.1.2.1.2.2.1 x.1.2.2.1.1 x.1.2.2.1.2.1 x.1.2.2.2.1 x.1.2.2.2.2.1.1 x.1.2.2.2.2.1.2.1 x.1.2.2.2.2.2.1 x.2.1 x.2.2.2.2.2.1 := by kernel_rfl
theorem Zx6 (k : Nat) : EOK Try.prog Zi k Z7m.E (.region 9 Zfu true) := Zau (D := Z7m) (m := 2) T_ok (Z8a k) (fun x => (ZxN k x).trans (Zyx k x.1.2.1.1 x.1.2.1.2.1 x.1.2.1.2.2.1 x.1.2.2.1.1 x.1.2.2.1.2.1 x.1.2.2.2.1 x.1.2.2.2.2.1.1 x.1.2.2.2.2.1.2.1 x.1.2.2.2.2.2.1 x.2.1 x.2.2.2.2.2.1))
noncomputable def Zep : Array Oper := (findReg 11 Z4q).getD #[]
theorem Zwh (k : Nat) (x : Zjf.D) : execD Zi.T Zi.G Zi.mvs k Zep (Z6e.inp.st Zi.n x) (outK Zi Z6e) = ZaS k x.1.2.1.1 x.1.2.1.2.1 x.1.2.1.2.2.1 x.1.2.2.1.1 x.1.2.2.1.2.1 x.1.2.2.2.1 x.1.2.2.2.2.1.1 x.1.2.2.2.2.1.2.1 x.1.2.2.2.2.2.1 x.2.1 x.2.2.2.2.2.1 := by kernel_rfl
theorem Zv4 (k : Nat) : EOK Try.prog Zi k Z6e.E (.region 11 Zep true) := Zau (D := Z6e) (m := 2) T_ok (Z8a k) (fun x => (Zwh k x).trans (Zx1 k x.1.2.1.1 x.1.2.1.2.1 x.1.2.1.2.2.1 x.1.2.2.1.1 x.1.2.2.1.2.1 x.1.2.2.2.1 x.1.2.2.2.2.1.1 x.1.2.2.2.2.1.2.1 x.1.2.2.2.2.2.1 x.2.1 x.2.2.2.2.2.1))
noncomputable def Zed : Array Oper := (findReg 26 Z4q).getD #[]
theorem ZwQ (k : Nat) (x : Zjo.D) : execD Zi.T Zi.G Zi.mvs k Zed (Z6n.inp.st Zi.n x) (outK Zi Z6n) = Zb7 k x.1.2.1.1 x.1.2.1.2.1 x.1.2.1.2.2.1 x.1.2.2.1.1 x.1.2.2.1.2.1 x.1.2.2.2.1 x.1.2.2.2.2.1.1 x.1.2.2.2.2.1.2.1 x.1.2.2.2.2.2.1 x.2.1 x.2.2.2.2.2.1 := by kernel_rfl
theorem ZuO (k : Nat) : EOK Try.prog Zi k Z6n.E (.region 26 Zed true) := Zau (D := Z6n) (m := 2) T_ok (Z8a k) (fun x => (ZwQ k x).trans (Zw4 k x.1.2.1.1 x.1.2.1.2.1 x.1.2.1.2.2.1 x.1.2.2.1.1 x.1.2.2.1.2.1 x.1.2.2.2.1 x.1.2.2.2.2.1.1 x.1.2.2.2.2.1.2.1 x.1.2.2.2.2.2.1 x.2.1 x.2.2.2.2.2.1))
noncomputable def Zen : Array Oper := (findReg 27 Z4q).getD #[]
theorem ZwM (k : Nat) (x : ZjA.D) : execD Zi.T Zi.G Zi.mvs k Zen (Z6j.inp.st Zi.n x) (outK Zi Z6j) = ZaI k x.1.2.1.1 x.1.2.1.2.1 x.1.2.1.2.2.1 x.1.2.2.1.1 x.1.2.2.1.2.1 x.1.2.2.1.2.2.1 x.1.2.2.2.1.1 x.1.2.2.2.1.2.1 x.1.2.2.2.2.1 x.1.2.2.2.2.2.1.1 x.1.2.2.2.2.2.1.2.1 x.1.2.2.2.2.2.2.1 x.2.1 := by kernel_rfl
theorem ZuB (k : Nat) : EOK Try.prog Zi k Z6j.E (.region 27 Zen true) := Zau (D := Z6j) (m := 2) T_ok (Z8a k) (fun x => (ZwM k x).trans (ZvO k x.1.2.1.1 x.1.2.1.2.1 x.1.2.1.2.2.1 x.1.2.2.1.1 x.1.2.2.1.2.1 x.1.2.2.1.2.2.1 x.1.2.2.2.1.1 x.1.2.2.2.1.2.1 x.1.2.2.2.2.1 x.1.2.2.2.2.2.1.1 x.1.2.2.2.2.2.1.2.1 x.1.2.2.2.2.2.2.1 x.2.1))
noncomputable def Zb0 : Code := ((findCond 52 Z4q).map (·.1)).getD .skip
noncomputable def ZaJ : Code := ((findCond 52 Z4q).map (·.2)).getD .skip
theorem ZwX (k : Nat) (i : Z1w.inp.D) : Z1w.lp k i = branch (Z1w.inp.st Zi.n i) (.tmp 52) (fun st => exec Zi k Zb0 st (outK Zi Z1w) (fun _ _ => none) Z1w.mkB) (fun st => exec Zi k ZaJ st (outK Zi Z1w) (fun _ _ => none) Z1w.mkB) := by kernel_rfl
theorem ZuJ (k : Nat) : EOK Try.prog Zi k Z1w.E (.cond (.tmp 52) Zb0 ZaJ) := ZtA (D := Z1w) T_ok (Z8a k) (ZwX k) (@LOK.by _ _ _ _ Zb0 [] (by kernel_rfl) AllOK.nil) (@LOK.by _ _ _ _ ZaJ [] (by kernel_rfl) AllOK.nil)
noncomputable def ZcZ : Code := (findLoop 2 Z4q).getD .skip
theorem Zzo (k : Nat) (x : ZgG.D) : Z8f.lp (k + 1) x = loopK Zi Z8f 2 ZcZ k x := by kernel_rfl
theorem Zzl (k : Nat) : LOK Try.prog Zi k ZcZ := LOK.by [] (by kernel_rfl) AllOK.nil
theorem ZyH (x : ZgG.D) : Z8f.lp 0 x = none := by kernel_rfl
theorem Zys (k : Nat) : EOK Try.prog Zi k Z8f.E (.block 2 (.loop ZcZ)) := Zp T_ok Z8a ZyH Zzo Zzl k
noncomputable def ZcW : Code := (findLoop 0 Z4q).getD .skip
theorem Zz9 (k : Nat) (x : Zgn.D) : Z8l.lp (k + 1) x = loopK Zi Z8l 0 ZcW k x := by kernel_rfl
theorem ZyY (k : Nat) : LOK Try.prog Zi k ZcW := LOK.by [(Z7m.E, .region 9 Zfu true), (Z6e.E, .region 11 Zep true), (Z1w.E, .cond (.tmp 52) Zb0 ZaJ), (Z8f.E, .block 2 (.loop ZcZ)), (Z6n.E, .region 26 Zed true)] (by kernel_rfl) (AllOK.cons (Zx6 k) (AllOK.cons (Zv4 k) (AllOK.cons (ZuJ k) (AllOK.cons (Zys k) (AllOK.cons (ZuO k) AllOK.nil)))))
theorem ZyZ (x : Zgn.D) : Z8l.lp 0 x = none := by kernel_rfl
theorem Zyq (k : Nat) : EOK Try.prog Zi k Z8l.E (.block 0 (.loop ZcW)) := Zp T_ok Z8a ZyZ Zz9 ZyY k
theorem ZCm (k : Nat) (x : Tup Z8b.ps) : Z8b.f (k + 1) x = fnK Z8b Zi Z4q k x := by kernel_rfl
theorem ZBZ (x : Tup Z8b.ps) : Z8b.f 0 x = none := by kernel_rfl
theorem ZCB (k : Nat) : LOK Try.prog Zi k Z4q := LOK.by [(Z8l.E, .block 0 (.loop ZcW)), (Z6j.E, .region 27 Zen true)] (by kernel_rfl) (AllOK.cons (Zyq k) (AllOK.cons (ZuB k) AllOK.nil))
theorem ZCs (k : Nat) : SoundAt Try.prog k 186 Z8b.E := @Ze Try.prog Z8b Zi 186 Try.f186 Z4q (by kernel_rfl) (by kernel_rfl) (by kernel_rfl) Try.func186 (by kernel_rfl) (by kernel_rfl) (by kernel_rfl) T_ok Z8a ZCB ZBZ ZCm k
noncomputable def Z6D : List PK := [PK.mk (Ty.pair (Ty.int .i64) (Ty.pair (Ty.int .i64) (Ty.int .i64))) true none false none, PK.mk (Ty.pair (Ty.int .i64) (Ty.pair (Ty.int .i64) (Ty.slice (79 : Nat) (Ty.pair (Ty.int .i64) (Ty.int .i64))))) true none false none, PK.mk (Ty.slice (34 : Nat) (Ty.slice (3 : Nat) (Ty.int .i64))) false none false none]
noncomputable def Zvj : List PK := [PK.mk (Ty.pair (Ty.int .i64) (Ty.pair (Ty.int .i64) (Ty.slice (79 : Nat) (Ty.pair (Ty.int .i64) (Ty.int .i64))))) true none false none, PK.mk (Ty.slice (3 : Nat) (Ty.int .i64)) false none false none, PK.mk (Ty.int .i64) false none false none]
noncomputable def Zjp (r : (Int × Int × Int) × (Int × Int × List (Int × Int)) × List (List Int)) : Tup Z6D × OutD := ((r.1, r.2.1, r.2.2, ()), none)
noncomputable def ZjL : Tup Z6D × OutD → Option ((Int × Int × Int) × (Int × Int × List (Int × Int)) × List (List Int))
 | (a, none) => some (a.1, a.2.1, a.2.2.1)
 | _ => none
theorem ZkL : ∀ b r, ZjL b = some r → Zjp r = b := by
 rintro ⟨a, o⟩ r h
 cases o with
 | none => injection h with h; subst h; rfl
 | some _ => cases h
noncomputable def Z5k : Nat → Int → Int → Int → Int → Int → List (Int × Int) → Int → Int → List (Int × Int) → List (List Int) → Int → Int → Option (Int × Int × Int × Int × Int × List (Int × Int) × List (List Int)) := fun k b1_0 b1_1 b1_2 b2_0 b2_1 o3 b4_0 b4_1 o5 o6 v2 v12 =>
    some ((2 : Int), v12, v2, b4_0, b4_1, o5, o6)
noncomputable def ZaO : Nat → Int → Int → Int → Int → Int → List (Int × Int) → Int → Int → List (Int × Int) → List (List Int) → Int → Int → Option (List (Int × Int × Int × Int × Int × List (Int × Int) × List (List Int))) := fun k b1_0 b1_1 b1_2 b2_0 b2_1 o3 b4_0 b4_1 o5 o6 v2 v12 =>
    joinL (some [((2 : Int), v12, v2, b4_0, b4_1, o5, o6)]) (some [((2 : Int), v12, v2, b4_0, b4_1, o5, o6)])
noncomputable def Zjn : Spec := Spec.mk [OSh.ro, OSh.box (63 : Nat) [Sh.int .i64, Sh.int .i64, Sh.int .i64], OSh.box (53 : Nat) [Sh.int .i64, Sh.int .i64, Sh.sl (3 : Nat)], OSh.row true (79 : Nat) (Ty.pair (Ty.int .i64) (Ty.int .i64)), OSh.box (53 : Nat) [Sh.int .i64, Sh.int .i64, Sh.sl (5 : Nat)], OSh.row true (79 : Nat) (Ty.pair (Ty.int .i64) (Ty.int .i64)), OSh.row true (34 : Nat) (Ty.slice (3 : Nat) (Ty.int .i64))] [((2 : Nat), TSh.at (Sh.int .i64)), ((6 : Nat), TSh.at (Sh.ptr (1 : Nat) (0 : Nat))), ((7 : Nat), TSh.at (Sh.ptr (2 : Nat) (0 : Nat))), ((9 : Nat), TSh.at (Sh.ptr (4 : Nat) (0 : Nat))), ((10 : Nat), TSh.at (Sh.sl (6 : Nat))), ((12 : Nat), TSh.at (Sh.int .i64))]
noncomputable def ZwO : Spec := Spec.mk [OSh.ro, OSh.box (63 : Nat) [Sh.int .i64, Sh.int .i64, Sh.int .i64], OSh.box (53 : Nat) [Sh.int .i64, Sh.int .i64, Sh.sl (3 : Nat)], OSh.row true (79 : Nat) (Ty.pair (Ty.int .i64) (Ty.int .i64)), OSh.row true (34 : Nat) (Ty.slice (3 : Nat) (Ty.int .i64))] [((6 : Nat), TSh.at (Sh.ptr (1 : Nat) (0 : Nat))), ((7 : Nat), TSh.at (Sh.ptr (2 : Nat) (0 : Nat))), ((8 : Nat), TSh.at (Sh.sl (4 : Nat)))]
noncomputable def Z64 : LoopDef (Tup Z6D × OutD) := .plain Zjn ZwO (Int × Int × Int × Int × Int × List (Int × Int) × List (List Int)) (fun k x => Z5k k x.1.2.1.1 x.1.2.1.2.1 x.1.2.1.2.2.1 x.1.2.2.1.1 x.1.2.2.1.2.1 x.1.2.2.2.1 x.1.2.2.2.2.1.1 x.1.2.2.2.2.1.2.1 x.1.2.2.2.2.2.1 x.1.2.2.2.2.2.2.1 x.2.1 x.2.2.2.2.2.2.1) (fun z => (((), (z.1, z.2.1, z.2.2.1, ()), (z.2.2.2.1, z.2.2.2.2.1, (), ()), z.2.2.2.2.2.1, z.2.2.2.2.2.2, ()), ((), (), (), ()))) (fun y => (y.1.2.1.1, y.1.2.1.2.1, y.1.2.1.2.2.1, y.1.2.2.1.1, y.1.2.2.1.2.1, y.1.2.2.2.1, y.1.2.2.2.2.1)) (fun _ => rfl)
theorem ZvR (k : Nat) (b1_0 : Int) (b1_1 : Int) (b1_2 : Int) (b2_0 : Int) (b2_1 : Int) (o3 : List (Int × Int)) (b4_0 : Int) (b4_1 : Int) (o5 : List (Int × Int)) (o6 : List (List Int)) (v2 : Int) (v12 : Int) : ZaO k b1_0 b1_1 b1_2 b2_0 b2_1 o3 b4_0 b4_1 o5 o6 v2 v12 = repl 2 (Z5k k b1_0 b1_1 b1_2 b2_0 b2_1 o3 b4_0 b4_1 o5 o6 v2 v12) := by
 first
 | (simp only [ZaO, Z5k, Zb, Zg, Zc, Za, Z9, Z8, if_true]; done)
 | (simp only [ZaO, Z5k, Zb, Zg, Zc, Za, Z9, Z8, if_true]; simp only [Z4y, Z4u, Z7o, Z8]; simp only [Z9c]; exact Z5J ⟨fun h => by simp only [h, and_self], fun h => by simp only [h, and_self]⟩)
noncomputable def Z5a : Nat → Int → Int → Int → Int → Int → List (Int × Int) → Int → Int → List (Int × Int) → List (List Int) → Int → Int → Option (Int × Int × Int × Int × Int × List (Int × Int) × List (List Int)) := fun k b1_0 b1_1 b1_2 b2_0 b2_1 o3 b4_0 b4_1 o5 o6 v2 v12 =>
    some ((3 : Int), v12, v2, b4_0, b4_1, o5, o6)
noncomputable def ZaU : Nat → Int → Int → Int → Int → Int → List (Int × Int) → Int → Int → List (Int × Int) → List (List Int) → Int → Int → Option (List (Int × Int × Int × Int × Int × List (Int × Int) × List (List Int))) := fun k b1_0 b1_1 b1_2 b2_0 b2_1 o3 b4_0 b4_1 o5 o6 v2 v12 =>
    joinL (some [((3 : Int), v12, v2, b4_0, b4_1, o5, o6)]) (some [((3 : Int), v12, v2, b4_0, b4_1, o5, o6)])
noncomputable def Zj5 : Spec := Spec.mk [OSh.ro, OSh.box (63 : Nat) [Sh.int .i64, Sh.int .i64, Sh.int .i64], OSh.box (53 : Nat) [Sh.int .i64, Sh.int .i64, Sh.sl (3 : Nat)], OSh.row true (79 : Nat) (Ty.pair (Ty.int .i64) (Ty.int .i64)), OSh.box (53 : Nat) [Sh.int .i64, Sh.int .i64, Sh.sl (5 : Nat)], OSh.row true (79 : Nat) (Ty.pair (Ty.int .i64) (Ty.int .i64)), OSh.row true (34 : Nat) (Ty.slice (3 : Nat) (Ty.int .i64))] [((2 : Nat), TSh.at (Sh.int .i64)), ((6 : Nat), TSh.at (Sh.ptr (1 : Nat) (0 : Nat))), ((7 : Nat), TSh.at (Sh.ptr (2 : Nat) (0 : Nat))), ((9 : Nat), TSh.at (Sh.ptr (4 : Nat) (0 : Nat))), ((10 : Nat), TSh.at (Sh.sl (6 : Nat))), ((12 : Nat), TSh.at (Sh.int .i64))]
noncomputable def ZwH : Spec := Spec.mk [OSh.ro, OSh.box (63 : Nat) [Sh.int .i64, Sh.int .i64, Sh.int .i64], OSh.box (53 : Nat) [Sh.int .i64, Sh.int .i64, Sh.sl (3 : Nat)], OSh.row true (79 : Nat) (Ty.pair (Ty.int .i64) (Ty.int .i64)), OSh.row true (34 : Nat) (Ty.slice (3 : Nat) (Ty.int .i64))] [((6 : Nat), TSh.at (Sh.ptr (1 : Nat) (0 : Nat))), ((7 : Nat), TSh.at (Sh.ptr (2 : Nat) (0 : Nat))), ((8 : Nat), TSh.at (Sh.sl (4 : Nat)))]
noncomputable def Z66 : LoopDef (Tup Z6D × OutD) := .plain Zj5 ZwH (Int × Int × Int × Int × Int × List (Int × Int) × List (List Int)) (fun k x => Z5a k x.1.2.1.1 x.1.2.1.2.1 x.1.2.1.2.2.1 x.1.2.2.1.1 x.1.2.2.1.2.1 x.1.2.2.2.1 x.1.2.2.2.2.1.1 x.1.2.2.2.2.1.2.1 x.1.2.2.2.2.2.1 x.1.2.2.2.2.2.2.1 x.2.1 x.2.2.2.2.2.2.1) (fun z => (((), (z.1, z.2.1, z.2.2.1, ()), (z.2.2.2.1, z.2.2.2.2.1, (), ()), z.2.2.2.2.2.1, z.2.2.2.2.2.2, ()), ((), (), (), ()))) (fun y => (y.1.2.1.1, y.1.2.1.2.1, y.1.2.1.2.2.1, y.1.2.2.1.1, y.1.2.2.1.2.1, y.1.2.2.2.1, y.1.2.2.2.2.1)) (fun _ => rfl)
theorem Zwy (k : Nat) (b1_0 : Int) (b1_1 : Int) (b1_2 : Int) (b2_0 : Int) (b2_1 : Int) (o3 : List (Int × Int)) (b4_0 : Int) (b4_1 : Int) (o5 : List (Int × Int)) (o6 : List (List Int)) (v2 : Int) (v12 : Int) : ZaU k b1_0 b1_1 b1_2 b2_0 b2_1 o3 b4_0 b4_1 o5 o6 v2 v12 = repl 2 (Z5a k b1_0 b1_1 b1_2 b2_0 b2_1 o3 b4_0 b4_1 o5 o6 v2 v12) := by
 first
 | (simp only [ZaU, Z5a, Zb, Zg, Zc, Za, Z9, Z8, if_true]; done)
 | (simp only [ZaU, Z5a, Zb, Zg, Zc, Za, Z9, Z8, if_true]; simp only [Z4y, Z4u, Z7o, Z8]; simp only [Z9c]; exact Z5J ⟨fun h => by simp only [h, and_self], fun h => by simp only [h, and_self]⟩)
noncomputable def Z5D : Nat → Int → Int → List (Int × Int) → Int → Int → Int → Int → Int → List (Int × Int) → Int → Int → List (Int × Int) → List (List Int) → List Int → Int → Int → Int → Option (LR (Int × Int × List (Int × Int) × Int × Int × Int × Int × Int × List (Int × Int) × Int × Int × List (Int × Int) × List (List Int) × Int) ((Int × Int × Int) × (Int × Int × List (Int × Int)) × List (List Int)))
 | 0, _, _, _, _, _, _, _, _, _, _, _, _, _, _, _, _, _ => none
 | k + 1, b1_0, b1_1, b1_2, b2_0, b2_1, b2_2, b3_0, b3_1, o4, b5_0, b5_1, o6, o7, v1, v2, v11, v12 =>
  if decide (v12 < b1_0) = true then if List.length o7 + List.length [[v12, v2]] ≤ (140737488355328 / 24 : Nat) then Option.bind (Z88 k (b5_0, b5_1, o6) v12 v2) fun z1 => if decide (Prod.fst z1 = (5 : Int)) = true then Option.bind (Z5k k b2_0 b2_1 b2_2 b3_0 b3_1 o4 b5_0 b5_1 o6 (o7 ++ [[v12, v2]]) v2 v12) fun z2 => some (LR.ret ((Prod.fst z2, Prod.fst z2.2, Prod.fst z2.2.2), (Prod.fst z2.2.2.2, Prod.fst z2.2.2.2.2, Prod.fst z2.2.2.2.2.2), Prod.snd z2.2.2.2.2.2)) else Option.bind (Z97 k (Prod.fst z1, Prod.snd z1) v11) fun z3 => Option.bind (Z9d k (b5_0, b5_1, o6) v1 (wrap64 (wrap64 (v12 * b1_1) + v2))) fun z4 => Option.bind (Z21 k (wrap64 (v2 + z3)) (0 : Int) (wrap64 (b1_1 - (1 : Int)))) fun z5 => if (!z5) = true then Option.bind (Z5a k b2_0 b2_1 b2_2 b3_0 b3_1 o4 b5_0 b5_1 z4 (o7 ++ [[v12, v2]]) (wrap64 (v2 + z3)) v12) fun z6 => some (LR.ret ((Prod.fst z6, Prod.fst z6.2, Prod.fst z6.2.2), (Prod.fst z6.2.2.2, Prod.fst z6.2.2.2.2, Prod.fst z6.2.2.2.2.2), Prod.snd z6.2.2.2.2.2)) else Z5D k b1_0 b1_1 b1_2 b2_0 b2_1 b2_2 b3_0 b3_1 o4 b5_0 b5_1 z4 (o7 ++ [[v12, v2]]) v1 (wrap64 (v2 + z3)) (wrap64 ((0 : Int) - z3)) (wrap64 (v12 + (1 : Int))) else none else some (LR.go (b1_0, b1_1, b1_2, b2_0, b2_1, b2_2, b3_0, b3_1, o4, b5_0, b5_1, o6, o7, v2))
noncomputable def ZgD : Spec := Spec.mk [OSh.ro, OSh.box (53 : Nat) [Sh.int .i64, Sh.int .i64, Sh.snap (0 : Nat) (Ty.pair (Ty.int .i64) (Ty.int .i64))], OSh.box (63 : Nat) [Sh.int .i64, Sh.int .i64, Sh.int .i64], OSh.box (53 : Nat) [Sh.int .i64, Sh.int .i64, Sh.sl (4 : Nat)], OSh.row true (79 : Nat) (Ty.pair (Ty.int .i64) (Ty.int .i64)), OSh.box (53 : Nat) [Sh.int .i64, Sh.int .i64, Sh.sl (6 : Nat)], OSh.row true (79 : Nat) (Ty.pair (Ty.int .i64) (Ty.int .i64)), OSh.row true (34 : Nat) (Ty.slice (3 : Nat) (Ty.int .i64))] [((1 : Nat), TSh.at (Sh.snap (0 : Nat) (Ty.int .i64))), ((2 : Nat), TSh.at (Sh.int .i64)), ((3 : Nat), TSh.at (Sh.ptr (1 : Nat) (0 : Nat))), ((6 : Nat), TSh.at (Sh.ptr (2 : Nat) (0 : Nat))), ((7 : Nat), TSh.at (Sh.ptr (3 : Nat) (0 : Nat))), ((9 : Nat), TSh.at (Sh.ptr (5 : Nat) (0 : Nat))), ((10 : Nat), TSh.at (Sh.sl (7 : Nat))), ((11 : Nat), TSh.at (Sh.int .i64)), ((12 : Nat), TSh.at (Sh.int .i64))]
noncomputable def Zzn : Spec := Spec.mk [OSh.ro, OSh.box (53 : Nat) [Sh.int .i64, Sh.int .i64, Sh.snap (0 : Nat) (Ty.pair (Ty.int .i64) (Ty.int .i64))], OSh.box (63 : Nat) [Sh.int .i64, Sh.int .i64, Sh.int .i64], OSh.box (53 : Nat) [Sh.int .i64, Sh.int .i64, Sh.sl (4 : Nat)], OSh.row true (79 : Nat) (Ty.pair (Ty.int .i64) (Ty.int .i64)), OSh.box (53 : Nat) [Sh.int .i64, Sh.int .i64, Sh.sl (6 : Nat)], OSh.row true (79 : Nat) (Ty.pair (Ty.int .i64) (Ty.int .i64)), OSh.row true (34 : Nat) (Ty.slice (3 : Nat) (Ty.int .i64))] [((2 : Nat), TSh.at (Sh.int .i64)), ((3 : Nat), TSh.at (Sh.ptr (1 : Nat) (0 : Nat))), ((6 : Nat), TSh.at (Sh.ptr (2 : Nat) (0 : Nat))), ((7 : Nat), TSh.at (Sh.ptr (3 : Nat) (0 : Nat))), ((9 : Nat), TSh.at (Sh.ptr (5 : Nat) (0 : Nat))), ((10 : Nat), TSh.at (Sh.sl (7 : Nat)))]
noncomputable def Z8m : LoopDef (Tup Z6D × OutD) := .rets ZgD Zzn (Int × Int × List (Int × Int) × Int × Int × Int × Int × Int × List (Int × Int) × Int × Int × List (Int × Int) × List (List Int) × Int) ((Int × Int × Int) × (Int × Int × List (Int × Int)) × List (List Int)) (fun k x => Z5D k x.1.2.1.1 x.1.2.1.2.1 x.1.2.1.2.2.1 x.1.2.2.1.1 x.1.2.2.1.2.1 x.1.2.2.1.2.2.1 x.1.2.2.2.1.1 x.1.2.2.2.1.2.1 x.1.2.2.2.2.1 x.1.2.2.2.2.2.1.1 x.1.2.2.2.2.2.1.2.1 x.1.2.2.2.2.2.2.1 x.1.2.2.2.2.2.2.2.1 x.2.1 x.2.2.1 x.2.2.2.2.2.2.2.2.1 x.2.2.2.2.2.2.2.2.2.1) (fun z => (((), (z.1, z.2.1, z.2.2.1, ()), (z.2.2.2.1, z.2.2.2.2.1, z.2.2.2.2.2.1, ()), (z.2.2.2.2.2.2.1, z.2.2.2.2.2.2.2.1, (), ()), z.2.2.2.2.2.2.2.2.1, (z.2.2.2.2.2.2.2.2.2.1, z.2.2.2.2.2.2.2.2.2.2.1, (), ()), z.2.2.2.2.2.2.2.2.2.2.2.1, z.2.2.2.2.2.2.2.2.2.2.2.2.1, ()), (z.2.2.2.2.2.2.2.2.2.2.2.2.2, (), (), (), (), (), ()))) (fun y => (y.1.2.1.1, y.1.2.1.2.1, y.1.2.1.2.2.1, y.1.2.2.1.1, y.1.2.2.1.2.1, y.1.2.2.1.2.2.1, y.1.2.2.2.1.1, y.1.2.2.2.1.2.1, y.1.2.2.2.2.1, y.1.2.2.2.2.2.1.1, y.1.2.2.2.2.2.1.2.1, y.1.2.2.2.2.2.2.1, y.1.2.2.2.2.2.2.2.1, y.2.1)) (fun _ => rfl) Zjp ZjL ZkL
noncomputable def Z77 : Nat → Int → Int → List (Int × Int) → Int → Int → Int → Int → Int → List (Int × Int) → Int → Int → List (Int × Int) → List (List Int) → Int → Option (Int × Int × Int × Int × Int × List (Int × Int) × List (List Int)) := fun k b1_0 b1_1 b1_2 b2_0 b2_1 b2_2 b3_0 b3_1 o4 b5_0 b5_1 o6 o7 v2 =>
    some ((1 : Int), b1_0, v2, b5_0, b5_1, o6, o7)
noncomputable def ZaL : Nat → Int → Int → List (Int × Int) → Int → Int → Int → Int → Int → List (Int × Int) → Int → Int → List (Int × Int) → List (List Int) → Int → Option (List (Int × Int × Int × Int × Int × List (Int × Int) × List (List Int))) := fun k b1_0 b1_1 b1_2 b2_0 b2_1 b2_2 b3_0 b3_1 o4 b5_0 b5_1 o6 o7 v2 =>
    joinL (some [((1 : Int), b1_0, v2, b5_0, b5_1, o6, o7)]) (some [((1 : Int), b1_0, v2, b5_0, b5_1, o6, o7)])
noncomputable def ZjU : Spec := Spec.mk [OSh.ro, OSh.box (53 : Nat) [Sh.int .i64, Sh.int .i64, Sh.snap (0 : Nat) (Ty.pair (Ty.int .i64) (Ty.int .i64))], OSh.box (63 : Nat) [Sh.int .i64, Sh.int .i64, Sh.int .i64], OSh.box (53 : Nat) [Sh.int .i64, Sh.int .i64, Sh.sl (4 : Nat)], OSh.row true (79 : Nat) (Ty.pair (Ty.int .i64) (Ty.int .i64)), OSh.box (53 : Nat) [Sh.int .i64, Sh.int .i64, Sh.sl (6 : Nat)], OSh.row true (79 : Nat) (Ty.pair (Ty.int .i64) (Ty.int .i64)), OSh.row true (34 : Nat) (Ty.slice (3 : Nat) (Ty.int .i64))] [((2 : Nat), TSh.at (Sh.int .i64)), ((3 : Nat), TSh.at (Sh.ptr (1 : Nat) (0 : Nat))), ((6 : Nat), TSh.at (Sh.ptr (2 : Nat) (0 : Nat))), ((7 : Nat), TSh.at (Sh.ptr (3 : Nat) (0 : Nat))), ((9 : Nat), TSh.at (Sh.ptr (5 : Nat) (0 : Nat))), ((10 : Nat), TSh.at (Sh.sl (7 : Nat)))]
noncomputable def Zw6 : Spec := Spec.mk [OSh.ro, OSh.box (63 : Nat) [Sh.int .i64, Sh.int .i64, Sh.int .i64], OSh.box (53 : Nat) [Sh.int .i64, Sh.int .i64, Sh.sl (3 : Nat)], OSh.row true (79 : Nat) (Ty.pair (Ty.int .i64) (Ty.int .i64)), OSh.row true (34 : Nat) (Ty.slice (3 : Nat) (Ty.int .i64))] [((6 : Nat), TSh.at (Sh.ptr (1 : Nat) (0 : Nat))), ((7 : Nat), TSh.at (Sh.ptr (2 : Nat) (0 : Nat))), ((8 : Nat), TSh.at (Sh.sl (4 : Nat)))]
noncomputable def Z63 : LoopDef (Tup Z6D × OutD) := .plain ZjU Zw6 (Int × Int × Int × Int × Int × List (Int × Int) × List (List Int)) (fun k x => Z77 k x.1.2.1.1 x.1.2.1.2.1 x.1.2.1.2.2.1 x.1.2.2.1.1 x.1.2.2.1.2.1 x.1.2.2.1.2.2.1 x.1.2.2.2.1.1 x.1.2.2.2.1.2.1 x.1.2.2.2.2.1 x.1.2.2.2.2.2.1.1 x.1.2.2.2.2.2.1.2.1 x.1.2.2.2.2.2.2.1 x.1.2.2.2.2.2.2.2.1 x.2.1) (fun z => (((), (z.1, z.2.1, z.2.2.1, ()), (z.2.2.2.1, z.2.2.2.2.1, (), ()), z.2.2.2.2.2.1, z.2.2.2.2.2.2, ()), ((), (), (), ()))) (fun y => (y.1.2.1.1, y.1.2.1.2.1, y.1.2.1.2.2.1, y.1.2.2.1.1, y.1.2.2.1.2.1, y.1.2.2.2.1, y.1.2.2.2.2.1)) (fun _ => rfl)
theorem ZvT (k : Nat) (b1_0 : Int) (b1_1 : Int) (b1_2 : List (Int × Int)) (b2_0 : Int) (b2_1 : Int) (b2_2 : Int) (b3_0 : Int) (b3_1 : Int) (o4 : List (Int × Int)) (b5_0 : Int) (b5_1 : Int) (o6 : List (Int × Int)) (o7 : List (List Int)) (v2 : Int) : ZaL k b1_0 b1_1 b1_2 b2_0 b2_1 b2_2 b3_0 b3_1 o4 b5_0 b5_1 o6 o7 v2 = repl 2 (Z77 k b1_0 b1_1 b1_2 b2_0 b2_1 b2_2 b3_0 b3_1 o4 b5_0 b5_1 o6 o7 v2) := by
 first
 | (simp only [ZaL, Z77, Zb, Zg, Zc, Za, Z9, Z8, if_true]; done)
 | (simp only [ZaL, Z77, Zb, Zg, Zc, Za, Z9, Z8, if_true]; simp only [Z4y, Z4u, Z7o, Z8]; simp only [Z9c]; exact Z5J ⟨fun h => by simp only [h, and_self], fun h => by simp only [h, and_self]⟩)
noncomputable def ZgN : Nat → Int × Int × List (Int × Int) → List Int → Int → Option ((Int × Int × Int) × (Int × Int × List (Int × Int)) × List (List Int))
 | 0, _, _, _ => none
 | k + 1, p0, p1, p2 =>
  Option.bind (Z3B k (Prod.fst p0, Prod.fst p0.2, Prod.snd p0.2)) fun z0 => Option.bind (Z5D k p0.1 p0.2.1 p0.2.2 (0 : Int) (0 : Int) (0 : Int) (0 : Int) (0 : Int) [] z0.1 z0.2.1 z0.2.2 [] p1 p2 (0 : Int) (0 : Int)) fun z7 => LR.on z7 (fun y7 => Option.bind (Z77 k y7.1 y7.2.1 y7.2.2.1 y7.2.2.2.1 y7.2.2.2.2.1 y7.2.2.2.2.2.1 y7.2.2.2.2.2.2.1 y7.2.2.2.2.2.2.2.1 y7.2.2.2.2.2.2.2.2.1 y7.2.2.2.2.2.2.2.2.2.1 y7.2.2.2.2.2.2.2.2.2.2.1 y7.2.2.2.2.2.2.2.2.2.2.2.1 y7.2.2.2.2.2.2.2.2.2.2.2.2.1 y7.2.2.2.2.2.2.2.2.2.2.2.2.2) fun z8 => some ((Prod.fst z8, Prod.fst z8.2, Prod.fst z8.2.2), (Prod.fst z8.2.2.2, Prod.fst z8.2.2.2.2, Prod.fst z8.2.2.2.2.2), Prod.snd z8.2.2.2.2.2)) fun r7 => some r7
noncomputable def Z85 : FnDef := .of Zvj Z6D ((Int × Int × Int) × (Int × Int × List (Int × Int)) × List (List Int)) (fun k x => ZgN k x.1 x.2.1 x.2.2.1) Zjp ZjL ZkL
noncomputable def Z9S : Code := Try.f194.body.getD .skip
noncomputable def ZE : Ctx (Tup Z6D × OutD) := { T := T, G := [(184, Z3y.E), (183, Z55.E), (211, Z4z.E), (212, Z4x.E), (96, Z2t.E)], mvs := [], no := 0, n := 75, res := resOf T Zvj Z6D Try.f194.results.toList, loops := [(0, Z8m.E)], regs := [(10, Z64.E), (16, Z66.E), (17, Z63.E)], conds := [] }
theorem Zdy (k : Nat) : EnvOK Try.prog k ZE.G := (EnvOK.cons (ZeK k) (EnvOK.cons (ZlC k) (EnvOK.cons (ZpM k) (EnvOK.cons (Zpk k) (EnvOK.cons (Z9T k) (EnvOK.nil mixed))))))
noncomputable def Zec : Array Oper := (findReg 10 Z9S).getD #[]
theorem Zwl (k : Nat) (x : Zjn.D) : execD ZE.T ZE.G ZE.mvs k Zec (Z64.inp.st ZE.n x) (outK ZE Z64) = ZaO k x.1.2.1.1 x.1.2.1.2.1 x.1.2.1.2.2.1 x.1.2.2.1.1 x.1.2.2.1.2.1 x.1.2.2.2.1 x.1.2.2.2.2.1.1 x.1.2.2.2.2.1.2.1 x.1.2.2.2.2.2.1 x.1.2.2.2.2.2.2.1 x.2.1 x.2.2.2.2.2.2.1 := by kernel_rfl
theorem Zuv (k : Nat) : EOK Try.prog ZE k Z64.E (.region 10 Zec true) := Zau (D := Z64) (m := 2) T_ok (Zdy k) (fun x => (Zwl k x).trans (ZvR k x.1.2.1.1 x.1.2.1.2.1 x.1.2.1.2.2.1 x.1.2.2.1.1 x.1.2.2.1.2.1 x.1.2.2.2.1 x.1.2.2.2.2.1.1 x.1.2.2.2.2.1.2.1 x.1.2.2.2.2.2.1 x.1.2.2.2.2.2.2.1 x.2.1 x.2.2.2.2.2.2.1))
noncomputable def Zeh : Array Oper := (findReg 16 Z9S).getD #[]
theorem ZvF (k : Nat) (x : Zj5.D) : execD ZE.T ZE.G ZE.mvs k Zeh (Z66.inp.st ZE.n x) (outK ZE Z66) = ZaU k x.1.2.1.1 x.1.2.1.2.1 x.1.2.1.2.2.1 x.1.2.2.1.1 x.1.2.2.1.2.1 x.1.2.2.2.1 x.1.2.2.2.2.1.1 x.1.2.2.2.2.1.2.1 x.1.2.2.2.2.2.1 x.1.2.2.2.2.2.2.1 x.2.1 x.2.2.2.2.2.2.1 := by kernel_rfl
theorem Zv0 (k : Nat) : EOK Try.prog ZE k Z66.E (.region 16 Zeh true) := Zau (D := Z66) (m := 2) T_ok (Zdy k) (fun x => (ZvF k x).trans (Zwy k x.1.2.1.1 x.1.2.1.2.1 x.1.2.1.2.2.1 x.1.2.2.1.1 x.1.2.2.1.2.1 x.1.2.2.2.1 x.1.2.2.2.2.1.1 x.1.2.2.2.2.1.2.1 x.1.2.2.2.2.2.1 x.1.2.2.2.2.2.2.1 x.2.1 x.2.2.2.2.2.2.1))
noncomputable def Zef : Array Oper := (findReg 17 Z9S).getD #[]
theorem Zwb (k : Nat) (x : ZjU.D) : execD ZE.T ZE.G ZE.mvs k Zef (Z63.inp.st ZE.n x) (outK ZE Z63) = ZaL k x.1.2.1.1 x.1.2.1.2.1 x.1.2.1.2.2.1 x.1.2.2.1.1 x.1.2.2.1.2.1 x.1.2.2.1.2.2.1 x.1.2.2.2.1.1 x.1.2.2.2.1.2.1 x.1.2.2.2.2.1 x.1.2.2.2.2.2.1.1 x.1.2.2.2.2.2.1.2.1 x.1.2.2.2.2.2.2.1 x.1.2.2.2.2.2.2.2.1 x.2.1 := by kernel_rfl
theorem ZtM (k : Nat) : EOK Try.prog ZE k Z63.E (.region 17 Zef true) := Zau (D := Z63) (m := 2) T_ok (Zdy k) (fun x => (Zwb k x).trans (ZvT k x.1.2.1.1 x.1.2.1.2.1 x.1.2.1.2.2.1 x.1.2.2.1.1 x.1.2.2.1.2.1 x.1.2.2.1.2.2.1 x.1.2.2.2.1.1 x.1.2.2.2.1.2.1 x.1.2.2.2.2.1 x.1.2.2.2.2.2.1.1 x.1.2.2.2.2.2.1.2.1 x.1.2.2.2.2.2.2.1 x.1.2.2.2.2.2.2.2.1 x.2.1))
noncomputable def ZcX : Code := (findLoop 0 Z9S).getD .skip
theorem ZyP (k : Nat) (x : ZgD.D) : Z8m.lp (k + 1) x = loopK ZE Z8m 0 ZcX k x := by kernel_rfl
theorem ZyI (k : Nat) : LOK Try.prog ZE k ZcX := LOK.by [(Z64.E, .region 10 Zec true), (Z66.E, .region 16 Zeh true)] (by kernel_rfl) (AllOK.cons (Zuv k) (AllOK.cons (Zv0 k) AllOK.nil))
theorem ZyQ (x : ZgD.D) : Z8m.lp 0 x = none := by kernel_rfl
theorem ZxF (k : Nat) : EOK Try.prog ZE k Z8m.E (.block 0 (.loop ZcX)) := Zp T_ok Zdy ZyQ ZyP ZyI k
theorem ZC4 (k : Nat) (x : Tup Z85.ps) : Z85.f (k + 1) x = fnK Z85 ZE Z9S k x := by kernel_rfl
theorem ZC9 (x : Tup Z85.ps) : Z85.f 0 x = none := by kernel_rfl
theorem ZCC (k : Nat) : LOK Try.prog ZE k Z9S := LOK.by [(Z8m.E, .block 0 (.loop ZcX)), (Z63.E, .region 17 Zef true)] (by kernel_rfl) (AllOK.cons (ZxF k) (AllOK.cons (ZtM k) AllOK.nil))
theorem ZBQ (k : Nat) : SoundAt Try.prog k 194 Z85.E := @Ze Try.prog Z85 ZE 194 Try.f194 Z9S (by kernel_rfl) (by kernel_rfl) (by kernel_rfl) Try.func194 (by kernel_rfl) (by kernel_rfl) (by kernel_rfl) T_ok Zdy ZCC ZC9 ZC4 k
noncomputable def ZbD : List PK := [PK.mk (Ty.pair (Ty.int .i64) (Ty.pair (Ty.int .i64) (Ty.int .i64))) true none false none, PK.mk (Ty.slice (3 : Nat) (Ty.int .i64)) false none false none]
noncomputable def Zvw : List PK := [PK.mk (Ty.pair (Ty.int .i64) (Ty.pair (Ty.int .i64) (Ty.slice (79 : Nat) (Ty.pair (Ty.int .i64) (Ty.int .i64))))) true (some ((2 : Nat), (79 : Nat), Ty.pair (Ty.int .i64) (Ty.int .i64))) false none, PK.mk (Ty.slice (3 : Nat) (Ty.int .i64)) false none false none, PK.mk (Ty.int .i64) false none false none]
noncomputable def ZjE (r : (Int × Int × Int) × List Int × List (Int × Int)) : Tup ZbD × OutD := ((r.1, r.2.1, ()), some ⟨Ty.pair (Ty.int .i64) (Ty.int .i64), r.2.2⟩)
noncomputable def Zfb : Tup ZbD × OutD → Option ((Int × Int × Int) × List Int × List (Int × Int))
 | (a, some ⟨u, ys⟩) => if h : u = Ty.pair (Ty.int .i64) (Ty.int .i64) then some (a.1, a.2.1, castU h ys) else none
 | _ => none
theorem Zl9 : ∀ b r, Zfb b = some r → ZjE r = b := by
 rintro ⟨a, o⟩ r h
 cases o with
 | none => cases h
 | some s =>
  obtain ⟨u, ys⟩ := s
  simp only [Zfb] at h
  split at h
  ·rename_i hu; subst hu; injection h with h; subst h; rfl
  ·cases h
noncomputable def Z2M : Nat → List (Int × Int) → Int → Int → Int → Int → Int → List Int → List Int → Int → Int → Int → Option (LR (List (Int × Int) × Int × Int × Int × Int × Int × List Int × Int) ((Int × Int × Int) × List Int × List (Int × Int)))
 | 0, _, _, _, _, _, _, _, _, _, _, _ => none
 | k + 1, o1, b2_0, b2_1, b3_0, b3_1, b3_2, o4, v1, v2, v9, v10 =>
  if decide (v10 < b2_0) = true then if List.length o4 + List.length [wrap64 (wrap64 (v10 * b2_1) + v2)] ≤ (140737488355328 / 8 : Nat) then if (0 : Int) ≤ wrap64 (wrap64 (v10 * b2_1) + v2) then if wrap64 (wrap64 (v10 * b2_1) + v2) < (↑(List.length o1) : Int) then Option.bind (Zby k (Prod.fst (List.getD o1 (Int.toNat (wrap64 (wrap64 (v10 * b2_1) + v2))) ((0 : Int), (0 : Int))), Prod.snd (List.getD o1 (Int.toNat (wrap64 (wrap64 (v10 * b2_1) + v2))) ((0 : Int), (0 : Int)))) v9) fun z0 => if (!Prod.snd z0) = true then some (LR.ret (((2 : Int), v10, v2), o4 ++ [wrap64 (wrap64 (v10 * b2_1) + v2)], o1)) else if decide (Prod.fst (List.getD o1 (Int.toNat (wrap64 (wrap64 (v10 * b2_1) + v2))) ((0 : Int), (0 : Int))) = (3 : Int)) = true then if (0 : Int) ≤ wrap64 (wrap64 (v10 * b2_1) + v2) then if wrap64 (wrap64 (v10 * b2_1) + v2) < (↑(List.length o1) : Int) then if decide (Prod.fst (List.getD o1 (Int.toNat (wrap64 (wrap64 (v10 * b2_1) + v2))) ((0 : Int), (0 : Int))) = (6 : Int)) = true then Option.bind (Z8t k (b2_0, b2_1, List.set o1 (Int.toNat (wrap64 (wrap64 (v10 * b2_1) + v2))) (Prod.fst (List.getD o1 (Int.toNat (wrap64 (wrap64 (v10 * b2_1) + v2))) ((0 : Int), (0 : Int))), wrap64 ((1 : Int) - Prod.snd (List.getD o1 (Int.toNat (wrap64 (wrap64 (v10 * b2_1) + v2))) ((0 : Int), (0 : Int)))))) v1 (wrap64 (wrap64 (v10 * b2_1) + v2))) fun z1 => if decide (wrap64 (v2 + Prod.fst z0) < (0 : Int)) = true then some (LR.ret (((3 : Int), v10, wrap64 (v2 + Prod.fst z0)), o4 ++ [wrap64 (wrap64 (v10 * b2_1) + v2)], z1)) else if decide (wrap64 (v2 + Prod.fst z0) ≥ b2_1) = true then some (LR.ret (((3 : Int), v10, wrap64 (v2 + Prod.fst z0)), o4 ++ [wrap64 (wrap64 (v10 * b2_1) + v2)], z1)) else Z2M k z1 b2_0 b2_1 b3_0 b3_1 b3_2 (o4 ++ [wrap64 (wrap64 (v10 * b2_1) + v2)]) v1 (wrap64 (v2 + Prod.fst z0)) (wrap64 ((0 : Int) - Prod.fst z0)) (wrap64 (v10 + (1 : Int))) else if decide (wrap64 (v2 + Prod.fst z0) < (0 : Int)) = true then some (LR.ret (((3 : Int), v10, wrap64 (v2 + Prod.fst z0)), o4 ++ [wrap64 (wrap64 (v10 * b2_1) + v2)], List.set o1 (Int.toNat (wrap64 (wrap64 (v10 * b2_1) + v2))) (Prod.fst (List.getD o1 (Int.toNat (wrap64 (wrap64 (v10 * b2_1) + v2))) ((0 : Int), (0 : Int))), wrap64 ((1 : Int) - Prod.snd (List.getD o1 (Int.toNat (wrap64 (wrap64 (v10 * b2_1) + v2))) ((0 : Int), (0 : Int))))))) else if decide (wrap64 (v2 + Prod.fst z0) ≥ b2_1) = true then some (LR.ret (((3 : Int), v10, wrap64 (v2 + Prod.fst z0)), o4 ++ [wrap64 (wrap64 (v10 * b2_1) + v2)], List.set o1 (Int.toNat (wrap64 (wrap64 (v10 * b2_1) + v2))) (Prod.fst (List.getD o1 (Int.toNat (wrap64 (wrap64 (v10 * b2_1) + v2))) ((0 : Int), (0 : Int))), wrap64 ((1 : Int) - Prod.snd (List.getD o1 (Int.toNat (wrap64 (wrap64 (v10 * b2_1) + v2))) ((0 : Int), (0 : Int))))))) else Z2M k (List.set o1 (Int.toNat (wrap64 (wrap64 (v10 * b2_1) + v2))) (Prod.fst (List.getD o1 (Int.toNat (wrap64 (wrap64 (v10 * b2_1) + v2))) ((0 : Int), (0 : Int))), wrap64 ((1 : Int) - Prod.snd (List.getD o1 (Int.toNat (wrap64 (wrap64 (v10 * b2_1) + v2))) ((0 : Int), (0 : Int)))))) b2_0 b2_1 b3_0 b3_1 b3_2 (o4 ++ [wrap64 (wrap64 (v10 * b2_1) + v2)]) v1 (wrap64 (v2 + Prod.fst z0)) (wrap64 ((0 : Int) - Prod.fst z0)) (wrap64 (v10 + (1 : Int))) else none else none else if decide (Prod.fst (List.getD o1 (Int.toNat (wrap64 (wrap64 (v10 * b2_1) + v2))) ((0 : Int), (0 : Int))) = (6 : Int)) = true then Option.bind (Z8t k (b2_0, b2_1, o1) v1 (wrap64 (wrap64 (v10 * b2_1) + v2))) fun z2 => if decide (wrap64 (v2 + Prod.fst z0) < (0 : Int)) = true then some (LR.ret (((3 : Int), v10, wrap64 (v2 + Prod.fst z0)), o4 ++ [wrap64 (wrap64 (v10 * b2_1) + v2)], z2)) else if decide (wrap64 (v2 + Prod.fst z0) ≥ b2_1) = true then some (LR.ret (((3 : Int), v10, wrap64 (v2 + Prod.fst z0)), o4 ++ [wrap64 (wrap64 (v10 * b2_1) + v2)], z2)) else Z2M k z2 b2_0 b2_1 b3_0 b3_1 b3_2 (o4 ++ [wrap64 (wrap64 (v10 * b2_1) + v2)]) v1 (wrap64 (v2 + Prod.fst z0)) (wrap64 ((0 : Int) - Prod.fst z0)) (wrap64 (v10 + (1 : Int))) else if decide (wrap64 (v2 + Prod.fst z0) < (0 : Int)) = true then some (LR.ret (((3 : Int), v10, wrap64 (v2 + Prod.fst z0)), o4 ++ [wrap64 (wrap64 (v10 * b2_1) + v2)], o1)) else if decide (wrap64 (v2 + Prod.fst z0) ≥ b2_1) = true then some (LR.ret (((3 : Int), v10, wrap64 (v2 + Prod.fst z0)), o4 ++ [wrap64 (wrap64 (v10 * b2_1) + v2)], o1)) else Z2M k o1 b2_0 b2_1 b3_0 b3_1 b3_2 (o4 ++ [wrap64 (wrap64 (v10 * b2_1) + v2)]) v1 (wrap64 (v2 + Prod.fst z0)) (wrap64 ((0 : Int) - Prod.fst z0)) (wrap64 (v10 + (1 : Int))) else none else none else none else some (LR.go (o1, b2_0, b2_1, b3_0, b3_1, b3_2, o4, v2))
noncomputable def Zgv : Spec := Spec.mk [OSh.ro, OSh.row false (79 : Nat) (Ty.pair (Ty.int .i64) (Ty.int .i64)), OSh.box (53 : Nat) [Sh.int .i64, Sh.int .i64, Sh.sl (1 : Nat)], OSh.box (63 : Nat) [Sh.int .i64, Sh.int .i64, Sh.int .i64], OSh.row true (3 : Nat) (Ty.int .i64)] [((1 : Nat), TSh.at (Sh.snap (0 : Nat) (Ty.int .i64))), ((2 : Nat), TSh.at (Sh.int .i64)), ((3 : Nat), TSh.at (Sh.ptr (2 : Nat) (0 : Nat))), ((6 : Nat), TSh.at (Sh.ptr (3 : Nat) (0 : Nat))), ((8 : Nat), TSh.at (Sh.sl (4 : Nat))), ((9 : Nat), TSh.at (Sh.int .i64)), ((10 : Nat), TSh.at (Sh.int .i64))]
noncomputable def ZyN : Spec := Spec.mk [OSh.ro, OSh.row false (79 : Nat) (Ty.pair (Ty.int .i64) (Ty.int .i64)), OSh.box (53 : Nat) [Sh.int .i64, Sh.int .i64, Sh.sl (1 : Nat)], OSh.box (63 : Nat) [Sh.int .i64, Sh.int .i64, Sh.int .i64], OSh.row true (3 : Nat) (Ty.int .i64)] [((2 : Nat), TSh.at (Sh.int .i64)), ((3 : Nat), TSh.at (Sh.ptr (2 : Nat) (0 : Nat))), ((6 : Nat), TSh.at (Sh.ptr (3 : Nat) (0 : Nat))), ((8 : Nat), TSh.at (Sh.sl (4 : Nat)))]
noncomputable def Z8c : LoopDef (Tup ZbD × OutD) := .rets Zgv ZyN (List (Int × Int) × Int × Int × Int × Int × Int × List Int × Int) ((Int × Int × Int) × List Int × List (Int × Int)) (fun k x => Z2M k x.1.2.1 x.1.2.2.1.1 x.1.2.2.1.2.1 x.1.2.2.2.1.1 x.1.2.2.2.1.2.1 x.1.2.2.2.1.2.2.1 x.1.2.2.2.2.1 x.2.1 x.2.2.1 x.2.2.2.2.2.2.1 x.2.2.2.2.2.2.2.1) (fun z => (((), z.1, (z.2.1, z.2.2.1, (), ()), (z.2.2.2.1, z.2.2.2.2.1, z.2.2.2.2.2.1, ()), z.2.2.2.2.2.2.1, ()), (z.2.2.2.2.2.2.2, (), (), (), ()))) (fun y => (y.1.2.1, y.1.2.2.1.1, y.1.2.2.1.2.1, y.1.2.2.2.1.1, y.1.2.2.2.1.2.1, y.1.2.2.2.1.2.2.1, y.1.2.2.2.2.1, y.2.1)) (fun _ => rfl) ZjE Zfb Zl9
noncomputable def ZgU : Nat → Int × Int × List (Int × Int) → List Int → Int → Option ((Int × Int × Int) × List Int × List (Int × Int))
 | 0, _, _, _ => none
 | k + 1, p0, p1, p2 =>
  Option.bind (Z2M k p0.2.2 p0.1 p0.2.1 (0 : Int) (0 : Int) (0 : Int) [] p1 p2 (0 : Int) (0 : Int)) fun z3 => LR.on z3 (fun y3 => some (((1 : Int), Prod.fst y3.2, Prod.snd y3.2.2.2.2.2.2), Prod.fst y3.2.2.2.2.2.2, Prod.fst y3)) fun r3 => some r3
noncomputable def Z86 : FnDef := .of Zvw ZbD ((Int × Int × Int) × List Int × List (Int × Int)) (fun k x => ZgU k x.1 x.2.1 x.2.2.1) ZjE Zfb Zl9
noncomputable def ZgT : Code := Try.f196.body.getD .skip
noncomputable def Z9N : Ctx (Tup ZbD × OutD) := { T := T, G := [(187, Z4v.E), (214, Z3z.E)], mvs := [], no := 1, n := 89, res := resOf T Zvw ZbD Try.f196.results.toList, loops := [(0, Z8c.E)], regs := [], conds := [] }
theorem Zvl (k : Nat) : EnvOK Try.prog k Z9N.G := (EnvOK.cons (ZpI k) (EnvOK.cons (Zvz k) (EnvOK.nil mixed)))
noncomputable def ZcS : Code := (findLoop 0 ZgT).getD .skip
theorem ZyO (k : Nat) (x : Zgv.D) : Z8c.lp (k + 1) x = loopK Z9N Z8c 0 ZcS k x := by kernel_rfl
theorem Zzd (k : Nat) : LOK Try.prog Z9N k ZcS := LOK.by [] (by kernel_rfl) AllOK.nil
theorem ZyT (x : Zgv.D) : Z8c.lp 0 x = none := by kernel_rfl
theorem Zxj (k : Nat) : EOK Try.prog Z9N k Z8c.E (.block 0 (.loop ZcS)) := Zp T_ok Zvl ZyT ZyO Zzd k
theorem ZC7 (k : Nat) (x : Tup Z86.ps) : Z86.f (k + 1) x = fnK Z86 Z9N ZgT k x := by kernel_rfl
theorem ZCy (x : Tup Z86.ps) : Z86.f 0 x = none := by kernel_rfl
theorem ZC3 (k : Nat) : LOK Try.prog Z9N k ZgT := LOK.by [(Z8c.E, .block 0 (.loop ZcS))] (by kernel_rfl) (AllOK.cons (Zxj k) AllOK.nil)
theorem ZCD (k : Nat) : SoundAt Try.prog k 196 Z86.E := @Ze Try.prog Z86 Z9N 196 Try.f196 ZgT (by kernel_rfl) (by kernel_rfl) (by kernel_rfl) Try.func196 (by kernel_rfl) (by kernel_rfl) (by kernel_rfl) T_ok Zvl ZC3 ZCy ZC7 k
noncomputable def Z7L : List PK := [PK.mk (Ty.pair (Ty.int .i64) (Ty.int .i64)) true none false none]
noncomputable def Zi5 : List PK := [PK.mk (Ty.pair (Ty.slice (5 : Nat) (Ty.int .u8)) (Ty.pair (Ty.int .i64) (Ty.int .u64))) false none false (some (114 : Nat))]
noncomputable def Zhy (r : (Int × Int) × Int × Int) : Tup Z7L × OutD := ((r.1, ()), some ⟨Ty.pair (Ty.slice (5 : Nat) (Ty.int .u8)) (Ty.pair (Ty.int .i64) (Ty.int .u64)), [([], r.2)]⟩)
noncomputable def ZcA : Tup Z7L × OutD → Option ((Int × Int) × Int × Int)
 | (a, some ⟨u, ys⟩) => if h : u = Ty.pair (Ty.slice (5 : Nat) (Ty.int .u8)) (Ty.pair (Ty.int .i64) (Ty.int .u64)) then (match castU h ys with
  | [([], y)] => some (a.1, y)
  | _ => none) else none
 | _ => none
theorem Zn4 : ∀ b r, ZcA b = some r → Zhy r = b := by
 rintro ⟨a, o⟩ r h
 cases o with
 | none => cases h
 | some s =>
  obtain ⟨u, ys⟩ := s
  simp only [ZcA] at h
  split at h
  ·rename_i hu
   subst hu
   match ys, h with
   | [], h => cases (show (none : Option _) = some r from h)
   | [([], y)], h => injection (show some _ = some r from h) with h; subst h; rfl
   | [(_ :: _, y)], h => cases (show (none : Option _) = some r from h)
   | (h1, _) :: _ :: _, h => cases h1 <;> cases (show (none : Option _) = some r from h)
  ·cases h
noncomputable def Z44 : Nat → List Int × Int × Int → Option ((Int × Int) × Int × Int)
 | 0, _ => none
 | k + 1, p0 =>
  Option.bind (Zfy k) fun z0 => Option.bind (Z2 k (Prod.fst p0, Prod.fst p0.2, Prod.snd p0.2) (↑(List.length z0) : Int)) fun z1 => if (0 : Int) ≤ Prod.fst z1 then if Prod.fst z1 < (↑(List.length z0) : Int) then some ((Prod.fst (List.getD z0 (Int.toNat z1.1) ((0 : Int), (0 : Int))), Prod.snd (List.getD z0 (Int.toNat z1.1) ((0 : Int), (0 : Int)))), Prod.fst z1.2, Prod.snd z1.2) else none else none
noncomputable def Z2e : FnDef := .of Zi5 Z7L ((Int × Int) × Int × Int) (fun k x => Z44 k x.1) Zhy ZcA Zn4
noncomputable def Zdb : Code := Try.f205.body.getD .skip
noncomputable def Za1 : Ctx (Tup Z7L × OutD) := { T := T, G := [(216, Z6S.E), (111, ZI.E)], mvs := [], no := 2, n := 12, res := resOf T Zi5 Z7L Try.f205.results.toList, loops := [], regs := [], conds := [] }
theorem Zu6 (k : Nat) : EnvOK Try.prog k Za1.G := (EnvOK.cons (ZBF k) (EnvOK.cons (Z32 k) (EnvOK.nil mixed)))
theorem ZuU (k : Nat) (x : Tup Z2e.ps) : Z2e.f (k + 1) x = fnK Z2e Za1 Zdb k x := by kernel_rfl
theorem ZtV (x : Tup Z2e.ps) : Z2e.f 0 x = none := by kernel_rfl
theorem Zuq (k : Nat) : LOK Try.prog Za1 k Zdb := LOK.by [] (by kernel_rfl) AllOK.nil
theorem ZhY (k : Nat) : SoundAt Try.prog k 205 Z2e.E := @Ze Try.prog Z2e Za1 205 Try.f205 Zdb (by kernel_rfl) (by kernel_rfl) (by kernel_rfl) Try.func205 (by kernel_rfl) (by kernel_rfl) (by kernel_rfl) T_ok Zu6 Zuq ZtV ZuU k
end
end Go.Proofs.Ytgjmhbjdhihgaaa.Vs
