/- The proof, part 7. -/
import Derived.Test.Ytgjmhbjdhihgaaaqgm5
set_option maxRecDepth 100000
set_option maxHeartbeats 2000000
set_option linter.unusedVariables false
set_option linter.unusedSimpArgs false
namespace Go.Proofs.Ytgjmhbjdhihgaaa.Vs
open Go.RowKit
noncomputable section
noncomputable def Z7W : List PK := [PK.mk (Ty.int .i64) false none false none]
noncomputable def ZjN : List PK := [PK.mk (Ty.pair (Ty.slice (5 : Nat) (Ty.int .u8)) (Ty.pair (Ty.int .i64) (Ty.int .u64))) false none false (some (114 : Nat)), PK.mk (Ty.slice (3 : Nat) (Ty.int .i64)) false none false none]
noncomputable def Zix (r : Int × Int × Int) : Tup Z7W × OutD := ((r.1, ()), some ⟨Ty.pair (Ty.slice (5 : Nat) (Ty.int .u8)) (Ty.pair (Ty.int .i64) (Ty.int .u64)), [([], r.2)]⟩)
noncomputable def ZdF : Tup Z7W × OutD → Option (Int × Int × Int)
 | (a, some ⟨u, ys⟩) => if h : u = Ty.pair (Ty.slice (5 : Nat) (Ty.int .u8)) (Ty.pair (Ty.int .i64) (Ty.int .u64)) then (match castU h ys with
  | [([], y)] => some (a.1, y)
  | _ => none) else none
 | _ => none
theorem ZpD : ∀ b r, ZdF b = some r → Zix r = b := by
 rintro ⟨a, o⟩ r h
 cases o with
 | none => cases h
 | some s =>
  obtain ⟨u, ys⟩ := s
  simp only [ZdF] at h
  split at h
  ·rename_i hu
   subst hu
   match ys, h with
   | [], h => cases (show (none : Option _) = some r from h)
   | [([], y)], h => injection (show some _ = some r from h) with h; subst h; rfl
   | [(_ :: _, y)], h => cases (show (none : Option _) = some r from h)
   | (h1, _) :: _ :: _, h => cases h1 <;> cases (show (none : Option _) = some r from h)
  ·cases h
noncomputable def Zh : Nat → List Int × Int × Int → List Int → Option (Int × Int × Int)
 | 0, _, _ => none
 | k + 1, p0, p1 =>
  Option.bind (Z1 k (Prod.fst p0, Prod.fst p0.2, Prod.snd p0.2) (↑(List.length p1) : Int)) fun z0 => if (0 : Int) ≤ Prod.fst z0 then if Prod.fst z0 < (↑(List.length p1) : Int) then some (List.getD p1 (Int.toNat z0.1) (0 : Int), Prod.fst z0.2, Prod.snd z0.2) else none else none
noncomputable def ZQ : FnDef := .of ZjN Z7W (Int × Int × Int) (fun k x => Zh k x.1 x.2.1) Zix ZdF ZpD
noncomputable def ZeL : Code := Try.f90.body.getD .skip
noncomputable def Zbd : Ctx (Tup Z7W × OutD) := { T := T, G := [(111, Zm.E)], mvs := [], no := 2, n := 12, res := resOf T ZjN Z7W Try.f90.results.toList, loops := [], regs := [], conds := [] }
theorem ZxK (k : Nat) : EnvOK Try.prog k Zbd.G := (EnvOK.cons (Z1n k) (EnvOK.nil mixed))
theorem ZwC (k : Nat) (x : Tup ZQ.ps) : ZQ.f (k + 1) x = fnK ZQ Zbd ZeL k x := by kernel_rfl
theorem ZwT (x : Tup ZQ.ps) : ZQ.f 0 x = none := by kernel_rfl
theorem Zx2 (k : Nat) : LOK Try.prog Zbd k ZeL := LOK.by [] (by kernel_rfl) AllOK.nil
theorem Z5D (k : Nat) : SoundAt Try.prog k 90 ZQ.E := @Z4 Try.prog ZQ Zbd 90 Try.f90 ZeL (by kernel_rfl) (by kernel_rfl) (by kernel_rfl) Try.func90 (by kernel_rfl) (by kernel_rfl) (by kernel_rfl) T_ok ZxK Zx2 ZwT ZwC k
noncomputable def ZaR : List PK := [PK.mk Ty.bool false none false none]
noncomputable def Zup : List PK := [PK.mk (Ty.pair (Ty.int .i64) (Ty.pair (Ty.int .i64) (Ty.slice (79 : Nat) (Ty.pair (Ty.int .i64) (Ty.int .i64))))) true none false none, PK.mk (Ty.slice (77 : Nat) (Ty.pair (Ty.int .i64) (Ty.pair (Ty.int .i64) (Ty.int .i64)))) false none false none]
noncomputable def Zjj (r : Bool) : Tup ZaR × OutD := ((r, ()), none)
noncomputable def Zjf : Tup ZaR × OutD → Option (Bool)
 | (a, none) => some (a.1)
 | _ => none
theorem ZlL : ∀ b r, Zjf b = some r → Zjj r = b := by
 rintro ⟨a, o⟩ r h
 cases o with
 | none => injection h with h; subst h; rfl
 | some _ => cases h
noncomputable def Z84 : Nat → Int → Int → List (Int × Int) → List (Int × Int × Int) → Int → List (Int × Int × Int) → Int → Int → Option (LR (List (Int × Int × Int)) Bool)
 | 0, _, _, _, _, _, _, _, _ => none
 | k + 1, b1_0, b1_1, b1_2, v1, v5, v8, v9, v10 =>
  if decide (v10 < v9) = true then if (0 : Int) ≤ v10 then if v10 < (↑(List.length v8) : Int) then Option.bind (Z5Q k (Prod.fst (Prod.snd (List.getD v8 (Int.toNat v10) ((0 : Int), (0 : Int), (0 : Int))))) (0 : Int) (wrap64 (b1_0 - (1 : Int)))) fun z0 => if (!z0) = true then some (LR.ret false) else Option.bind (Z5Q k (Prod.snd (Prod.snd (List.getD v8 (Int.toNat v10) ((0 : Int), (0 : Int), (0 : Int))))) (0 : Int) (wrap64 (b1_1 - (1 : Int)))) fun z1 => if (!z1) = true then some (LR.ret false) else Option.bind (Zbp k (b1_0, b1_1, b1_2) (Prod.fst (Prod.snd (List.getD v8 (Int.toNat v10) ((0 : Int), (0 : Int), (0 : Int))))) (Prod.snd (Prod.snd (List.getD v8 (Int.toNat v10) ((0 : Int), (0 : Int), (0 : Int)))))) fun z2 => Option.bind (Zdr k (Prod.fst z2, Prod.snd z2) (Prod.fst (List.getD v8 (Int.toNat v10) ((0 : Int), (0 : Int), (0 : Int))))) fun z3 => if (!z3) = true then some (LR.ret false) else if decide (wrap64 (wrap64 (Prod.fst (Prod.snd (List.getD v8 (Int.toNat v10) ((0 : Int), (0 : Int), (0 : Int)))) * b1_1) + Prod.snd (Prod.snd (List.getD v8 (Int.toNat v10) ((0 : Int), (0 : Int), (0 : Int))))) ≤ v5) = true then some (LR.ret false) else Z84 k b1_0 b1_1 b1_2 v1 (wrap64 (wrap64 (Prod.fst (Prod.snd (List.getD v8 (Int.toNat v10) ((0 : Int), (0 : Int), (0 : Int)))) * b1_1) + Prod.snd (Prod.snd (List.getD v8 (Int.toNat v10) ((0 : Int), (0 : Int), (0 : Int)))))) v8 v9 (wrap64 (v10 + (1 : Int))) else none else none else some (LR.go v1)
noncomputable def Zgw : Spec := Spec.mk [OSh.ro, OSh.box (53 : Nat) [Sh.int .i64, Sh.int .i64, Sh.snap (0 : Nat) (Ty.pair (Ty.int .i64) (Ty.int .i64))]] [((1 : Nat), TSh.at (Sh.snap (0 : Nat) (Ty.pair (Ty.int .i64) (Ty.pair (Ty.int .i64) (Ty.int .i64))))), ((2 : Nat), TSh.at (Sh.ptr (1 : Nat) (0 : Nat))), ((5 : Nat), TSh.at (Sh.int .i64)), ((8 : Nat), TSh.at (Sh.snap (0 : Nat) (Ty.pair (Ty.int .i64) (Ty.pair (Ty.int .i64) (Ty.int .i64))))), ((9 : Nat), TSh.at (Sh.int .i64)), ((10 : Nat), TSh.at (Sh.int .i64))]
noncomputable def ZC1 : Spec := Spec.mk [OSh.ro] [((1 : Nat), TSh.at (Sh.snap (0 : Nat) (Ty.pair (Ty.int .i64) (Ty.pair (Ty.int .i64) (Ty.int .i64)))))]
noncomputable def Z73 : LoopDef (Tup ZaR × OutD) := .rets Zgw ZC1 (List (Int × Int × Int)) (Bool) (fun k x => Z84 k x.1.2.1.1 x.1.2.1.2.1 x.1.2.1.2.2.1 x.2.1 x.2.2.2.1 x.2.2.2.2.1 x.2.2.2.2.2.1 x.2.2.2.2.2.2.1) (fun z => (((), ()), (z, ()))) (fun y => (y.2.1)) (fun _ => rfl) Zjj Zjf ZlL
noncomputable def Z8R : Nat → Int × Int × List (Int × Int) → List (Int × Int × Int) → Option Bool
 | 0, _, _ => none
 | k + 1, p0, p1 =>
  Option.bind (Z84 k p0.1 p0.2.1 p0.2.2 p1 (-1 : Int) p1 (↑(List.length p1) : Int) (0 : Int)) fun z4 => LR.on z4 (fun y4 => some (decide ((↑(List.length y4) : Int) ≤ (4 : Int)))) fun r4 => some r4
noncomputable def Z3I : FnDef := .of Zup ZaR (Bool) (fun k x => Z8R k x.1 x.2.1) Zjj Zjf ZlL
noncomputable def Zg7 : Code := Try.f122.body.getD .skip
noncomputable def Z8I : Ctx (Tup ZaR × OutD) := { T := T, G := [(96, Z3K.E), (183, Z7x.E), (182, Z55.E)], mvs := [], no := 0, n := 66, res := resOf T Zup ZaR Try.f122.results.toList, loops := [(0, Z73.E)], regs := [], conds := [] }
theorem ZuI (k : Nat) : EnvOK Try.prog k Z8I.G := (EnvOK.cons (ZfU k) (EnvOK.cons (ZAr k) (EnvOK.cons (ZuL k) (EnvOK.nil mixed))))
noncomputable def ZcW : Code := (findLoop 0 Zg7).getD .skip
theorem ZBZ (k : Nat) (x : Zgw.D) : Z73.lp (k + 1) x = loopK Z8I Z73 0 ZcW k x := by kernel_rfl
theorem ZBS (k : Nat) : LOK Try.prog Z8I k ZcW := LOK.by [] (by kernel_rfl) AllOK.nil
theorem ZB0 (x : Zgw.D) : Z73.lp 0 x = none := by kernel_rfl
theorem ZyZ (k : Nat) : EOK Try.prog Z8I k Z73.E (.block 0 (.loop ZcW)) := Z7 T_ok ZuI ZB0 ZBZ ZBS k
theorem ZGD (k : Nat) (x : Tup Z3I.ps) : Z3I.f (k + 1) x = fnK Z3I Z8I Zg7 k x := by kernel_rfl
theorem ZGJ (x : Tup Z3I.ps) : Z3I.f 0 x = none := by kernel_rfl
theorem ZGg (k : Nat) : LOK Try.prog Z8I k Zg7 := LOK.by [(Z73.E, .block 0 (.loop ZcW))] (by kernel_rfl) (AllOK.cons (ZyZ k) AllOK.nil)
theorem ZkA (k : Nat) : SoundAt Try.prog k 122 Z3I.E := @Z4 Try.prog Z3I Z8I 122 Try.f122 Zg7 (by kernel_rfl) (by kernel_rfl) (by kernel_rfl) Try.func122 (by kernel_rfl) (by kernel_rfl) (by kernel_rfl) T_ok ZuI ZGg ZGJ ZGD k
noncomputable def Z6k : List PK := [PK.mk (Ty.pair (Ty.int .i64) (Ty.pair (Ty.int .i64) (Ty.int .i64))) true none false none]
noncomputable def Zlr : List PK := [PK.mk (Ty.pair (Ty.int .i64) (Ty.pair (Ty.int .i64) (Ty.slice (79 : Nat) (Ty.pair (Ty.int .i64) (Ty.int .i64))))) true (some ((2 : Nat), (79 : Nat), Ty.pair (Ty.int .i64) (Ty.int .i64))) false none, PK.mk (Ty.slice (3 : Nat) (Ty.int .i64)) false none false none, PK.mk (Ty.slice (3 : Nat) (Ty.int .i64)) false none false none, PK.mk (Ty.int .i64) false none false none]
noncomputable def Zev (r : (Int × Int × Int) × List (Int × Int)) : Tup Z6k × OutD := ((r.1, ()), some ⟨Ty.pair (Ty.int .i64) (Ty.int .i64), r.2⟩)
noncomputable def Zb1 : Tup Z6k × OutD → Option ((Int × Int × Int) × List (Int × Int))
 | (a, some ⟨u, ys⟩) => if h : u = Ty.pair (Ty.int .i64) (Ty.int .i64) then some (a.1, castU h ys) else none
 | _ => none
theorem Zha : ∀ b r, Zb1 b = some r → Zev r = b := by
 rintro ⟨a, o⟩ r h
 cases o with
 | none => cases h
 | some s =>
  obtain ⟨u, ys⟩ := s
  simp only [Zb1] at h
  split at h
  ·rename_i hu; subst hu; injection h with h; subst h; rfl
  ·cases h
noncomputable def ZU : Nat → List (Int × Int) → Int → Int → Int → Int → Int → List Int → List Int → Int → Int → Int → Option (LR (List (Int × Int) × Int × Int × Int × Int × Int × Int) ((Int × Int × Int) × List (Int × Int)))
 | 0, _, _, _, _, _, _, _, _, _, _, _ => none
 | k + 1, o1, b2_0, b2_1, b3_0, b3_1, b3_2, v1, v2, v3, v9, v10 =>
  if decide (v10 < b2_0) = true then if (0 : Int) ≤ wrap64 (wrap64 (v10 * b2_1) + v3) then if wrap64 (wrap64 (v10 * b2_1) + v3) < (↑(List.length v2) : Int) then if decide (List.getD v2 (Int.toNat (wrap64 (wrap64 (v10 * b2_1) + v3))) (0 : Int) = (2 : Int)) = true then some (LR.ret (((3 : Int), v10, v3), o1)) else if (0 : Int) ≤ wrap64 (wrap64 (v10 * b2_1) + v3) then if wrap64 (wrap64 (v10 * b2_1) + v3) < (↑(List.length o1) : Int) then Option.bind (Zgr k (Prod.fst (List.getD o1 (Int.toNat (wrap64 (wrap64 (v10 * b2_1) + v3))) ((0 : Int), (0 : Int))), Prod.snd (List.getD o1 (Int.toNat (wrap64 (wrap64 (v10 * b2_1) + v3))) ((0 : Int), (0 : Int)))) v9) fun z0 => if (!Prod.snd z0) = true then some (LR.ret (((2 : Int), v10, v3), o1)) else if (0 : Int) ≤ wrap64 (wrap64 (v10 * b2_1) + v3) then if wrap64 (wrap64 (v10 * b2_1) + v3) < (↑(List.length v2) : Int) then if decide (List.getD v2 (Int.toNat (wrap64 (wrap64 (v10 * b2_1) + v3))) (0 : Int) = (3 : Int)) = true then if (0 : Int) ≤ wrap64 (wrap64 (v10 * b2_1) + v3) then if wrap64 (wrap64 (v10 * b2_1) + v3) < (↑(List.length o1) : Int) then Option.bind (Z2D k (Prod.fst (List.getD o1 (Int.toNat (wrap64 (wrap64 (v10 * b2_1) + v3))) ((0 : Int), (0 : Int))), Prod.snd (List.getD o1 (Int.toNat (wrap64 (wrap64 (v10 * b2_1) + v3))) ((0 : Int), (0 : Int))))) fun z1 => if z1 = true then Option.bind (Z6o k (b2_0, b2_1, o1) v1 v2 (wrap64 (wrap64 (v10 * b2_1) + v3))) fun z2 => if decide (wrap64 (v3 + wrap64 ((0 : Int) - Prod.fst z0)) < (0 : Int)) = true then some (LR.ret (((3 : Int), v10, wrap64 (v3 + wrap64 ((0 : Int) - Prod.fst z0))), z2)) else if decide (wrap64 (v3 + wrap64 ((0 : Int) - Prod.fst z0)) ≥ b2_1) = true then some (LR.ret (((3 : Int), v10, wrap64 (v3 + wrap64 ((0 : Int) - Prod.fst z0))), z2)) else ZU k z2 b2_0 b2_1 b3_0 b3_1 b3_2 v1 v2 (wrap64 (v3 + wrap64 ((0 : Int) - Prod.fst z0))) (wrap64 ((0 : Int) - wrap64 ((0 : Int) - Prod.fst z0))) (wrap64 (v10 + (1 : Int))) else if decide (wrap64 (v3 + wrap64 ((0 : Int) - Prod.fst z0)) < (0 : Int)) = true then some (LR.ret (((3 : Int), v10, wrap64 (v3 + wrap64 ((0 : Int) - Prod.fst z0))), o1)) else if decide (wrap64 (v3 + wrap64 ((0 : Int) - Prod.fst z0)) ≥ b2_1) = true then some (LR.ret (((3 : Int), v10, wrap64 (v3 + wrap64 ((0 : Int) - Prod.fst z0))), o1)) else ZU k o1 b2_0 b2_1 b3_0 b3_1 b3_2 v1 v2 (wrap64 (v3 + wrap64 ((0 : Int) - Prod.fst z0))) (wrap64 ((0 : Int) - wrap64 ((0 : Int) - Prod.fst z0))) (wrap64 (v10 + (1 : Int))) else none else none else if (0 : Int) ≤ wrap64 (wrap64 (v10 * b2_1) + v3) then if wrap64 (wrap64 (v10 * b2_1) + v3) < (↑(List.length o1) : Int) then Option.bind (Z2D k (Prod.fst (List.getD o1 (Int.toNat (wrap64 (wrap64 (v10 * b2_1) + v3))) ((0 : Int), (0 : Int))), Prod.snd (List.getD o1 (Int.toNat (wrap64 (wrap64 (v10 * b2_1) + v3))) ((0 : Int), (0 : Int))))) fun z3 => if z3 = true then Option.bind (Z6o k (b2_0, b2_1, o1) v1 v2 (wrap64 (wrap64 (v10 * b2_1) + v3))) fun z4 => if decide (wrap64 (v3 + Prod.fst z0) < (0 : Int)) = true then some (LR.ret (((3 : Int), v10, wrap64 (v3 + Prod.fst z0)), z4)) else if decide (wrap64 (v3 + Prod.fst z0) ≥ b2_1) = true then some (LR.ret (((3 : Int), v10, wrap64 (v3 + Prod.fst z0)), z4)) else ZU k z4 b2_0 b2_1 b3_0 b3_1 b3_2 v1 v2 (wrap64 (v3 + Prod.fst z0)) (wrap64 ((0 : Int) - Prod.fst z0)) (wrap64 (v10 + (1 : Int))) else if decide (wrap64 (v3 + Prod.fst z0) < (0 : Int)) = true then some (LR.ret (((3 : Int), v10, wrap64 (v3 + Prod.fst z0)), o1)) else if decide (wrap64 (v3 + Prod.fst z0) ≥ b2_1) = true then some (LR.ret (((3 : Int), v10, wrap64 (v3 + Prod.fst z0)), o1)) else ZU k o1 b2_0 b2_1 b3_0 b3_1 b3_2 v1 v2 (wrap64 (v3 + Prod.fst z0)) (wrap64 ((0 : Int) - Prod.fst z0)) (wrap64 (v10 + (1 : Int))) else none else none else none else none else none else none else none else none else some (LR.go (o1, b2_0, b2_1, b3_0, b3_1, b3_2, v3))
noncomputable def ZcU : Spec := Spec.mk [OSh.ro, OSh.row false (79 : Nat) (Ty.pair (Ty.int .i64) (Ty.int .i64)), OSh.box (53 : Nat) [Sh.int .i64, Sh.int .i64, Sh.sl (1 : Nat)], OSh.box (63 : Nat) [Sh.int .i64, Sh.int .i64, Sh.int .i64]] [((1 : Nat), TSh.at (Sh.snap (0 : Nat) (Ty.int .i64))), ((2 : Nat), TSh.at (Sh.snap (0 : Nat) (Ty.int .i64))), ((3 : Nat), TSh.at (Sh.int .i64)), ((4 : Nat), TSh.at (Sh.ptr (2 : Nat) (0 : Nat))), ((8 : Nat), TSh.at (Sh.ptr (3 : Nat) (0 : Nat))), ((9 : Nat), TSh.at (Sh.int .i64)), ((10 : Nat), TSh.at (Sh.int .i64))]
noncomputable def ZsY : Spec := Spec.mk [OSh.ro, OSh.row false (79 : Nat) (Ty.pair (Ty.int .i64) (Ty.int .i64)), OSh.box (53 : Nat) [Sh.int .i64, Sh.int .i64, Sh.sl (1 : Nat)], OSh.box (63 : Nat) [Sh.int .i64, Sh.int .i64, Sh.int .i64]] [((3 : Nat), TSh.at (Sh.int .i64)), ((4 : Nat), TSh.at (Sh.ptr (2 : Nat) (0 : Nat))), ((8 : Nat), TSh.at (Sh.ptr (3 : Nat) (0 : Nat)))]
noncomputable def Z3N : LoopDef (Tup Z6k × OutD) := .rets ZcU ZsY (List (Int × Int) × Int × Int × Int × Int × Int × Int) ((Int × Int × Int) × List (Int × Int)) (fun k x => ZU k x.1.2.1 x.1.2.2.1.1 x.1.2.2.1.2.1 x.1.2.2.2.1.1 x.1.2.2.2.1.2.1 x.1.2.2.2.1.2.2.1 x.2.1 x.2.2.1 x.2.2.2.1 x.2.2.2.2.2.2.1 x.2.2.2.2.2.2.2.1) (fun z => (((), z.1, (z.2.1, z.2.2.1, (), ()), (z.2.2.2.1, z.2.2.2.2.1, z.2.2.2.2.2.1, ()), ()), (z.2.2.2.2.2.2, (), (), ()))) (fun y => (y.1.2.1, y.1.2.2.1.1, y.1.2.2.1.2.1, y.1.2.2.2.1.1, y.1.2.2.2.1.2.1, y.1.2.2.2.1.2.2.1, y.2.1)) (fun _ => rfl) Zev Zb1 Zha
noncomputable def ZbB : Nat → Int × Int × List (Int × Int) → List Int → List Int → Int → Option ((Int × Int × Int) × List (Int × Int))
 | 0, _, _, _, _ => none
 | k + 1, p0, p1, p2, p3 =>
  Option.bind (ZU k p0.2.2 p0.1 p0.2.1 (0 : Int) (0 : Int) (0 : Int) p1 p2 p3 (0 : Int) (0 : Int)) fun z5 => LR.on z5 (fun y5 => some (((1 : Int), Prod.fst y5.2, Prod.snd y5.2.2.2.2.2), Prod.fst y5)) fun r5 => some r5
noncomputable def Z32 : FnDef := .of Zlr Z6k ((Int × Int × Int) × List (Int × Int)) (fun k x => ZbB k x.1 x.2.1 x.2.2.1 x.2.2.2.1) Zev Zb1 Zha
noncomputable def ZbN : Code := Try.f126.body.getD .skip
noncomputable def Z4h : Ctx (Tup Z6k × OutD) := { T := T, G := [(187, Z6H.E), (188, Z2H.E), (189, Z2V.E)], mvs := [], no := 1, n := 87, res := resOf T Zlr Z6k Try.f126.results.toList, loops := [(0, Z3N.E)], regs := [], conds := [] }
theorem Zlu (k : Nat) : EnvOK Try.prog k Z4h.G := (EnvOK.cons (ZFt k) (EnvOK.cons (ZnO k) (EnvOK.cons (Zzz k) (EnvOK.nil mixed))))
noncomputable def Z97 : Code := (findLoop 0 ZbN).getD .skip
theorem Zst (k : Nat) (x : ZcU.D) : Z3N.lp (k + 1) x = loopK Z4h Z3N 0 Z97 k x := by kernel_rfl
theorem ZsQ (k : Nat) : LOK Try.prog Z4h k Z97 := LOK.by [] (by kernel_rfl) AllOK.nil
theorem ZtP (x : ZcU.D) : Z3N.lp 0 x = none := by kernel_rfl
theorem Zse (k : Nat) : EOK Try.prog Z4h k Z3N.E (.block 0 (.loop Z97)) := Z7 T_ok Zlu ZtP Zst ZsQ k
theorem ZzJ (k : Nat) (x : Tup Z32.ps) : Z32.f (k + 1) x = fnK Z32 Z4h ZbN k x := by kernel_rfl
theorem ZzZ (x : Tup Z32.ps) : Z32.f 0 x = none := by kernel_rfl
theorem Zzw (k : Nat) : LOK Try.prog Z4h k ZbN := LOK.by [(Z3N.E, .block 0 (.loop Z97))] (by kernel_rfl) (AllOK.cons (Zse k) AllOK.nil)
theorem ZAg (k : Nat) : SoundAt Try.prog k 126 Z32.E := @Z4 Try.prog Z32 Z4h 126 Try.f126 ZbN (by kernel_rfl) (by kernel_rfl) (by kernel_rfl) Try.func126 (by kernel_rfl) (by kernel_rfl) (by kernel_rfl) T_ok Zlu Zzw ZzZ ZzJ k
noncomputable def Zcg : List PK := [PK.mk Ty.bool false none false none]
noncomputable def ZqT : List PK := [PK.mk (Ty.pair (Ty.int .i64) (Ty.pair (Ty.int .i64) (Ty.slice (79 : Nat) (Ty.pair (Ty.int .i64) (Ty.int .i64))))) true none false none]
noncomputable def ZoW (r : Bool) : Tup Zcg × OutD := ((r, ()), none)
noncomputable def Zp0 : Tup Zcg × OutD → Option (Bool)
 | (a, none) => some (a.1)
 | _ => none
theorem Zwz : ∀ b r, Zp0 b = some r → ZoW r = b := by
 rintro ⟨a, o⟩ r h
 cases o with
 | none => injection h with h; subst h; rfl
 | some _ => cases h
noncomputable def Z7d : Nat → Int × Int × List (Int × Int) → Option Bool
 | 0, _ => none
 | k + 1, p0 =>
  if decide (Prod.fst p0 ≥ (1 : Int)) = true then if decide (Prod.fst p0 ≤ (10 : Int)) = true then if decide (Prod.fst p0.2 ≥ (1 : Int)) = true then if decide (Prod.fst p0.2 ≤ (9 : Int)) = true then if decide ((↑(List.length p0.2.2) : Int) = wrap64 (Prod.fst p0 * Prod.fst p0.2)) = true then Option.bind (ZbR k p0.2.2) fun z0 => some z0 else some false else some false else some false else some false else some false
noncomputable def Z2n : FnDef := .of ZqT Zcg (Bool) (fun k x => Z7d k x.1) ZoW Zp0 Zwz
noncomputable def Zjp : Code := Try.f132.body.getD .skip
noncomputable def ZeR : Ctx (Tup Zcg × OutD) := { T := T, G := [(192, Z33.E)], mvs := [], no := 0, n := 37, res := resOf T ZqT Zcg Try.f132.results.toList, loops := [], regs := [], conds := [] }
theorem ZEF (k : Nat) : EnvOK Try.prog k ZeR.G := (EnvOK.cons (ZzA k) (EnvOK.nil mixed))
theorem ZET (k : Nat) (x : Tup Z2n.ps) : Z2n.f (k + 1) x = fnK Z2n ZeR Zjp k x := by kernel_rfl
theorem ZEg (x : Tup Z2n.ps) : Z2n.f 0 x = none := by kernel_rfl
theorem ZF4 (k : Nat) : LOK Try.prog ZeR k Zjp := LOK.by [] (by kernel_rfl) AllOK.nil
theorem Zf9 (k : Nat) : SoundAt Try.prog k 132 Z2n.E := @Z4 Try.prog Z2n ZeR 132 Try.f132 Zjp (by kernel_rfl) (by kernel_rfl) (by kernel_rfl) Try.func132 (by kernel_rfl) (by kernel_rfl) (by kernel_rfl) T_ok ZEF ZF4 ZEg ZET k
noncomputable def ZaN : List PK := [PK.mk Ty.bool false none false none]
noncomputable def ZuM : List PK := [PK.mk (Ty.pair (Ty.int .i64) (Ty.pair (Ty.int .i64) (Ty.slice (79 : Nat) (Ty.pair (Ty.int .i64) (Ty.int .i64))))) true none false none]
noncomputable def Zjs (r : Bool) : Tup ZaN × OutD := ((r, ()), none)
noncomputable def Zjg : Tup ZaN × OutD → Option (Bool)
 | (a, none) => some (a.1)
 | _ => none
theorem Zlp : ∀ b r, Zjg b = some r → Zjs r = b := by
 rintro ⟨a, o⟩ r h
 cases o with
 | none => injection h with h; subst h; rfl
 | some _ => cases h
noncomputable def Z8c : Nat → List (Int × Int) → Int → Int → Option (LR Unit Bool)
 | 0, _, _, _ => none
 | k + 1, v27, v28, v29 =>
  if decide (v29 < v28) = true then if (0 : Int) ≤ v29 then if v29 < (↑(List.length v27) : Int) then Option.bind (Zgm k (Prod.fst (List.getD v27 (Int.toNat v29) ((0 : Int), (0 : Int))), Prod.snd (List.getD v27 (Int.toNat v29) ((0 : Int), (0 : Int))))) fun z2 => if (!z2) = true then some (LR.ret false) else Z8c k v27 v28 (wrap64 (v29 + (1 : Int))) else none else none else some (LR.go ())
noncomputable def ZgB : Spec := Spec.mk [OSh.ro] [((27 : Nat), TSh.at (Sh.snap (0 : Nat) (Ty.pair (Ty.int .i64) (Ty.int .i64)))), ((28 : Nat), TSh.at (Sh.int .i64)), ((29 : Nat), TSh.at (Sh.int .i64))]
noncomputable def ZBQ : Spec := Spec.mk [OSh.ro] []
noncomputable def Z7q : LoopDef (Tup ZaN × OutD) := .rets ZgB ZBQ (Unit) (Bool) (fun k x => Z8c k x.2.1 x.2.2.1 x.2.2.2.1) (fun z => (((), ()), (()))) (fun y => ()) (fun _ => rfl) Zjs Zjg Zlp
noncomputable def ZaJ : Nat → Int × Int × List (Int × Int) → Option Bool
 | 0, _ => none
 | k + 1, p0 =>
  Option.bind (Z5Q k p0.1 (1 : Int) (10 : Int)) fun z0 => if (!z0) = true then some false else Option.bind (Z5Q k p0.2.1 (1 : Int) (9 : Int)) fun z1 => if (!z1) = true then some false else if decide ((↑(List.length p0.2.2) : Int) ≠ wrap64 (Prod.fst p0 * Prod.fst p0.2)) = true then some false else Option.bind (Z8c k p0.2.2 (↑(List.length p0.2.2) : Int) (0 : Int)) fun z3 => LR.on z3 (fun y3 => some true) fun r3 => some r3
noncomputable def Z3L : FnDef := .of ZuM ZaN (Bool) (fun k x => ZaJ k x.1) Zjs Zjg Zlp
noncomputable def Zgo : Code := Try.f133.body.getD .skip
noncomputable def Z8M : Ctx (Tup ZaN × OutD) := { T := T, G := [(96, Z3K.E), (193, Z6B.E)], mvs := [], no := 0, n := 37, res := resOf T ZuM ZaN Try.f133.results.toList, loops := [(0, Z7q.E)], regs := [], conds := [] }
theorem Zuk (k : Nat) : EnvOK Try.prog k Z8M.G := (EnvOK.cons (ZfU k) (EnvOK.cons (ZG7 k) (EnvOK.nil mixed)))
noncomputable def ZcJ : Code := (findLoop 0 Zgo).getD .skip
theorem ZCi (k : Nat) (x : ZgB.D) : Z7q.lp (k + 1) x = loopK Z8M Z7q 0 ZcJ k x := by kernel_rfl
theorem ZBC (k : Nat) : LOK Try.prog Z8M k ZcJ := LOK.by [] (by kernel_rfl) AllOK.nil
theorem ZCt (x : ZgB.D) : Z7q.lp 0 x = none := by kernel_rfl
theorem Zyw (k : Nat) : EOK Try.prog Z8M k Z7q.E (.block 0 (.loop ZcJ)) := Z7 T_ok Zuk ZCt ZCi ZBC k
theorem ZG0 (k : Nat) (x : Tup Z3L.ps) : Z3L.f (k + 1) x = fnK Z3L Z8M Zgo k x := by kernel_rfl
theorem ZFZ (x : Tup Z3L.ps) : Z3L.f 0 x = none := by kernel_rfl
theorem ZFu (k : Nat) : LOK Try.prog Z8M k Zgo := LOK.by [(Z7q.E, .block 0 (.loop ZcJ))] (by kernel_rfl) (AllOK.cons (Zyw k) AllOK.nil)
theorem Zlg (k : Nat) : SoundAt Try.prog k 133 Z3L.E := @Z4 Try.prog Z3L Z8M 133 Try.f133 Zgo (by kernel_rfl) (by kernel_rfl) (by kernel_rfl) Try.func133 (by kernel_rfl) (by kernel_rfl) (by kernel_rfl) T_ok Zuk ZFu ZFZ ZG0 k
noncomputable def Z4e : List PK := [PK.mk (Ty.slice (77 : Nat) (Ty.pair (Ty.int .i64) (Ty.pair (Ty.int .i64) (Ty.int .i64)))) false none false none]
noncomputable def Zly : List PK := [PK.mk (Ty.pair (Ty.int .i64) (Ty.pair (Ty.int .i64) (Ty.slice (79 : Nat) (Ty.pair (Ty.int .i64) (Ty.int .i64))))) true none false none]
noncomputable def Zkc (r : List (Int × Int × Int)) : Tup Z4e × OutD := ((r, ()), none)
noncomputable def Zki : Tup Z4e × OutD → Option (List (Int × Int × Int))
 | (a, none) => some (a.1)
 | _ => none
theorem Zrb : ∀ b r, Zki b = some r → Zkc r = b := by
 rintro ⟨a, o⟩ r h
 cases o with
 | none => injection h with h; subst h; rfl
 | some _ => cases h
noncomputable def Z1z : Nat → Int → Int → List (Int × Int) → List (Int × Int × Int) → Int → Int → Int → Int → List (Int × Int) → Int → Int → Option (Int × Int × List (Int × Int) × List (Int × Int × Int) × List (Int × Int) × Int × Int)
 | 0, _, _, _, _, _, _, _, _, _, _, _ => none
 | k + 1, b1_0, b1_1, b1_2, o2, b3_0, b3_1, v4, v6, v8, v9, v10 =>
  if decide (v6 ≤ (3 : Int)) = true then Option.bind (Zdr k (b3_0, b3_1) v6) fun z0 => if z0 = true then if b1_1 = (0 : Int) then none else if b1_1 = (0 : Int) then none else if List.length o2 + List.length [(v6, wrap64 (Int.tdiv v4 b1_1), Int.tmod v4 b1_1)] ≤ (140737488355328 / 24 : Nat) then Z1z k b1_0 b1_1 b1_2 (o2 ++ [(v6, wrap64 (Int.tdiv v4 b1_1), Int.tmod v4 b1_1)]) b3_0 b3_1 v4 (wrap64 (v6 + (1 : Int))) v8 v9 v10 else none else Z1z k b1_0 b1_1 b1_2 o2 b3_0 b3_1 v4 (wrap64 (v6 + (1 : Int))) v8 v9 v10 else some (b1_0, b1_1, b1_2, o2, v8, v9, v10)
noncomputable def Zd3 : Spec := Spec.mk [OSh.ro, OSh.box (53 : Nat) [Sh.int .i64, Sh.int .i64, Sh.snap (0 : Nat) (Ty.pair (Ty.int .i64) (Ty.int .i64))], OSh.row true (77 : Nat) (Ty.pair (Ty.int .i64) (Ty.pair (Ty.int .i64) (Ty.int .i64))), OSh.box (79 : Nat) [Sh.int .i64, Sh.int .i64]] [((1 : Nat), TSh.at (Sh.ptr (1 : Nat) (0 : Nat))), ((3 : Nat), TSh.at (Sh.sl (2 : Nat))), ((4 : Nat), TSh.at (Sh.int .i64)), ((5 : Nat), TSh.at (Sh.ptr (3 : Nat) (0 : Nat))), ((6 : Nat), TSh.at (Sh.int .i64)), ((8 : Nat), TSh.at (Sh.snap (0 : Nat) (Ty.pair (Ty.int .i64) (Ty.int .i64)))), ((9 : Nat), TSh.at (Sh.int .i64)), ((10 : Nat), TSh.at (Sh.int .i64))]
noncomputable def Ztd : Spec := Spec.mk [OSh.ro, OSh.box (53 : Nat) [Sh.int .i64, Sh.int .i64, Sh.snap (0 : Nat) (Ty.pair (Ty.int .i64) (Ty.int .i64))], OSh.row true (77 : Nat) (Ty.pair (Ty.int .i64) (Ty.pair (Ty.int .i64) (Ty.int .i64)))] [((1 : Nat), TSh.at (Sh.ptr (1 : Nat) (0 : Nat))), ((3 : Nat), TSh.at (Sh.sl (2 : Nat))), ((8 : Nat), TSh.at (Sh.snap (0 : Nat) (Ty.pair (Ty.int .i64) (Ty.int .i64)))), ((9 : Nat), TSh.at (Sh.int .i64)), ((10 : Nat), TSh.at (Sh.int .i64))]
noncomputable def Z41 : LoopDef (Tup Z4e × OutD) := .plain Zd3 Ztd (Int × Int × List (Int × Int) × List (Int × Int × Int) × List (Int × Int) × Int × Int) (fun k x => Z1z k x.1.2.1.1 x.1.2.1.2.1 x.1.2.1.2.2.1 x.1.2.2.1 x.1.2.2.2.1.1 x.1.2.2.2.1.2.1 x.2.2.2.1 x.2.2.2.2.2.1 x.2.2.2.2.2.2.1 x.2.2.2.2.2.2.2.1 x.2.2.2.2.2.2.2.2.1) (fun z => (((), (z.1, z.2.1, z.2.2.1, ()), z.2.2.2.1, ()), ((), (), z.2.2.2.2.1, z.2.2.2.2.2.1, z.2.2.2.2.2.2, ()))) (fun y => (y.1.2.1.1, y.1.2.1.2.1, y.1.2.1.2.2.1, y.1.2.2.1, y.2.2.2.1, y.2.2.2.2.1, y.2.2.2.2.2.1)) (fun _ => rfl)
noncomputable def Z3e : Nat → Int → Int → List (Int × Int) → List (Int × Int × Int) → List (Int × Int) → Int → Int → Option (List (Int × Int × Int))
 | 0, _, _, _, _, _, _, _ => none
 | k + 1, b1_0, b1_1, b1_2, o2, v8, v9, v10 =>
  if decide (v10 < v9) = true then if (0 : Int) ≤ v10 then if v10 < (↑(List.length v8) : Int) then Option.bind (Z1z k b1_0 b1_1 b1_2 o2 (Prod.fst (List.getD v8 (Int.toNat v10) ((0 : Int), (0 : Int)))) (Prod.snd (List.getD v8 (Int.toNat v10) ((0 : Int), (0 : Int)))) v10 (1 : Int) v8 v9 v10) fun z1 => Z3e k z1.1 z1.2.1 z1.2.2.1 z1.2.2.2.1 z1.2.2.2.2.1 z1.2.2.2.2.2.1 (wrap64 (Prod.snd z1.2.2.2.2.2 + (1 : Int))) else none else none else some o2
noncomputable def Zcw : Spec := Spec.mk [OSh.ro, OSh.box (53 : Nat) [Sh.int .i64, Sh.int .i64, Sh.snap (0 : Nat) (Ty.pair (Ty.int .i64) (Ty.int .i64))], OSh.row true (77 : Nat) (Ty.pair (Ty.int .i64) (Ty.pair (Ty.int .i64) (Ty.int .i64)))] [((1 : Nat), TSh.at (Sh.ptr (1 : Nat) (0 : Nat))), ((3 : Nat), TSh.at (Sh.sl (2 : Nat))), ((8 : Nat), TSh.at (Sh.snap (0 : Nat) (Ty.pair (Ty.int .i64) (Ty.int .i64)))), ((9 : Nat), TSh.at (Sh.int .i64)), ((10 : Nat), TSh.at (Sh.int .i64))]
noncomputable def ZsL : Spec := Spec.mk [OSh.ro, OSh.row true (77 : Nat) (Ty.pair (Ty.int .i64) (Ty.pair (Ty.int .i64) (Ty.int .i64)))] [((3 : Nat), TSh.at (Sh.sl (1 : Nat)))]
noncomputable def Z43 : LoopDef (Tup Z4e × OutD) := .plain Zcw ZsL (List (Int × Int × Int)) (fun k x => Z3e k x.1.2.1.1 x.1.2.1.2.1 x.1.2.1.2.2.1 x.1.2.2.1 x.2.2.2.1 x.2.2.2.2.1 x.2.2.2.2.2.1) (fun z => (((), z, ()), ((), ()))) (fun y => (y.1.2.1)) (fun _ => rfl)
noncomputable def Z6r : Nat → Int × Int × List (Int × Int) → Option (List (Int × Int × Int))
 | 0, _ => none
 | k + 1, p0 =>
  Option.bind (Z3e k p0.1 p0.2.1 p0.2.2 [] p0.2.2 (↑(List.length p0.2.2) : Int) (0 : Int)) fun z2 => some z2
noncomputable def Z1J : FnDef := .of Zly Z4e (List (Int × Int × Int)) (fun k x => Z6r k x.1) Zkc Zki Zrb
noncomputable def Z8U : Code := Try.f148.body.getD .skip
noncomputable def Z1I : Ctx (Tup Z4e × OutD) := { T := T, G := [(182, Z55.E)], mvs := [], no := 0, n := 37, res := resOf T Zly Z4e Try.f148.results.toList, loops := [(2, Z41.E), (0, Z43.E)], regs := [], conds := [] }
theorem Zfr (k : Nat) : EnvOK Try.prog k Z1I.G := (EnvOK.cons (ZuL k) (EnvOK.nil mixed))
noncomputable def Z9k : Code := (findLoop 2 Z8U).getD .skip
theorem ZtD (k : Nat) (x : Zd3.D) : Z41.lp (k + 1) x = loopK Z1I Z41 2 Z9k k x := by kernel_rfl
theorem Ztn (k : Nat) : LOK Try.prog Z1I k Z9k := LOK.by [] (by kernel_rfl) AllOK.nil
theorem ZsK (x : Zd3.D) : Z41.lp 0 x = none := by kernel_rfl
theorem ZqF (k : Nat) : EOK Try.prog Z1I k Z41.E (.block 2 (.loop Z9k)) := Z7 T_ok Zfr ZsK ZtD Ztn k
noncomputable def Z94 : Code := (findLoop 0 Z8U).getD .skip
theorem Zth (k : Nat) (x : Zcw.D) : Z43.lp (k + 1) x = loopK Z1I Z43 0 Z94 k x := by kernel_rfl
theorem ZtK (k : Nat) : LOK Try.prog Z1I k Z94 := LOK.by [(Z41.E, .block 2 (.loop Z9k))] (by kernel_rfl) (AllOK.cons (ZqF k) AllOK.nil)
theorem ZsX (x : Zcw.D) : Z43.lp 0 x = none := by kernel_rfl
theorem Zr7 (k : Nat) : EOK Try.prog Z1I k Z43.E (.block 0 (.loop Z94)) := Z7 T_ok Zfr ZsX Zth ZtK k
theorem Zzp (k : Nat) (x : Tup Z1J.ps) : Z1J.f (k + 1) x = fnK Z1J Z1I Z8U k x := by kernel_rfl
theorem Zz5 (x : Tup Z1J.ps) : Z1J.f 0 x = none := by kernel_rfl
theorem ZzE (k : Nat) : LOK Try.prog Z1I k Z8U := LOK.by [(Z43.E, .block 0 (.loop Z94))] (by kernel_rfl) (AllOK.cons (Zr7 k) AllOK.nil)
theorem ZfC (k : Nat) : SoundAt Try.prog k 148 Z1J.E := @Z4 Try.prog Z1J Z1I 148 Try.f148 Z8U (by kernel_rfl) (by kernel_rfl) (by kernel_rfl) Try.func148 (by kernel_rfl) (by kernel_rfl) (by kernel_rfl) T_ok Zfr ZzE Zz5 Zzp k
noncomputable def Za1 : List PK := [PK.mk Ty.bool false none false none]
noncomputable def ZmR : List PK := [PK.mk (Ty.pair (Ty.slice (5 : Nat) (Ty.int .u8)) (Ty.pair (Ty.int .i64) (Ty.int .u64))) false none false (some (114 : Nat)), PK.mk (Ty.int .i64) false none false none]
noncomputable def ZlZ (r : Bool × Int × Int) : Tup Za1 × OutD := ((r.1, ()), some ⟨Ty.pair (Ty.slice (5 : Nat) (Ty.int .u8)) (Ty.pair (Ty.int .i64) (Ty.int .u64)), [([], r.2)]⟩)
noncomputable def Zfq : Tup Za1 × OutD → Option (Bool × Int × Int)
 | (a, some ⟨u, ys⟩) => if h : u = Ty.pair (Ty.slice (5 : Nat) (Ty.int .u8)) (Ty.pair (Ty.int .i64) (Ty.int .u64)) then (match castU h ys with
  | [([], y)] => some (a.1, y)
  | _ => none) else none
 | _ => none
theorem Ztq : ∀ b r, Zfq b = some r → ZlZ r = b := by
 rintro ⟨a, o⟩ r h
 cases o with
 | none => cases h
 | some s =>
  obtain ⟨u, ys⟩ := s
  simp only [Zfq] at h
  split at h
  ·rename_i hu
   subst hu
   match ys, h with
   | [], h => cases (show (none : Option _) = some r from h)
   | [([], y)], h => injection (show some _ = some r from h) with h; subst h; rfl
   | [(_ :: _, y)], h => cases (show (none : Option _) = some r from h)
   | (h1, _) :: _ :: _, h => cases h1 <;> cases (show (none : Option _) = some r from h)
  ·cases h
noncomputable def ZO : Nat → List Int × Int × Int → Int → Option (Bool × Int × Int)
 | 0, _, _ => none
 | k + 1, p0, p1 =>
  Option.bind (Z1 k (Prod.fst p0, Prod.fst p0.2, Prod.snd p0.2) p1) fun z0 => some (decide (Prod.fst z0 = (0 : Int)), Prod.fst z0.2, Prod.snd z0.2)
noncomputable def Z1u : FnDef := .of ZmR Za1 (Bool × Int × Int) (fun k x => ZO k x.1 x.2.1) ZlZ Zfq Ztq
noncomputable def ZgH : Code := Try.f150.body.getD .skip
noncomputable def Zcx : Ctx (Tup Za1 × OutD) := { T := T, G := [(111, Zm.E)], mvs := [], no := 2, n := 9, res := resOf T ZmR Za1 Try.f150.results.toList, loops := [], regs := [], conds := [] }
theorem ZCo (k : Nat) : EnvOK Try.prog k Zcx.G := (EnvOK.cons (Z1n k) (EnvOK.nil mixed))
theorem ZC7 (k : Nat) (x : Tup Z1u.ps) : Z1u.f (k + 1) x = fnK Z1u Zcx ZgH k x := by kernel_rfl
theorem ZB3 (x : Tup Z1u.ps) : Z1u.f 0 x = none := by kernel_rfl
theorem ZCj (k : Nat) : LOK Try.prog Zcx k ZgH := LOK.by [] (by kernel_rfl) AllOK.nil
theorem ZcG (k : Nat) : SoundAt Try.prog k 150 Z1u.E := @Z4 Try.prog Z1u Zcx 150 Try.f150 ZgH (by kernel_rfl) (by kernel_rfl) (by kernel_rfl) Try.func150 (by kernel_rfl) (by kernel_rfl) (by kernel_rfl) T_ok ZCo ZCj ZB3 ZC7 k
noncomputable def Z5k : List PK := [PK.mk (Ty.slice (34 : Nat) (Ty.slice (3 : Nat) (Ty.int .i64))) false none false none]
noncomputable def ZmL : List PK := [PK.mk (Ty.slice (100 : Nat) (Ty.slice (57 : Nat) (Ty.slice (63 : Nat) (Ty.pair (Ty.int .i64) (Ty.pair (Ty.int .i64) (Ty.int .i64)))))) false none false none, PK.mk (Ty.slice (3 : Nat) (Ty.int .i64)) false none false none]
noncomputable def Zlv (r : List (List Int)) : Tup Z5k × OutD := ((r, ()), none)
noncomputable def ZlE : Tup Z5k × OutD → Option (List (List Int))
 | (a, none) => some (a.1)
 | _ => none
theorem Ztf : ∀ b r, ZlE b = some r → Zlv r = b := by
 rintro ⟨a, o⟩ r h
 cases o with
 | none => injection h with h; subst h; rfl
 | some _ => cases h
noncomputable def Z5B : Nat → List (List Int) → List (List (List (Int × Int × Int))) → List Int → Int → Int → Int → Int → Option (List (List Int) × List (List (List (Int × Int × Int))) × List Int × Int × Int × Int × Int)
 | 0, _, _, _, _, _, _, _ => none
 | k + 1, o1, v0, v1, v6, v7, v10, v11 =>
  if decide (v7 < (↑(List.length o1) : Int)) = true then if (0 : Int) ≤ v7 then if v7 < (↑(List.length o1) : Int) then if (0 : Int) < (↑(List.length (List.getD o1 (Int.toNat v7) [])) : Int) then if (0 : Int) ≤ wrap64 (List.getD (List.getD o1 (Int.toNat v7) []) (Int.toNat (0 : Int)) (0 : Int) + (1 : Int)) then if wrap64 (List.getD (List.getD o1 (Int.toNat v7) []) (Int.toNat (0 : Int)) (0 : Int) + (1 : Int)) < (↑(List.length v0) : Int) then if (0 : Int) ≤ v6 then if v6 < (↑(List.length v0) : Int) then Option.bind (Zc0 k (List.getD v0 (Int.toNat (wrap64 (List.getD (List.getD o1 (Int.toNat v7) []) (Int.toNat (0 : Int)) (0 : Int) + (1 : Int)))) []) (List.getD v0 (Int.toNat v6) []) v1) fun z0 => if (!z0) = true then Z5B k o1 v0 v1 v6 (wrap64 (v7 + (1 : Int))) v10 v11 else some (o1, v0, v1, v6, v7, v10, v11) else none else none else none else none else none else none else none else some (o1, v0, v1, v6, v7, v10, v11)
noncomputable def ZdO : Spec := Spec.mk [OSh.ro, OSh.row true (34 : Nat) (Ty.slice (3 : Nat) (Ty.int .i64))] [((0 : Nat), TSh.at (Sh.snap (0 : Nat) (Ty.slice (57 : Nat) (Ty.slice (63 : Nat) (Ty.pair (Ty.int .i64) (Ty.pair (Ty.int .i64) (Ty.int .i64))))))), ((1 : Nat), TSh.at (Sh.snap (0 : Nat) (Ty.int .i64))), ((5 : Nat), TSh.at (Sh.sl (1 : Nat))), ((6 : Nat), TSh.at (Sh.int .i64)), ((7 : Nat), TSh.at (Sh.int .i64)), ((10 : Nat), TSh.at (Sh.int .i64)), ((11 : Nat), TSh.at (Sh.int .i64))]
noncomputable def ZvD : Spec := Spec.mk [OSh.ro, OSh.row true (34 : Nat) (Ty.slice (3 : Nat) (Ty.int .i64))] [((0 : Nat), TSh.at (Sh.snap (0 : Nat) (Ty.slice (57 : Nat) (Ty.slice (63 : Nat) (Ty.pair (Ty.int .i64) (Ty.pair (Ty.int .i64) (Ty.int .i64))))))), ((1 : Nat), TSh.at (Sh.snap (0 : Nat) (Ty.int .i64))), ((5 : Nat), TSh.at (Sh.sl (1 : Nat))), ((6 : Nat), TSh.at (Sh.int .i64)), ((7 : Nat), TSh.at (Sh.int .i64)), ((10 : Nat), TSh.at (Sh.int .i64)), ((11 : Nat), TSh.at (Sh.int .i64))]
noncomputable def Z4T : LoopDef (Tup Z5k × OutD) := .plain ZdO ZvD (List (List Int) × List (List (List (Int × Int × Int))) × List Int × Int × Int × Int × Int) (fun k x => Z5B k x.1.2.1 x.2.1 x.2.2.1 x.2.2.2.2.1 x.2.2.2.2.2.1 x.2.2.2.2.2.2.1 x.2.2.2.2.2.2.2.1) (fun z => (((), z.1, ()), (z.2.1, z.2.2.1, (), z.2.2.2.1, z.2.2.2.2.1, z.2.2.2.2.2.1, z.2.2.2.2.2.2, ()))) (fun y => (y.1.2.1, y.2.1, y.2.2.1, y.2.2.2.2.1, y.2.2.2.2.2.1, y.2.2.2.2.2.2.1, y.2.2.2.2.2.2.2.1)) (fun _ => rfl)
noncomputable def Z3y : Nat → List (List Int) → List (List (List (Int × Int × Int))) → List Int → Int → Int → Option (List (List Int))
 | 0, _, _, _, _, _ => none
 | k + 1, o1, v0, v1, v10, v11 =>
  if decide (v11 < v10) = true then Option.bind (Z5B k o1 v0 v1 v11 (0 : Int) v10 v11) fun z1 => if decide (Prod.fst z1.2.2.2.2 = (↑(List.length z1.1) : Int)) = true then if List.length z1.1 + (1 : Nat) ≤ (140737488355328 / 24 : Nat) then if (0 : Int) ≤ Prod.fst z1.2.2.2.2 then if Prod.fst z1.2.2.2.2 < (↑(List.length (Prod.fst z1 ++ [[]])) : Int) then if List.length (List.getD (Prod.fst z1 ++ [[]]) (Int.toNat z1.2.2.2.2.1) []) + List.length [wrap64 (Prod.fst z1.2.2.2 - (1 : Int))] ≤ (140737488355328 / 8 : Nat) then if (0 : Int) ≤ Prod.fst z1.2.2.2.2 then if Prod.fst z1.2.2.2.2 < (↑(List.length (Prod.fst z1 ++ [[]])) : Int) then if Prod.fst z1.2.2.2.2 = Prod.fst z1.2.2.2.2 then Z3y k (List.set (Prod.fst z1 ++ [[]]) (Int.toNat z1.2.2.2.2.1) (List.getD (Prod.fst z1 ++ [[]]) (Int.toNat z1.2.2.2.2.1) [] ++ [wrap64 (Prod.fst z1.2.2.2 - (1 : Int))])) z1.2.1 z1.2.2.1 z1.2.2.2.2.2.1 (wrap64 (Prod.snd z1.2.2.2.2.2 + (1 : Int))) else none else none else none else none else none else none else none else if (0 : Int) ≤ Prod.fst z1.2.2.2.2 then if Prod.fst z1.2.2.2.2 < (↑(List.length z1.1) : Int) then if List.length (List.getD z1.1 (Int.toNat z1.2.2.2.2.1) []) + List.length [wrap64 (Prod.fst z1.2.2.2 - (1 : Int))] ≤ (140737488355328 / 8 : Nat) then if (0 : Int) ≤ Prod.fst z1.2.2.2.2 then if Prod.fst z1.2.2.2.2 < (↑(List.length z1.1) : Int) then if Prod.fst z1.2.2.2.2 = Prod.fst z1.2.2.2.2 then Z3y k (List.set z1.1 (Int.toNat z1.2.2.2.2.1) (List.getD z1.1 (Int.toNat z1.2.2.2.2.1) [] ++ [wrap64 (Prod.fst z1.2.2.2 - (1 : Int))])) z1.2.1 z1.2.2.1 z1.2.2.2.2.2.1 (wrap64 (Prod.snd z1.2.2.2.2.2 + (1 : Int))) else none else none else none else none else none else none else some o1
noncomputable def ZdJ : Spec := Spec.mk [OSh.ro, OSh.row true (34 : Nat) (Ty.slice (3 : Nat) (Ty.int .i64))] [((0 : Nat), TSh.at (Sh.snap (0 : Nat) (Ty.slice (57 : Nat) (Ty.slice (63 : Nat) (Ty.pair (Ty.int .i64) (Ty.pair (Ty.int .i64) (Ty.int .i64))))))), ((1 : Nat), TSh.at (Sh.snap (0 : Nat) (Ty.int .i64))), ((5 : Nat), TSh.at (Sh.sl (1 : Nat))), ((10 : Nat), TSh.at (Sh.int .i64)), ((11 : Nat), TSh.at (Sh.int .i64))]
noncomputable def ZvS : Spec := Spec.mk [OSh.ro, OSh.row true (34 : Nat) (Ty.slice (3 : Nat) (Ty.int .i64))] [((5 : Nat), TSh.at (Sh.sl (1 : Nat)))]
noncomputable def Z4M : LoopDef (Tup Z5k × OutD) := .plain ZdJ ZvS (List (List Int)) (fun k x => Z3y k x.1.2.1 x.2.1 x.2.2.1 x.2.2.2.2.1 x.2.2.2.2.2.1) (fun z => (((), z, ()), ((), ()))) (fun y => (y.1.2.1)) (fun _ => rfl)
noncomputable def Zd7 : Nat → List (List (List (Int × Int × Int))) → List Int → Option (List (List Int))
 | 0, _, _ => none
 | k + 1, p0, p1 =>
  Option.bind (Z3y k [] p0 p1 (↑(List.length p0) : Int) (0 : Int)) fun z2 => some z2
noncomputable def Z3z : FnDef := .of ZmL Z5k (List (List Int)) (fun k x => Zd7 k x.1 x.2.1) Zlv ZlE Ztf
noncomputable def Z9U : Code := Try.f152.body.getD .skip
noncomputable def Z1X : Ctx (Tup Z5k × OutD) := { T := T, G := [(198, Z3P.E)], mvs := [], no := 0, n := 59, res := resOf T ZmL Z5k Try.f152.results.toList, loops := [(2, Z4T.E), (0, Z4M.E)], regs := [], conds := [] }
theorem Zgy (k : Nat) : EnvOK Try.prog k Z1X.G := (EnvOK.cons (Zqv k) (EnvOK.nil mixed))
noncomputable def Zaw : Code := (findLoop 2 Z9U).getD .skip
theorem Zw2 (k : Nat) (x : ZdO.D) : Z4T.lp (k + 1) x = loopK Z1X Z4T 2 Zaw k x := by kernel_rfl
theorem Zvs (k : Nat) : LOK Try.prog Z1X k Zaw := LOK.by [] (by kernel_rfl) AllOK.nil
theorem Zvb (x : ZdO.D) : Z4T.lp 0 x = none := by kernel_rfl
theorem Zta (k : Nat) : EOK Try.prog Z1X k Z4T.E (.block 2 (.loop Zaw)) := Z7 T_ok Zgy Zvb Zw2 Zvs k
noncomputable def Zai : Code := (findLoop 0 Z9U).getD .skip
theorem Zv2 (k : Nat) (x : ZdJ.D) : Z4M.lp (k + 1) x = loopK Z1X Z4M 0 Zai k x := by kernel_rfl
theorem Zvq (k : Nat) : LOK Try.prog Z1X k Zai := LOK.by [(Z4T.E, .block 2 (.loop Zaw))] (by kernel_rfl) (AllOK.cons (Zta k) AllOK.nil)
theorem Zwk (x : ZdJ.D) : Z4M.lp 0 x = none := by kernel_rfl
theorem ZsV (k : Nat) : EOK Try.prog Z1X k Z4M.E (.block 0 (.loop Zai)) := Z7 T_ok Zgy Zwk Zv2 Zvq k
theorem ZC0 (k : Nat) (x : Tup Z3z.ps) : Z3z.f (k + 1) x = fnK Z3z Z1X Z9U k x := by kernel_rfl
theorem ZC5 (x : Tup Z3z.ps) : Z3z.f 0 x = none := by kernel_rfl
theorem ZBN (k : Nat) : LOK Try.prog Z1X k Z9U := LOK.by [(Z4M.E, .block 0 (.loop Zai))] (by kernel_rfl) (AllOK.cons (ZsV k) AllOK.nil)
theorem ZBX (k : Nat) : SoundAt Try.prog k 152 Z3z.E := @Z4 Try.prog Z3z Z1X 152 Try.f152 Z9U (by kernel_rfl) (by kernel_rfl) (by kernel_rfl) Try.func152 (by kernel_rfl) (by kernel_rfl) (by kernel_rfl) T_ok Zgy ZBN ZC5 ZC0 k
noncomputable def Z6g : List PK := [PK.mk (Ty.slice (3 : Nat) (Ty.int .i64)) false none false none]
noncomputable def ZlO : List PK := [PK.mk (Ty.slice (100 : Nat) (Ty.slice (57 : Nat) (Ty.slice (63 : Nat) (Ty.pair (Ty.int .i64) (Ty.pair (Ty.int .i64) (Ty.int .i64)))))) false none false none, PK.mk (Ty.slice (3 : Nat) (Ty.int .i64)) false none false none]
noncomputable def Zkk (r : List Int) : Tup Z6g × OutD := ((r, ()), none)
noncomputable def Zk2 : Tup Z6g × OutD → Option (List Int)
 | (a, none) => some (a.1)
 | _ => none
theorem ZrC : ∀ b r, Zk2 b = some r → Zkk r = b := by
 rintro ⟨a, o⟩ r h
 cases o with
 | none => injection h with h; subst h; rfl
 | some _ => cases h
noncomputable def Z3d : Nat → List Int → List (List (List (Int × Int × Int))) → List Int → Int → Option (List Int)
 | 0, _, _, _, _ => none
 | k + 1, o1, v0, v1, v6 =>
  if decide (v6 < (↑(List.length v0) : Int)) = true then if (0 : Int) < (↑(List.length v0) : Int) then if (0 : Int) ≤ v6 then if v6 < (↑(List.length v0) : Int) then Option.bind (Zc0 k (List.getD v0 (Int.toNat (0 : Int)) []) (List.getD v0 (Int.toNat v6) []) v1) fun z0 => if (!z0) = true then if List.length o1 + List.length [wrap64 (v6 - (1 : Int))] ≤ (140737488355328 / 8 : Nat) then Z3d k (o1 ++ [wrap64 (v6 - (1 : Int))]) v0 v1 (wrap64 (v6 + (1 : Int))) else none else Z3d k o1 v0 v1 (wrap64 (v6 + (1 : Int))) else none else none else none else some o1
noncomputable def Zct : Spec := Spec.mk [OSh.ro, OSh.row true (3 : Nat) (Ty.int .i64)] [((0 : Nat), TSh.at (Sh.snap (0 : Nat) (Ty.slice (57 : Nat) (Ty.slice (63 : Nat) (Ty.pair (Ty.int .i64) (Ty.pair (Ty.int .i64) (Ty.int .i64))))))), ((1 : Nat), TSh.at (Sh.snap (0 : Nat) (Ty.int .i64))), ((5 : Nat), TSh.at (Sh.sl (1 : Nat))), ((6 : Nat), TSh.at (Sh.int .i64))]
noncomputable def Zt7 : Spec := Spec.mk [OSh.ro, OSh.row true (3 : Nat) (Ty.int .i64)] [((5 : Nat), TSh.at (Sh.sl (1 : Nat)))]
noncomputable def Z3U : LoopDef (Tup Z6g × OutD) := .plain Zct Zt7 (List Int) (fun k x => Z3d k x.1.2.1 x.2.1 x.2.2.1 x.2.2.2.2.1) (fun z => (((), z, ()), ((), ()))) (fun y => (y.1.2.1)) (fun _ => rfl)
noncomputable def ZbJ : Nat → List (List (List (Int × Int × Int))) → List Int → Option (List Int)
 | 0, _, _ => none
 | k + 1, p0, p1 =>
  Option.bind (Z3d k [] p0 p1 (1 : Int)) fun z1 => some z1
noncomputable def Z31 : FnDef := .of ZlO Z6g (List Int) (fun k x => ZbJ k x.1 x.2.1) Zkk Zk2 ZrC
noncomputable def ZbK : Code := Try.f160.body.getD .skip
noncomputable def Z4n : Ctx (Tup Z6g × OutD) := { T := T, G := [(198, Z3P.E)], mvs := [], no := 0, n := 30, res := resOf T ZlO Z6g Try.f160.results.toList, loops := [(0, Z3U.E)], regs := [], conds := [] }
theorem ZlW (k : Nat) : EnvOK Try.prog k Z4n.G := (EnvOK.cons (Zqv k) (EnvOK.nil mixed))
noncomputable def Z9l : Code := (findLoop 0 ZbK).getD .skip
theorem ZsG (k : Nat) (x : Zct.D) : Z3U.lp (k + 1) x = loopK Z4n Z3U 0 Z9l k x := by kernel_rfl
theorem ZtW (k : Nat) : LOK Try.prog Z4n k Z9l := LOK.by [] (by kernel_rfl) AllOK.nil
theorem Zt2 (x : Zct.D) : Z3U.lp 0 x = none := by kernel_rfl
theorem Zrg (k : Nat) : EOK Try.prog Z4n k Z3U.E (.block 0 (.loop Z9l)) := Z7 T_ok ZlW Zt2 ZsG ZtW k
theorem Zz0 (k : Nat) (x : Tup Z31.ps) : Z31.f (k + 1) x = fnK Z31 Z4n ZbK k x := by kernel_rfl
theorem ZzL (x : Tup Z31.ps) : Z31.f 0 x = none := by kernel_rfl
theorem ZA0 (k : Nat) : LOK Try.prog Z4n k ZbK := LOK.by [(Z3U.E, .block 0 (.loop Z9l))] (by kernel_rfl) (AllOK.cons (Zrg k) AllOK.nil)
theorem ZzV (k : Nat) : SoundAt Try.prog k 160 Z31.E := @Z4 Try.prog Z31 Z4n 160 Try.f160 ZbK (by kernel_rfl) (by kernel_rfl) (by kernel_rfl) Try.func160 (by kernel_rfl) (by kernel_rfl) (by kernel_rfl) T_ok ZlW ZA0 ZzL Zz0 k
noncomputable def Z9y : List PK := [PK.mk Ty.bool false none false none]
noncomputable def Zs5 : List PK := [PK.mk (Ty.pair (Ty.int .i64) (Ty.pair (Ty.int .i64) (Ty.slice (79 : Nat) (Ty.pair (Ty.int .i64) (Ty.int .i64))))) true none false none, PK.mk (Ty.slice (34 : Nat) (Ty.slice (3 : Nat) (Ty.int .i64))) false none false none]
noncomputable def Zim (r : Bool) : Tup Z9y × OutD := ((r, ()), none)
noncomputable def Zhi : Tup Z9y × OutD → Option (Bool)
 | (a, none) => some (a.1)
 | _ => none
theorem Zk9 : ∀ b r, Zhi b = some r → Zim r = b := by
 rintro ⟨a, o⟩ r h
 cases o with
 | none => injection h with h; subst h; rfl
 | some _ => cases h
noncomputable def Z7h : Nat → Int → Int → List (Int × Int) → List (List Int) → List (List Int) → Int → Int → Option (LR (List (List Int)) Bool)
 | 0, _, _, _, _, _, _, _ => none
 | k + 1, b1_0, b1_1, b1_2, v1, v7, v8, v9 =>
  if decide (v9 < v8) = true then if (0 : Int) ≤ v9 then if v9 < (↑(List.length v7) : Int) then if decide ((↑(List.length (List.getD v7 (Int.toNat v9) [])) : Int) > (8 : Int)) = true then some (LR.ret false) else Option.bind (Zi6 k (List.getD v7 (Int.toNat v9) []) (0 : Int) (wrap64 (b1_1 - (1 : Int)))) fun z0 => if (!z0) = true then some (LR.ret false) else Z7h k b1_0 b1_1 b1_2 v1 v7 v8 (wrap64 (v9 + (1 : Int))) else none else none else some (LR.go v1)
noncomputable def Zfl : Spec := Spec.mk [OSh.ro, OSh.box (53 : Nat) [Sh.int .i64, Sh.int .i64, Sh.snap (0 : Nat) (Ty.pair (Ty.int .i64) (Ty.int .i64))]] [((1 : Nat), TSh.at (Sh.snap (0 : Nat) (Ty.slice (3 : Nat) (Ty.int .i64)))), ((2 : Nat), TSh.at (Sh.ptr (1 : Nat) (0 : Nat))), ((7 : Nat), TSh.at (Sh.snap (0 : Nat) (Ty.slice (3 : Nat) (Ty.int .i64)))), ((8 : Nat), TSh.at (Sh.int .i64)), ((9 : Nat), TSh.at (Sh.int .i64))]
noncomputable def ZyP : Spec := Spec.mk [OSh.ro] [((1 : Nat), TSh.at (Sh.snap (0 : Nat) (Ty.slice (3 : Nat) (Ty.int .i64))))]
noncomputable def Z6u : LoopDef (Tup Z9y × OutD) := .rets Zfl ZyP (List (List Int)) (Bool) (fun k x => Z7h k x.1.2.1.1 x.1.2.1.2.1 x.1.2.1.2.2.1 x.2.1 x.2.2.2.1 x.2.2.2.2.1 x.2.2.2.2.2.1) (fun z => (((), ()), (z, ()))) (fun y => (y.2.1)) (fun _ => rfl) Zim Zhi Zk9
noncomputable def Zc8 : Nat → Int × Int × List (Int × Int) → List (List Int) → Option Bool
 | 0, _, _ => none
 | k + 1, p0, p1 =>
  Option.bind (Z7h k p0.1 p0.2.1 p0.2.2 p1 p1 (↑(List.length p1) : Int) (0 : Int)) fun z1 => LR.on z1 (fun y1 => some (decide ((↑(List.length y1) : Int) ≤ (10 : Int)))) fun r1 => some r1
noncomputable def Z46 : FnDef := .of Zs5 Z9y (Bool) (fun k x => Zc8 k x.1 x.2.1) Zim Zhi Zk9
noncomputable def Zf4 : Code := Try.f170.body.getD .skip
noncomputable def Z7p : Ctx (Tup Z9y × OutD) := { T := T, G := [(113, Z7U.E)], mvs := [], no := 0, n := 28, res := resOf T Zs5 Z9y Try.f170.results.toList, loops := [(0, Z6u.E)], regs := [], conds := [] }
theorem ZqQ (k : Nat) : EnvOK Try.prog k Z7p.G := (EnvOK.cons (ZHC k) (EnvOK.nil mixed))
noncomputable def ZbF : Code := (findLoop 0 Zf4).getD .skip
theorem Zyy (k : Nat) (x : Zfl.D) : Z6u.lp (k + 1) x = loopK Z7p Z6u 0 ZbF k x := by kernel_rfl
theorem ZAf (k : Nat) : LOK Try.prog Z7p k ZbF := LOK.by [] (by kernel_rfl) AllOK.nil
theorem ZA5 (x : Zfl.D) : Z6u.lp 0 x = none := by kernel_rfl
theorem Zy8 (k : Nat) : EOK Try.prog Z7p k Z6u.E (.block 0 (.loop ZbF)) := Z7 T_ok ZqQ ZA5 Zyy ZAf k
theorem ZEw (k : Nat) (x : Tup Z46.ps) : Z46.f (k + 1) x = fnK Z46 Z7p Zf4 k x := by kernel_rfl
theorem ZEW (x : Tup Z46.ps) : Z46.f 0 x = none := by kernel_rfl
theorem ZEr (k : Nat) : LOK Try.prog Z7p k Zf4 := LOK.by [(Z6u.E, .block 0 (.loop ZbF))] (by kernel_rfl) (AllOK.cons (Zy8 k) AllOK.nil)
theorem Zsd (k : Nat) : SoundAt Try.prog k 170 Z46.E := @Z4 Try.prog Z46 Z7p 170 Try.f170 Zf4 (by kernel_rfl) (by kernel_rfl) (by kernel_rfl) Try.func170 (by kernel_rfl) (by kernel_rfl) (by kernel_rfl) T_ok ZqQ ZEr ZEW ZEw k
noncomputable def Zcc : List PK := [PK.mk Ty.bool false none false none]
noncomputable def Zra : List PK := [PK.mk (Ty.pair (Ty.int .i64) (Ty.int .i64)) true none false none, PK.mk (Ty.int .i64) false none false none]
noncomputable def ZoR (r : Bool) : Tup Zcc × OutD := ((r, ()), none)
noncomputable def Zpt : Tup Zcc × OutD → Option (Bool)
 | (a, none) => some (a.1)
 | _ => none
theorem ZxG : ∀ b r, Zpt b = some r → ZoR r = b := by
 rintro ⟨a, o⟩ r h
 cases o with
 | none => injection h with h; subst h; rfl
 | some _ => cases h
noncomputable def Zch : Nat → Int × Int → Int → Option Bool
 | 0, _, _ => none
 | k + 1, p0, p1 =>
  if decide (p1 = (1 : Int)) = true then Option.bind (Z2D k (Prod.fst p0, Prod.snd p0)) fun z0 => some z0 else if decide (p1 = (2 : Int)) = true then some true else if decide (p1 = (3 : Int)) = true then Option.bind (Z2D k (Prod.fst p0, Prod.snd p0)) fun z1 => if z1 = true then some true else if decide (Prod.fst p0 = (1 : Int)) = true then some true else some (decide (Prod.fst p0 = (2 : Int))) else some false
noncomputable def Z42 : FnDef := .of Zra Zcc (Bool) (fun k x => Zch k x.1 x.2.1) ZoR Zpt ZxG
noncomputable def Zj6 : Code := Try.f181.body.getD .skip
noncomputable def Zfc : Ctx (Tup Zcc × OutD) := { T := T, G := [(188, Z2H.E)], mvs := [], no := 0, n := 26, res := resOf T Zra Zcc Try.f181.results.toList, loops := [], regs := [], conds := [] }
theorem ZEE (k : Nat) : EnvOK Try.prog k Zfc.G := (EnvOK.cons (ZnO k) (EnvOK.nil mixed))
theorem ZEC (k : Nat) (x : Tup Z42.ps) : Z42.f (k + 1) x = fnK Z42 Zfc Zj6 k x := by kernel_rfl
theorem ZEB (x : Tup Z42.ps) : Z42.f 0 x = none := by kernel_rfl
theorem ZF8 (k : Nat) : LOK Try.prog Zfc k Zj6 := LOK.by [] (by kernel_rfl) AllOK.nil
theorem Zrn (k : Nat) : SoundAt Try.prog k 181 Z42.E := @Z4 Try.prog Z42 Zfc 181 Try.f181 Zj6 (by kernel_rfl) (by kernel_rfl) (by kernel_rfl) Try.func181 (by kernel_rfl) (by kernel_rfl) (by kernel_rfl) T_ok ZEE ZF8 ZEB ZEC k
noncomputable def Z3H : List PK := [PK.mk (Ty.pair (Ty.int .i64) (Ty.pair (Ty.int .i64) (Ty.int .i64))) true none false none, PK.mk (Ty.pair (Ty.int .i64) (Ty.pair (Ty.int .i64) (Ty.slice (79 : Nat) (Ty.pair (Ty.int .i64) (Ty.int .i64))))) true none false none]
noncomputable def ZAv : List PK := [PK.mk (Ty.pair (Ty.int .i64) (Ty.pair (Ty.int .i64) (Ty.slice (79 : Nat) (Ty.pair (Ty.int .i64) (Ty.int .i64))))) true none false none, PK.mk (Ty.slice (3 : Nat) (Ty.int .i64)) false none false none, PK.mk (Ty.slice (77 : Nat) (Ty.pair (Ty.int .i64) (Ty.pair (Ty.int .i64) (Ty.int .i64)))) false none false none, PK.mk (Ty.int .i64) false none false none]
noncomputable def ZnV (r : (Int × Int × Int) × Int × Int × List (Int × Int)) : Tup Z3H × OutD := ((r.1, r.2, ()), none)
noncomputable def ZmY : Tup Z3H × OutD → Option ((Int × Int × Int) × Int × Int × List (Int × Int))
 | (a, none) => some (a.1, a.2.1)
 | _ => none
theorem ZoU : ∀ b r, ZmY b = some r → ZnV r = b := by
 rintro ⟨a, o⟩ r h
 cases o with
 | none => injection h with h; subst h; rfl
 | some _ => cases h
noncomputable def Z9B : Nat → Int → Int → Int → Int → Int → List (Int × Int) → Int → Int → List (Int × Int) → Int → Int → Option (Int × Int × Int × Int × Int × List (Int × Int)) := fun k b1_0 b1_1 b1_2 b2_0 b2_1 o3 b4_0 b4_1 o5 v3 v12 =>
    some ((3 : Int), v12, v3, b4_0, b4_1, o5)
noncomputable def Ze2 : Nat → Int → Int → Int → Int → Int → List (Int × Int) → Int → Int → List (Int × Int) → Int → Int → Option (List (Int × Int × Int × Int × Int × List (Int × Int))) := fun k b1_0 b1_1 b1_2 b2_0 b2_1 o3 b4_0 b4_1 o5 v3 v12 =>
    joinL (some [((3 : Int), v12, v3, b4_0, b4_1, o5)]) (some [((3 : Int), v12, v3, b4_0, b4_1, o5)])
noncomputable def Zpr : Spec := Spec.mk [OSh.ro, OSh.box (63 : Nat) [Sh.int .i64, Sh.int .i64, Sh.int .i64], OSh.box (53 : Nat) [Sh.int .i64, Sh.int .i64, Sh.sl (3 : Nat)], OSh.row true (79 : Nat) (Ty.pair (Ty.int .i64) (Ty.int .i64)), OSh.box (53 : Nat) [Sh.int .i64, Sh.int .i64, Sh.sl (5 : Nat)], OSh.row true (79 : Nat) (Ty.pair (Ty.int .i64) (Ty.int .i64))] [((3 : Nat), TSh.at (Sh.int .i64)), ((8 : Nat), TSh.at (Sh.ptr (1 : Nat) (0 : Nat))), ((9 : Nat), TSh.at (Sh.ptr (2 : Nat) (0 : Nat))), ((10 : Nat), TSh.at (Sh.ptr (4 : Nat) (0 : Nat))), ((12 : Nat), TSh.at (Sh.int .i64))]
noncomputable def ZDY : Spec := Spec.mk [OSh.ro, OSh.box (63 : Nat) [Sh.int .i64, Sh.int .i64, Sh.int .i64], OSh.box (53 : Nat) [Sh.int .i64, Sh.int .i64, Sh.sl (3 : Nat)], OSh.row true (79 : Nat) (Ty.pair (Ty.int .i64) (Ty.int .i64))] [((8 : Nat), TSh.at (Sh.ptr (1 : Nat) (0 : Nat))), ((9 : Nat), TSh.at (Sh.ptr (2 : Nat) (0 : Nat)))]
noncomputable def Z8f : LoopDef (Tup Z3H × OutD) := .plain Zpr ZDY (Int × Int × Int × Int × Int × List (Int × Int)) (fun k x => Z9B k x.1.2.1.1 x.1.2.1.2.1 x.1.2.1.2.2.1 x.1.2.2.1.1 x.1.2.2.1.2.1 x.1.2.2.2.1 x.1.2.2.2.2.1.1 x.1.2.2.2.2.1.2.1 x.1.2.2.2.2.2.1 x.2.1 x.2.2.2.2.2.1) (fun z => (((), (z.1, z.2.1, z.2.2.1, ()), (z.2.2.2.1, z.2.2.2.2.1, (), ()), z.2.2.2.2.2, ()), ((), (), ()))) (fun y => (y.1.2.1.1, y.1.2.1.2.1, y.1.2.1.2.2.1, y.1.2.2.1.1, y.1.2.2.1.2.1, y.1.2.2.2.1)) (fun _ => rfl)
theorem ZDS (k : Nat) (b1_0 : Int) (b1_1 : Int) (b1_2 : Int) (b2_0 : Int) (b2_1 : Int) (o3 : List (Int × Int)) (b4_0 : Int) (b4_1 : Int) (o5 : List (Int × Int)) (v3 : Int) (v12 : Int) : Ze2 k b1_0 b1_1 b1_2 b2_0 b2_1 o3 b4_0 b4_1 o5 v3 v12 = repl 2 (Z9B k b1_0 b1_1 b1_2 b2_0 b2_1 o3 b4_0 b4_1 o5 v3 v12) := by
 first
 | (simp only [Ze2, Z9B, Zz, ZT, Zx, Zy, Zw, Za, if_true]; done)
 | (simp only [Ze2, Z9B, Zz, ZT, Zx, Zy, Zw, Za, if_true]; simp only [Z2E, Z2G, Z5g, Za]; simp only [Z72]; exact Z3w ⟨fun h => by simp only [h, and_self], fun h => by simp only [h, and_self]⟩)
noncomputable def Z88 : Nat → Int → Int → Int → Int → Int → List (Int × Int) → Int → Int → List (Int × Int) → Int → Int → Option (Int × Int × Int × Int × Int × List (Int × Int)) := fun k b1_0 b1_1 b1_2 b2_0 b2_1 o3 b4_0 b4_1 o5 v3 v12 =>
    some ((2 : Int), v12, v3, b4_0, b4_1, o5)
noncomputable def ZcR : Nat → Int → Int → Int → Int → Int → List (Int × Int) → Int → Int → List (Int × Int) → Int → Int → Option (List (Int × Int × Int × Int × Int × List (Int × Int))) := fun k b1_0 b1_1 b1_2 b2_0 b2_1 o3 b4_0 b4_1 o5 v3 v12 =>
    joinL (some [((2 : Int), v12, v3, b4_0, b4_1, o5)]) (some [((2 : Int), v12, v3, b4_0, b4_1, o5)])
noncomputable def Zoo : Spec := Spec.mk [OSh.ro, OSh.box (63 : Nat) [Sh.int .i64, Sh.int .i64, Sh.int .i64], OSh.box (53 : Nat) [Sh.int .i64, Sh.int .i64, Sh.sl (3 : Nat)], OSh.row true (79 : Nat) (Ty.pair (Ty.int .i64) (Ty.int .i64)), OSh.box (53 : Nat) [Sh.int .i64, Sh.int .i64, Sh.sl (5 : Nat)], OSh.row true (79 : Nat) (Ty.pair (Ty.int .i64) (Ty.int .i64))] [((3 : Nat), TSh.at (Sh.int .i64)), ((8 : Nat), TSh.at (Sh.ptr (1 : Nat) (0 : Nat))), ((9 : Nat), TSh.at (Sh.ptr (2 : Nat) (0 : Nat))), ((10 : Nat), TSh.at (Sh.ptr (4 : Nat) (0 : Nat))), ((12 : Nat), TSh.at (Sh.int .i64))]
noncomputable def ZAN : Spec := Spec.mk [OSh.ro, OSh.box (63 : Nat) [Sh.int .i64, Sh.int .i64, Sh.int .i64], OSh.box (53 : Nat) [Sh.int .i64, Sh.int .i64, Sh.sl (3 : Nat)], OSh.row true (79 : Nat) (Ty.pair (Ty.int .i64) (Ty.int .i64))] [((8 : Nat), TSh.at (Sh.ptr (1 : Nat) (0 : Nat))), ((9 : Nat), TSh.at (Sh.ptr (2 : Nat) (0 : Nat)))]
noncomputable def Z7g : LoopDef (Tup Z3H × OutD) := .plain Zoo ZAN (Int × Int × Int × Int × Int × List (Int × Int)) (fun k x => Z88 k x.1.2.1.1 x.1.2.1.2.1 x.1.2.1.2.2.1 x.1.2.2.1.1 x.1.2.2.1.2.1 x.1.2.2.2.1 x.1.2.2.2.2.1.1 x.1.2.2.2.2.1.2.1 x.1.2.2.2.2.2.1 x.2.1 x.2.2.2.2.2.1) (fun z => (((), (z.1, z.2.1, z.2.2.1, ()), (z.2.2.2.1, z.2.2.2.2.1, (), ()), z.2.2.2.2.2, ()), ((), (), ()))) (fun y => (y.1.2.1.1, y.1.2.1.2.1, y.1.2.1.2.2.1, y.1.2.2.1.1, y.1.2.2.1.2.1, y.1.2.2.2.1)) (fun _ => rfl)
theorem ZB8 (k : Nat) (b1_0 : Int) (b1_1 : Int) (b1_2 : Int) (b2_0 : Int) (b2_1 : Int) (o3 : List (Int × Int)) (b4_0 : Int) (b4_1 : Int) (o5 : List (Int × Int)) (v3 : Int) (v12 : Int) : ZcR k b1_0 b1_1 b1_2 b2_0 b2_1 o3 b4_0 b4_1 o5 v3 v12 = repl 2 (Z88 k b1_0 b1_1 b1_2 b2_0 b2_1 o3 b4_0 b4_1 o5 v3 v12) := by
 first
 | (simp only [ZcR, Z88, Zz, ZT, Zx, Zy, Zw, Za, if_true]; done)
 | (simp only [ZcR, Z88, Zz, ZT, Zx, Zy, Zw, Za, if_true]; simp only [Z2E, Z2G, Z5g, Za]; simp only [Z72]; exact Z3w ⟨fun h => by simp only [h, and_self], fun h => by simp only [h, and_self]⟩)
noncomputable def Ze3 : Nat → Int → Int → List (Int × Int) → Int → Int → Int → Int → Int → List (Int × Int) → Int → Int → List (Int × Int) → List Int → List (Int × Int × Int) → Int → Int → Int → Bool → Option (Int × Int × List (Int × Int) × Int × Int × Int × Int × Int × List (Int × Int) × Int × Int × List (Int × Int) × List Int × List (Int × Int × Int) × Int × Int × Int) := fun k b1_0 b1_1 b1_2 b2_0 b2_1 b2_2 b3_0 b3_1 o4 b5_0 b5_1 o6 v1 v2 v3 v12 v15 v52 =>
    if v52 = true then some (b1_0, b1_1, b1_2, b2_0, b2_1, b2_2, b3_0, b3_1, o4, b5_0, b5_1, o6, v1, v2, v3, v12, wrap64 ((0 : Int) - v15)) else some (b1_0, b1_1, b1_2, b2_0, b2_1, b2_2, b3_0, b3_1, o4, b5_0, b5_1, o6, v1, v2, v3, v12, v15)
noncomputable def ZC3 : Spec := Spec.mk [OSh.ro, OSh.box (53 : Nat) [Sh.int .i64, Sh.int .i64, Sh.snap (0 : Nat) (Ty.pair (Ty.int .i64) (Ty.int .i64))], OSh.box (63 : Nat) [Sh.int .i64, Sh.int .i64, Sh.int .i64], OSh.box (53 : Nat) [Sh.int .i64, Sh.int .i64, Sh.sl (4 : Nat)], OSh.row true (79 : Nat) (Ty.pair (Ty.int .i64) (Ty.int .i64)), OSh.box (53 : Nat) [Sh.int .i64, Sh.int .i64, Sh.sl (6 : Nat)], OSh.row true (79 : Nat) (Ty.pair (Ty.int .i64) (Ty.int .i64))] [((1 : Nat), TSh.at (Sh.snap (0 : Nat) (Ty.int .i64))), ((2 : Nat), TSh.at (Sh.snap (0 : Nat) (Ty.pair (Ty.int .i64) (Ty.pair (Ty.int .i64) (Ty.int .i64))))), ((3 : Nat), TSh.at (Sh.int .i64)), ((4 : Nat), TSh.at (Sh.ptr (1 : Nat) (0 : Nat))), ((8 : Nat), TSh.at (Sh.ptr (2 : Nat) (0 : Nat))), ((9 : Nat), TSh.at (Sh.ptr (3 : Nat) (0 : Nat))), ((10 : Nat), TSh.at (Sh.ptr (5 : Nat) (0 : Nat))), ((12 : Nat), TSh.at (Sh.int .i64)), ((15 : Nat), TSh.at (Sh.int .i64)), ((52 : Nat), TSh.at Sh.bool)]
noncomputable def ZBn : Spec := Spec.mk [OSh.ro, OSh.box (53 : Nat) [Sh.int .i64, Sh.int .i64, Sh.snap (0 : Nat) (Ty.pair (Ty.int .i64) (Ty.int .i64))], OSh.box (63 : Nat) [Sh.int .i64, Sh.int .i64, Sh.int .i64], OSh.box (53 : Nat) [Sh.int .i64, Sh.int .i64, Sh.sl (4 : Nat)], OSh.row true (79 : Nat) (Ty.pair (Ty.int .i64) (Ty.int .i64)), OSh.box (53 : Nat) [Sh.int .i64, Sh.int .i64, Sh.sl (6 : Nat)], OSh.row true (79 : Nat) (Ty.pair (Ty.int .i64) (Ty.int .i64))] [((1 : Nat), TSh.at (Sh.snap (0 : Nat) (Ty.int .i64))), ((2 : Nat), TSh.at (Sh.snap (0 : Nat) (Ty.pair (Ty.int .i64) (Ty.pair (Ty.int .i64) (Ty.int .i64))))), ((3 : Nat), TSh.at (Sh.int .i64)), ((4 : Nat), TSh.at (Sh.ptr (1 : Nat) (0 : Nat))), ((8 : Nat), TSh.at (Sh.ptr (2 : Nat) (0 : Nat))), ((9 : Nat), TSh.at (Sh.ptr (3 : Nat) (0 : Nat))), ((10 : Nat), TSh.at (Sh.ptr (5 : Nat) (0 : Nat))), ((12 : Nat), TSh.at (Sh.int .i64)), ((15 : Nat), TSh.at (Sh.int .i64))]
noncomputable def Z1t : LoopDef (Tup Z3H × OutD) := .plain ZC3 ZBn (Int × Int × List (Int × Int) × Int × Int × Int × Int × Int × List (Int × Int) × Int × Int × List (Int × Int) × List Int × List (Int × Int × Int) × Int × Int × Int) (fun k x => Ze3 k x.1.2.1.1 x.1.2.1.2.1 x.1.2.1.2.2.1 x.1.2.2.1.1 x.1.2.2.1.2.1 x.1.2.2.1.2.2.1 x.1.2.2.2.1.1 x.1.2.2.2.1.2.1 x.1.2.2.2.2.1 x.1.2.2.2.2.2.1.1 x.1.2.2.2.2.2.1.2.1 x.1.2.2.2.2.2.2.1 x.2.1 x.2.2.1 x.2.2.2.1 x.2.2.2.2.2.2.2.2.1 x.2.2.2.2.2.2.2.2.2.1 x.2.2.2.2.2.2.2.2.2.2.1) (fun z => (((), (z.1, z.2.1, z.2.2.1, ()), (z.2.2.2.1, z.2.2.2.2.1, z.2.2.2.2.2.1, ()), (z.2.2.2.2.2.2.1, z.2.2.2.2.2.2.2.1, (), ()), z.2.2.2.2.2.2.2.2.1, (z.2.2.2.2.2.2.2.2.2.1, z.2.2.2.2.2.2.2.2.2.2.1, (), ()), z.2.2.2.2.2.2.2.2.2.2.2.1, ()), (z.2.2.2.2.2.2.2.2.2.2.2.2.1, z.2.2.2.2.2.2.2.2.2.2.2.2.2.1, z.2.2.2.2.2.2.2.2.2.2.2.2.2.2.1, (), (), (), (), z.2.2.2.2.2.2.2.2.2.2.2.2.2.2.2.1, z.2.2.2.2.2.2.2.2.2.2.2.2.2.2.2.2, ()))) (fun y => (y.1.2.1.1, y.1.2.1.2.1, y.1.2.1.2.2.1, y.1.2.2.1.1, y.1.2.2.1.2.1, y.1.2.2.1.2.2.1, y.1.2.2.2.1.1, y.1.2.2.2.1.2.1, y.1.2.2.2.2.1, y.1.2.2.2.2.2.1.1, y.1.2.2.2.2.2.1.2.1, y.1.2.2.2.2.2.2.1, y.2.1, y.2.2.1, y.2.2.2.1, y.2.2.2.2.2.2.2.2.1, y.2.2.2.2.2.2.2.2.2.1)) (fun _ => rfl)
noncomputable def Z8Q : Nat → Int → Int → List (Int × Int) → Int → Int → Int → Int → Int → List (Int × Int) → Int → Int → List (Int × Int) → List Int → List (Int × Int × Int) → Int → Int → Int → List (Int × Int × Int) → Int → Int → Option (Int × Int × List (Int × Int) × Int × Int × Int × Int × Int × List (Int × Int) × Int × Int × List (Int × Int) × List Int × List (Int × Int × Int) × Int × Int × Int)
 | 0, _, _, _, _, _, _, _, _, _, _, _, _, _, _, _, _, _, _, _, _ => none
 | k + 1, b1_0, b1_1, b1_2, b2_0, b2_1, b2_2, b3_0, b3_1, o4, b5_0, b5_1, o6, v1, v2, v3, v12, v15, v64, v65, v66 =>
  if decide (v66 < v65) = true then if (0 : Int) ≤ v66 then if v66 < (↑(List.length v64) : Int) then if decide (Prod.fst (List.getD v64 (Int.toNat v66) ((0 : Int), (0 : Int), (0 : Int))) = (1 : Int)) = true then if (0 : Int) ≤ wrap64 (wrap64 (Prod.fst (Prod.snd (List.getD v64 (Int.toNat v66) ((0 : Int), (0 : Int), (0 : Int)))) * b1_1) + Prod.snd (Prod.snd (List.getD v64 (Int.toNat v66) ((0 : Int), (0 : Int), (0 : Int))))) then if wrap64 (wrap64 (Prod.fst (Prod.snd (List.getD v64 (Int.toNat v66) ((0 : Int), (0 : Int), (0 : Int)))) * b1_1) + Prod.snd (Prod.snd (List.getD v64 (Int.toNat v66) ((0 : Int), (0 : Int), (0 : Int))))) < (↑(List.length b1_2) : Int) then if (0 : Int) ≤ wrap64 (wrap64 (Prod.fst (Prod.snd (List.getD v64 (Int.toNat v66) ((0 : Int), (0 : Int), (0 : Int)))) * b1_1) + Prod.snd (Prod.snd (List.getD v64 (Int.toNat v66) ((0 : Int), (0 : Int), (0 : Int))))) then if wrap64 (wrap64 (Prod.fst (Prod.snd (List.getD v64 (Int.toNat v66) ((0 : Int), (0 : Int), (0 : Int)))) * b1_1) + Prod.snd (Prod.snd (List.getD v64 (Int.toNat v66) ((0 : Int), (0 : Int), (0 : Int))))) < (↑(List.length o6) : Int) then Z8Q k b1_0 b1_1 b1_2 b2_0 b2_1 b2_2 b3_0 b3_1 o4 b5_0 b5_1 (List.set o6 (Int.toNat (wrap64 (wrap64 (Prod.fst (Prod.snd (List.getD v64 (Int.toNat v66) ((0 : Int), (0 : Int), (0 : Int)))) * b1_1) + Prod.snd (Prod.snd (List.getD v64 (Int.toNat v66) ((0 : Int), (0 : Int), (0 : Int))))))) (Prod.fst (List.getD b1_2 (Int.toNat (wrap64 (wrap64 (Prod.fst (Prod.snd (List.getD v64 (Int.toNat v66) ((0 : Int), (0 : Int), (0 : Int)))) * b1_1) + Prod.snd (Prod.snd (List.getD v64 (Int.toNat v66) ((0 : Int), (0 : Int), (0 : Int))))))) ((0 : Int), (0 : Int))), Prod.snd (List.getD b1_2 (Int.toNat (wrap64 (wrap64 (Prod.fst (Prod.snd (List.getD v64 (Int.toNat v66) ((0 : Int), (0 : Int), (0 : Int)))) * b1_1) + Prod.snd (Prod.snd (List.getD v64 (Int.toNat v66) ((0 : Int), (0 : Int), (0 : Int))))))) ((0 : Int), (0 : Int))))) v1 v2 v3 v12 v15 v64 v65 (wrap64 (v66 + (1 : Int))) else none else none else none else none else Z8Q k b1_0 b1_1 b1_2 b2_0 b2_1 b2_2 b3_0 b3_1 o4 b5_0 b5_1 o6 v1 v2 v3 v12 v15 v64 v65 (wrap64 (v66 + (1 : Int))) else none else none else some (b1_0, b1_1, b1_2, b2_0, b2_1, b2_2, b3_0, b3_1, o4, b5_0, b5_1, o6, v1, v2, v3, v12, v15)
noncomputable def Zje : Spec := Spec.mk [OSh.ro, OSh.box (53 : Nat) [Sh.int .i64, Sh.int .i64, Sh.snap (0 : Nat) (Ty.pair (Ty.int .i64) (Ty.int .i64))], OSh.box (63 : Nat) [Sh.int .i64, Sh.int .i64, Sh.int .i64], OSh.box (53 : Nat) [Sh.int .i64, Sh.int .i64, Sh.sl (4 : Nat)], OSh.row true (79 : Nat) (Ty.pair (Ty.int .i64) (Ty.int .i64)), OSh.box (53 : Nat) [Sh.int .i64, Sh.int .i64, Sh.sl (6 : Nat)], OSh.row true (79 : Nat) (Ty.pair (Ty.int .i64) (Ty.int .i64))] [((1 : Nat), TSh.at (Sh.snap (0 : Nat) (Ty.int .i64))), ((2 : Nat), TSh.at (Sh.snap (0 : Nat) (Ty.pair (Ty.int .i64) (Ty.pair (Ty.int .i64) (Ty.int .i64))))), ((3 : Nat), TSh.at (Sh.int .i64)), ((4 : Nat), TSh.at (Sh.ptr (1 : Nat) (0 : Nat))), ((8 : Nat), TSh.at (Sh.ptr (2 : Nat) (0 : Nat))), ((9 : Nat), TSh.at (Sh.ptr (3 : Nat) (0 : Nat))), ((10 : Nat), TSh.at (Sh.ptr (5 : Nat) (0 : Nat))), ((12 : Nat), TSh.at (Sh.int .i64)), ((15 : Nat), TSh.at (Sh.int .i64)), ((64 : Nat), TSh.at (Sh.snap (0 : Nat) (Ty.pair (Ty.int .i64) (Ty.pair (Ty.int .i64) (Ty.int .i64))))), ((65 : Nat), TSh.at (Sh.int .i64)), ((66 : Nat), TSh.at (Sh.int .i64))]
noncomputable def ZEx : Spec := Spec.mk [OSh.ro, OSh.box (53 : Nat) [Sh.int .i64, Sh.int .i64, Sh.snap (0 : Nat) (Ty.pair (Ty.int .i64) (Ty.int .i64))], OSh.box (63 : Nat) [Sh.int .i64, Sh.int .i64, Sh.int .i64], OSh.box (53 : Nat) [Sh.int .i64, Sh.int .i64, Sh.sl (4 : Nat)], OSh.row true (79 : Nat) (Ty.pair (Ty.int .i64) (Ty.int .i64)), OSh.box (53 : Nat) [Sh.int .i64, Sh.int .i64, Sh.sl (6 : Nat)], OSh.row true (79 : Nat) (Ty.pair (Ty.int .i64) (Ty.int .i64))] [((1 : Nat), TSh.at (Sh.snap (0 : Nat) (Ty.int .i64))), ((2 : Nat), TSh.at (Sh.snap (0 : Nat) (Ty.pair (Ty.int .i64) (Ty.pair (Ty.int .i64) (Ty.int .i64))))), ((3 : Nat), TSh.at (Sh.int .i64)), ((4 : Nat), TSh.at (Sh.ptr (1 : Nat) (0 : Nat))), ((8 : Nat), TSh.at (Sh.ptr (2 : Nat) (0 : Nat))), ((9 : Nat), TSh.at (Sh.ptr (3 : Nat) (0 : Nat))), ((10 : Nat), TSh.at (Sh.ptr (5 : Nat) (0 : Nat))), ((12 : Nat), TSh.at (Sh.int .i64)), ((15 : Nat), TSh.at (Sh.int .i64))]
noncomputable def Z9D : LoopDef (Tup Z3H × OutD) := .plain Zje ZEx (Int × Int × List (Int × Int) × Int × Int × Int × Int × Int × List (Int × Int) × Int × Int × List (Int × Int) × List Int × List (Int × Int × Int) × Int × Int × Int) (fun k x => Z8Q k x.1.2.1.1 x.1.2.1.2.1 x.1.2.1.2.2.1 x.1.2.2.1.1 x.1.2.2.1.2.1 x.1.2.2.1.2.2.1 x.1.2.2.2.1.1 x.1.2.2.2.1.2.1 x.1.2.2.2.2.1 x.1.2.2.2.2.2.1.1 x.1.2.2.2.2.2.1.2.1 x.1.2.2.2.2.2.2.1 x.2.1 x.2.2.1 x.2.2.2.1 x.2.2.2.2.2.2.2.2.1 x.2.2.2.2.2.2.2.2.2.1 x.2.2.2.2.2.2.2.2.2.2.1 x.2.2.2.2.2.2.2.2.2.2.2.1 x.2.2.2.2.2.2.2.2.2.2.2.2.1) (fun z => (((), (z.1, z.2.1, z.2.2.1, ()), (z.2.2.2.1, z.2.2.2.2.1, z.2.2.2.2.2.1, ()), (z.2.2.2.2.2.2.1, z.2.2.2.2.2.2.2.1, (), ()), z.2.2.2.2.2.2.2.2.1, (z.2.2.2.2.2.2.2.2.2.1, z.2.2.2.2.2.2.2.2.2.2.1, (), ()), z.2.2.2.2.2.2.2.2.2.2.2.1, ()), (z.2.2.2.2.2.2.2.2.2.2.2.2.1, z.2.2.2.2.2.2.2.2.2.2.2.2.2.1, z.2.2.2.2.2.2.2.2.2.2.2.2.2.2.1, (), (), (), (), z.2.2.2.2.2.2.2.2.2.2.2.2.2.2.2.1, z.2.2.2.2.2.2.2.2.2.2.2.2.2.2.2.2, ()))) (fun y => (y.1.2.1.1, y.1.2.1.2.1, y.1.2.1.2.2.1, y.1.2.2.1.1, y.1.2.2.1.2.1, y.1.2.2.1.2.2.1, y.1.2.2.2.1.1, y.1.2.2.2.1.2.1, y.1.2.2.2.2.1, y.1.2.2.2.2.2.1.1, y.1.2.2.2.2.2.1.2.1, y.1.2.2.2.2.2.2.1, y.2.1, y.2.2.1, y.2.2.2.1, y.2.2.2.2.2.2.2.2.1, y.2.2.2.2.2.2.2.2.2.1)) (fun _ => rfl)
noncomputable def Z80 : Nat → Int → Int → Int → Int → Int → List (Int × Int) → Int → Int → List (Int × Int) → Int → Int → Option (Int × Int × Int × Int × Int × List (Int × Int)) := fun k b1_0 b1_1 b1_2 b2_0 b2_1 o3 b4_0 b4_1 o5 v3 v12 =>
    some ((3 : Int), v12, v3, b4_0, b4_1, o5)
noncomputable def Zcp : Nat → Int → Int → Int → Int → Int → List (Int × Int) → Int → Int → List (Int × Int) → Int → Int → Option (List (Int × Int × Int × Int × Int × List (Int × Int))) := fun k b1_0 b1_1 b1_2 b2_0 b2_1 o3 b4_0 b4_1 o5 v3 v12 =>
    joinL (some [((3 : Int), v12, v3, b4_0, b4_1, o5)]) (some [((3 : Int), v12, v3, b4_0, b4_1, o5)])
noncomputable def ZnG : Spec := Spec.mk [OSh.ro, OSh.box (63 : Nat) [Sh.int .i64, Sh.int .i64, Sh.int .i64], OSh.box (53 : Nat) [Sh.int .i64, Sh.int .i64, Sh.sl (3 : Nat)], OSh.row true (79 : Nat) (Ty.pair (Ty.int .i64) (Ty.int .i64)), OSh.box (53 : Nat) [Sh.int .i64, Sh.int .i64, Sh.sl (5 : Nat)], OSh.row true (79 : Nat) (Ty.pair (Ty.int .i64) (Ty.int .i64))] [((3 : Nat), TSh.at (Sh.int .i64)), ((8 : Nat), TSh.at (Sh.ptr (1 : Nat) (0 : Nat))), ((9 : Nat), TSh.at (Sh.ptr (2 : Nat) (0 : Nat))), ((10 : Nat), TSh.at (Sh.ptr (4 : Nat) (0 : Nat))), ((12 : Nat), TSh.at (Sh.int .i64))]
noncomputable def ZAS : Spec := Spec.mk [OSh.ro, OSh.box (63 : Nat) [Sh.int .i64, Sh.int .i64, Sh.int .i64], OSh.box (53 : Nat) [Sh.int .i64, Sh.int .i64, Sh.sl (3 : Nat)], OSh.row true (79 : Nat) (Ty.pair (Ty.int .i64) (Ty.int .i64))] [((8 : Nat), TSh.at (Sh.ptr (1 : Nat) (0 : Nat))), ((9 : Nat), TSh.at (Sh.ptr (2 : Nat) (0 : Nat)))]
noncomputable def Z7b : LoopDef (Tup Z3H × OutD) := .plain ZnG ZAS (Int × Int × Int × Int × Int × List (Int × Int)) (fun k x => Z80 k x.1.2.1.1 x.1.2.1.2.1 x.1.2.1.2.2.1 x.1.2.2.1.1 x.1.2.2.1.2.1 x.1.2.2.2.1 x.1.2.2.2.2.1.1 x.1.2.2.2.2.1.2.1 x.1.2.2.2.2.2.1 x.2.1 x.2.2.2.2.2.1) (fun z => (((), (z.1, z.2.1, z.2.2.1, ()), (z.2.2.2.1, z.2.2.2.2.1, (), ()), z.2.2.2.2.2, ()), ((), (), ()))) (fun y => (y.1.2.1.1, y.1.2.1.2.1, y.1.2.1.2.2.1, y.1.2.2.1.1, y.1.2.2.1.2.1, y.1.2.2.2.1)) (fun _ => rfl)
theorem ZBg (k : Nat) (b1_0 : Int) (b1_1 : Int) (b1_2 : Int) (b2_0 : Int) (b2_1 : Int) (o3 : List (Int × Int)) (b4_0 : Int) (b4_1 : Int) (o5 : List (Int × Int)) (v3 : Int) (v12 : Int) : Zcp k b1_0 b1_1 b1_2 b2_0 b2_1 o3 b4_0 b4_1 o5 v3 v12 = repl 2 (Z80 k b1_0 b1_1 b1_2 b2_0 b2_1 o3 b4_0 b4_1 o5 v3 v12) := by
 first
 | (simp only [Zcp, Z80, Zz, ZT, Zx, Zy, Zw, Za, if_true]; done)
 | (simp only [Zcp, Z80, Zz, ZT, Zx, Zy, Zw, Za, if_true]; simp only [Z2E, Z2G, Z5g, Za]; simp only [Z72]; exact Z3w ⟨fun h => by simp only [h, and_self], fun h => by simp only [h, and_self]⟩)
noncomputable def ZaT : Nat → Int → Int → List (Int × Int) → Int → Int → Int → Int → Int → List (Int × Int) → Int → Int → List (Int × Int) → List Int → List (Int × Int × Int) → Int → Int → Int → Option (LR (Int × Int × List (Int × Int) × Int × Int × Int × Int × Int × List (Int × Int) × Int × Int × List (Int × Int) × Int) ((Int × Int × Int) × Int × Int × List (Int × Int)))
 | 0, _, _, _, _, _, _, _, _, _, _, _, _, _, _, _, _, _ => none
 | k + 1, b1_0, b1_1, b1_2, b2_0, b2_1, b2_2, b3_0, b3_1, o4, b5_0, b5_1, o6, v1, v2, v3, v11, v12 =>
  if decide (v12 < b1_0) = true then Option.bind (Zbp k (b5_0, b5_1, o6) v12 v3) fun z1 => Option.bind (ZjB k v2 v12 v3) fun z2 => if decide (z2 = (2 : Int)) = true then Option.bind (Z9B k b2_0 b2_1 b2_2 b3_0 b3_1 o4 b5_0 b5_1 o6 v3 v12) fun z3 => some (LR.ret ((Prod.fst z3, Prod.fst z3.2, Prod.fst z3.2.2), Prod.fst z3.2.2.2, Prod.fst z3.2.2.2.2, Prod.snd z3.2.2.2.2)) else if decide (Prod.fst z1 = (5 : Int)) = true then Option.bind (Z88 k b2_0 b2_1 b2_2 b3_0 b3_1 o4 b5_0 b5_1 o6 v3 v12) fun z4 => some (LR.ret ((Prod.fst z4, Prod.fst z4.2, Prod.fst z4.2.2), Prod.fst z4.2.2.2, Prod.fst z4.2.2.2.2, Prod.snd z4.2.2.2.2)) else Option.bind (Zgg k (Prod.fst z1, Prod.snd z1) v11) fun z5 => Option.bind (Ze3 k b1_0 b1_1 b1_2 b2_0 b2_1 b2_2 b3_0 b3_1 o4 b5_0 b5_1 o6 v1 v2 v3 v12 z5 (decide (z2 = (3 : Int)))) fun z6 => Option.bind (Zgd k (Prod.fst z6.2.2.2.2.2.2.2.2.2, Prod.fst z6.2.2.2.2.2.2.2.2.2.2, Prod.fst z6.2.2.2.2.2.2.2.2.2.2.2) z6.2.2.2.2.2.2.2.2.2.2.2.2.1 (wrap64 (wrap64 (Prod.fst z6.2.2.2.2.2.2.2.2.2.2.2.2.2.2.2 * Prod.fst z6.2) + Prod.fst z6.2.2.2.2.2.2.2.2.2.2.2.2.2.2))) fun z7 => Option.bind (Z8Q k z6.1 z6.2.1 z6.2.2.1 z6.2.2.2.1 z6.2.2.2.2.1 z6.2.2.2.2.2.1 z6.2.2.2.2.2.2.1 z6.2.2.2.2.2.2.2.1 z6.2.2.2.2.2.2.2.2.1 z6.2.2.2.2.2.2.2.2.2.1 z6.2.2.2.2.2.2.2.2.2.2.1 z7 z6.2.2.2.2.2.2.2.2.2.2.2.2.1 z6.2.2.2.2.2.2.2.2.2.2.2.2.2.1 z6.2.2.2.2.2.2.2.2.2.2.2.2.2.2.1 z6.2.2.2.2.2.2.2.2.2.2.2.2.2.2.2.1 z6.2.2.2.2.2.2.2.2.2.2.2.2.2.2.2.2 z6.2.2.2.2.2.2.2.2.2.2.2.2.2.1 (↑(List.length z6.2.2.2.2.2.2.2.2.2.2.2.2.2.1) : Int) (0 : Int)) fun z8 => Option.bind (Z5Q k (wrap64 (Prod.fst z8.2.2.2.2.2.2.2.2.2.2.2.2.2.2 + Prod.snd z8.2.2.2.2.2.2.2.2.2.2.2.2.2.2.2)) (0 : Int) (wrap64 (Prod.fst z8.2 - (1 : Int)))) fun z9 => if (!z9) = true then Option.bind (Z80 k z8.2.2.2.1 z8.2.2.2.2.1 z8.2.2.2.2.2.1 z8.2.2.2.2.2.2.1 z8.2.2.2.2.2.2.2.1 z8.2.2.2.2.2.2.2.2.1 z8.2.2.2.2.2.2.2.2.2.1 z8.2.2.2.2.2.2.2.2.2.2.1 z8.2.2.2.2.2.2.2.2.2.2.2.1 (wrap64 (Prod.fst z8.2.2.2.2.2.2.2.2.2.2.2.2.2.2 + Prod.snd z8.2.2.2.2.2.2.2.2.2.2.2.2.2.2.2)) z8.2.2.2.2.2.2.2.2.2.2.2.2.2.2.2.1) fun z10 => some (LR.ret ((Prod.fst z10, Prod.fst z10.2, Prod.fst z10.2.2), Prod.fst z10.2.2.2, Prod.fst z10.2.2.2.2, Prod.snd z10.2.2.2.2)) else ZaT k z8.1 z8.2.1 z8.2.2.1 z8.2.2.2.1 z8.2.2.2.2.1 z8.2.2.2.2.2.1 z8.2.2.2.2.2.2.1 z8.2.2.2.2.2.2.2.1 z8.2.2.2.2.2.2.2.2.1 z8.2.2.2.2.2.2.2.2.2.1 z8.2.2.2.2.2.2.2.2.2.2.1 z8.2.2.2.2.2.2.2.2.2.2.2.1 z8.2.2.2.2.2.2.2.2.2.2.2.2.1 z8.2.2.2.2.2.2.2.2.2.2.2.2.2.1 (wrap64 (Prod.fst z8.2.2.2.2.2.2.2.2.2.2.2.2.2.2 + Prod.snd z8.2.2.2.2.2.2.2.2.2.2.2.2.2.2.2)) (wrap64 ((0 : Int) - Prod.snd z8.2.2.2.2.2.2.2.2.2.2.2.2.2.2.2)) (wrap64 (Prod.fst z8.2.2.2.2.2.2.2.2.2.2.2.2.2.2.2 + (1 : Int))) else some (LR.go (b1_0, b1_1, b1_2, b2_0, b2_1, b2_2, b3_0, b3_1, o4, b5_0, b5_1, o6, v3))
noncomputable def Zj5 : Spec := Spec.mk [OSh.ro, OSh.box (53 : Nat) [Sh.int .i64, Sh.int .i64, Sh.snap (0 : Nat) (Ty.pair (Ty.int .i64) (Ty.int .i64))], OSh.box (63 : Nat) [Sh.int .i64, Sh.int .i64, Sh.int .i64], OSh.box (53 : Nat) [Sh.int .i64, Sh.int .i64, Sh.sl (4 : Nat)], OSh.row true (79 : Nat) (Ty.pair (Ty.int .i64) (Ty.int .i64)), OSh.box (53 : Nat) [Sh.int .i64, Sh.int .i64, Sh.sl (6 : Nat)], OSh.row true (79 : Nat) (Ty.pair (Ty.int .i64) (Ty.int .i64))] [((1 : Nat), TSh.at (Sh.snap (0 : Nat) (Ty.int .i64))), ((2 : Nat), TSh.at (Sh.snap (0 : Nat) (Ty.pair (Ty.int .i64) (Ty.pair (Ty.int .i64) (Ty.int .i64))))), ((3 : Nat), TSh.at (Sh.int .i64)), ((4 : Nat), TSh.at (Sh.ptr (1 : Nat) (0 : Nat))), ((8 : Nat), TSh.at (Sh.ptr (2 : Nat) (0 : Nat))), ((9 : Nat), TSh.at (Sh.ptr (3 : Nat) (0 : Nat))), ((10 : Nat), TSh.at (Sh.ptr (5 : Nat) (0 : Nat))), ((11 : Nat), TSh.at (Sh.int .i64)), ((12 : Nat), TSh.at (Sh.int .i64))]
noncomputable def ZES : Spec := Spec.mk [OSh.ro, OSh.box (53 : Nat) [Sh.int .i64, Sh.int .i64, Sh.snap (0 : Nat) (Ty.pair (Ty.int .i64) (Ty.int .i64))], OSh.box (63 : Nat) [Sh.int .i64, Sh.int .i64, Sh.int .i64], OSh.box (53 : Nat) [Sh.int .i64, Sh.int .i64, Sh.sl (4 : Nat)], OSh.row true (79 : Nat) (Ty.pair (Ty.int .i64) (Ty.int .i64)), OSh.box (53 : Nat) [Sh.int .i64, Sh.int .i64, Sh.sl (6 : Nat)], OSh.row true (79 : Nat) (Ty.pair (Ty.int .i64) (Ty.int .i64))] [((3 : Nat), TSh.at (Sh.int .i64)), ((4 : Nat), TSh.at (Sh.ptr (1 : Nat) (0 : Nat))), ((8 : Nat), TSh.at (Sh.ptr (2 : Nat) (0 : Nat))), ((9 : Nat), TSh.at (Sh.ptr (3 : Nat) (0 : Nat))), ((10 : Nat), TSh.at (Sh.ptr (5 : Nat) (0 : Nat)))]
noncomputable def Z9I : LoopDef (Tup Z3H × OutD) := .rets Zj5 ZES (Int × Int × List (Int × Int) × Int × Int × Int × Int × Int × List (Int × Int) × Int × Int × List (Int × Int) × Int) ((Int × Int × Int) × Int × Int × List (Int × Int)) (fun k x => ZaT k x.1.2.1.1 x.1.2.1.2.1 x.1.2.1.2.2.1 x.1.2.2.1.1 x.1.2.2.1.2.1 x.1.2.2.1.2.2.1 x.1.2.2.2.1.1 x.1.2.2.2.1.2.1 x.1.2.2.2.2.1 x.1.2.2.2.2.2.1.1 x.1.2.2.2.2.2.1.2.1 x.1.2.2.2.2.2.2.1 x.2.1 x.2.2.1 x.2.2.2.1 x.2.2.2.2.2.2.2.2.1 x.2.2.2.2.2.2.2.2.2.1) (fun z => (((), (z.1, z.2.1, z.2.2.1, ()), (z.2.2.2.1, z.2.2.2.2.1, z.2.2.2.2.2.1, ()), (z.2.2.2.2.2.2.1, z.2.2.2.2.2.2.2.1, (), ()), z.2.2.2.2.2.2.2.2.1, (z.2.2.2.2.2.2.2.2.2.1, z.2.2.2.2.2.2.2.2.2.2.1, (), ()), z.2.2.2.2.2.2.2.2.2.2.2.1, ()), (z.2.2.2.2.2.2.2.2.2.2.2.2, (), (), (), (), ()))) (fun y => (y.1.2.1.1, y.1.2.1.2.1, y.1.2.1.2.2.1, y.1.2.2.1.1, y.1.2.2.1.2.1, y.1.2.2.1.2.2.1, y.1.2.2.2.1.1, y.1.2.2.2.1.2.1, y.1.2.2.2.2.1, y.1.2.2.2.2.2.1.1, y.1.2.2.2.2.2.1.2.1, y.1.2.2.2.2.2.2.1, y.2.1)) (fun _ => rfl) ZnV ZmY ZoU
noncomputable def Z8n : Nat → Int → Int → List (Int × Int) → Int → Int → Int → Int → Int → List (Int × Int) → Int → Int → List (Int × Int) → Int → Option (Int × Int × Int × Int × Int × List (Int × Int)) := fun k b1_0 b1_1 b1_2 b2_0 b2_1 b2_2 b3_0 b3_1 o4 b5_0 b5_1 o6 v3 =>
    some ((1 : Int), b1_0, v3, b5_0, b5_1, o6)
noncomputable def ZcP : Nat → Int → Int → List (Int × Int) → Int → Int → Int → Int → Int → List (Int × Int) → Int → Int → List (Int × Int) → Int → Option (List (Int × Int × Int × Int × Int × List (Int × Int))) := fun k b1_0 b1_1 b1_2 b2_0 b2_1 b2_2 b3_0 b3_1 o4 b5_0 b5_1 o6 v3 =>
    joinL (some [((1 : Int), b1_0, v3, b5_0, b5_1, o6)]) (some [((1 : Int), b1_0, v3, b5_0, b5_1, o6)])
noncomputable def Znf : Spec := Spec.mk [OSh.ro, OSh.box (53 : Nat) [Sh.int .i64, Sh.int .i64, Sh.snap (0 : Nat) (Ty.pair (Ty.int .i64) (Ty.int .i64))], OSh.box (63 : Nat) [Sh.int .i64, Sh.int .i64, Sh.int .i64], OSh.box (53 : Nat) [Sh.int .i64, Sh.int .i64, Sh.sl (4 : Nat)], OSh.row true (79 : Nat) (Ty.pair (Ty.int .i64) (Ty.int .i64)), OSh.box (53 : Nat) [Sh.int .i64, Sh.int .i64, Sh.sl (6 : Nat)], OSh.row true (79 : Nat) (Ty.pair (Ty.int .i64) (Ty.int .i64))] [((3 : Nat), TSh.at (Sh.int .i64)), ((4 : Nat), TSh.at (Sh.ptr (1 : Nat) (0 : Nat))), ((8 : Nat), TSh.at (Sh.ptr (2 : Nat) (0 : Nat))), ((9 : Nat), TSh.at (Sh.ptr (3 : Nat) (0 : Nat))), ((10 : Nat), TSh.at (Sh.ptr (5 : Nat) (0 : Nat)))]
noncomputable def ZB1 : Spec := Spec.mk [OSh.ro, OSh.box (63 : Nat) [Sh.int .i64, Sh.int .i64, Sh.int .i64], OSh.box (53 : Nat) [Sh.int .i64, Sh.int .i64, Sh.sl (3 : Nat)], OSh.row true (79 : Nat) (Ty.pair (Ty.int .i64) (Ty.int .i64))] [((8 : Nat), TSh.at (Sh.ptr (1 : Nat) (0 : Nat))), ((9 : Nat), TSh.at (Sh.ptr (2 : Nat) (0 : Nat)))]
noncomputable def Z75 : LoopDef (Tup Z3H × OutD) := .plain Znf ZB1 (Int × Int × Int × Int × Int × List (Int × Int)) (fun k x => Z8n k x.1.2.1.1 x.1.2.1.2.1 x.1.2.1.2.2.1 x.1.2.2.1.1 x.1.2.2.1.2.1 x.1.2.2.1.2.2.1 x.1.2.2.2.1.1 x.1.2.2.2.1.2.1 x.1.2.2.2.2.1 x.1.2.2.2.2.2.1.1 x.1.2.2.2.2.2.1.2.1 x.1.2.2.2.2.2.2.1 x.2.1) (fun z => (((), (z.1, z.2.1, z.2.2.1, ()), (z.2.2.2.1, z.2.2.2.2.1, (), ()), z.2.2.2.2.2, ()), ((), (), ()))) (fun y => (y.1.2.1.1, y.1.2.1.2.1, y.1.2.1.2.2.1, y.1.2.2.1.1, y.1.2.2.1.2.1, y.1.2.2.2.1)) (fun _ => rfl)
theorem ZBw (k : Nat) (b1_0 : Int) (b1_1 : Int) (b1_2 : List (Int × Int)) (b2_0 : Int) (b2_1 : Int) (b2_2 : Int) (b3_0 : Int) (b3_1 : Int) (o4 : List (Int × Int)) (b5_0 : Int) (b5_1 : Int) (o6 : List (Int × Int)) (v3 : Int) : ZcP k b1_0 b1_1 b1_2 b2_0 b2_1 b2_2 b3_0 b3_1 o4 b5_0 b5_1 o6 v3 = repl 2 (Z8n k b1_0 b1_1 b1_2 b2_0 b2_1 b2_2 b3_0 b3_1 o4 b5_0 b5_1 o6 v3) := by
 first
 | (simp only [ZcP, Z8n, Zz, ZT, Zx, Zy, Zw, Za, if_true]; done)
 | (simp only [ZcP, Z8n, Zz, ZT, Zx, Zy, Zw, Za, if_true]; simp only [Z2E, Z2G, Z5g, Za]; simp only [Z72]; exact Z3w ⟨fun h => by simp only [h, and_self], fun h => by simp only [h, and_self]⟩)
noncomputable def Zjy : Nat → Int × Int × List (Int × Int) → List Int → List (Int × Int × Int) → Int → Option ((Int × Int × Int) × Int × Int × List (Int × Int))
 | 0, _, _, _, _ => none
 | k + 1, p0, p1, p2, p3 =>
  Option.bind (Za2 k (Prod.fst p0, Prod.fst p0.2, Prod.snd p0.2)) fun z0 => Option.bind (ZaT k p0.1 p0.2.1 p0.2.2 (0 : Int) (0 : Int) (0 : Int) (0 : Int) (0 : Int) [] z0.1 z0.2.1 z0.2.2 p1 p2 p3 (0 : Int) (0 : Int)) fun z11 => LR.on z11 (fun y11 => Option.bind (Z8n k y11.1 y11.2.1 y11.2.2.1 y11.2.2.2.1 y11.2.2.2.2.1 y11.2.2.2.2.2.1 y11.2.2.2.2.2.2.1 y11.2.2.2.2.2.2.2.1 y11.2.2.2.2.2.2.2.2.1 y11.2.2.2.2.2.2.2.2.2.1 y11.2.2.2.2.2.2.2.2.2.2.1 y11.2.2.2.2.2.2.2.2.2.2.2.1 y11.2.2.2.2.2.2.2.2.2.2.2.2) fun z12 => some ((Prod.fst z12, Prod.fst z12.2, Prod.fst z12.2.2), Prod.fst z12.2.2.2, Prod.fst z12.2.2.2.2, Prod.snd z12.2.2.2.2)) fun r11 => some r11
noncomputable def Z9w : FnDef := .of ZAv Z3H ((Int × Int × Int) × Int × Int × List (Int × Int)) (fun k x => Zjy k x.1 x.2.1 x.2.2.1 x.2.2.2.1) ZnV ZmY ZoU
noncomputable def Z50 : Code := Try.f186.body.getD .skip
noncomputable def Zb : Ctx (Tup Z3H × OutD) := { T := T, G := [(184, Z61.E), (183, Z7x.E), (210, Z9v.E), (211, Z6A.E), (212, Z6I.E), (96, Z3K.E)], mvs := [], no := 0, n := 111, res := resOf T ZAv Z3H Try.f186.results.toList, loops := [(2, Z9D.E), (0, Z9I.E)], regs := [(9, Z8f.E), (11, Z7g.E), (26, Z7b.E), (27, Z75.E)], conds := [(52, Z1t.E)] }
theorem Z9u (k : Nat) : EnvOK Try.prog k Zb.G := (EnvOK.cons (ZwF k) (EnvOK.cons (ZAr k) (EnvOK.cons (ZIg k) (EnvOK.cons (ZFz k) (EnvOK.cons (ZGm k) (EnvOK.cons (ZfU k) (EnvOK.nil mixed)))))))
noncomputable def Zhm : Array Oper := (findReg 9 Z50).getD #[]
theorem ZE0 (k : Nat) (x : Zpr.D) : execD Zb.T Zb.G Zb.mvs k Zhm (Z8f.inp.st Zb.n x) (outK Zb Z8f) = Ze2 k x.1.2.1.1 x.1.2.1.2.1 x.1.2.1.2.2.1 x.1.2.2.1.1 x.1.2.2.1.2.1 x.1.2.2.2.1 x.1.2.2.2.2.1.1 x.1.2.2.2.2.1.2.1 x.1.2.2.2.2.2.1 x.2.1 x.2.2.2.2.2.1 := by kernel_rfl
theorem ZCn (k : Nat) : EOK Try.prog Zb k Z8f.E (.region 9 Zhm true) := Z9Z (D := Z8f) (m := 2) T_ok (Z9u k) (fun x => (ZE0 k x).trans (ZDS k x.1.2.1.1 x.1.2.1.2.1 x.1.2.1.2.2.1 x.1.2.2.1.1 x.1.2.2.1.2.1 x.1.2.2.2.1 x.1.2.2.2.2.1.1 x.1.2.2.2.2.1.2.1 x.1.2.2.2.2.2.1 x.2.1 x.2.2.2.2.2.1))
noncomputable def ZgL : Array Oper := (findReg 11 Z50).getD #[]
theorem ZCr (k : Nat) (x : Zoo.D) : execD Zb.T Zb.G Zb.mvs k ZgL (Z7g.inp.st Zb.n x) (outK Zb Z7g) = ZcR k x.1.2.1.1 x.1.2.1.2.1 x.1.2.1.2.2.1 x.1.2.2.1.1 x.1.2.2.1.2.1 x.1.2.2.2.1 x.1.2.2.2.2.1.1 x.1.2.2.2.2.1.2.1 x.1.2.2.2.2.2.1 x.2.1 x.2.2.2.2.2.1 := by kernel_rfl
theorem ZzH (k : Nat) : EOK Try.prog Zb k Z7g.E (.region 11 ZgL true) := Z9Z (D := Z7g) (m := 2) T_ok (Z9u k) (fun x => (ZCr k x).trans (ZB8 k x.1.2.1.1 x.1.2.1.2.1 x.1.2.1.2.2.1 x.1.2.2.1.1 x.1.2.2.1.2.1 x.1.2.2.2.1 x.1.2.2.2.2.1.1 x.1.2.2.2.2.1.2.1 x.1.2.2.2.2.2.1 x.2.1 x.2.2.2.2.2.1))
noncomputable def ZgK : Array Oper := (findReg 26 Z50).getD #[]
theorem ZCf (k : Nat) (x : ZnG.D) : execD Zb.T Zb.G Zb.mvs k ZgK (Z7b.inp.st Zb.n x) (outK Zb Z7b) = Zcp k x.1.2.1.1 x.1.2.1.2.1 x.1.2.1.2.2.1 x.1.2.2.1.1 x.1.2.2.1.2.1 x.1.2.2.2.1 x.1.2.2.2.2.1.1 x.1.2.2.2.2.1.2.1 x.1.2.2.2.2.2.1 x.2.1 x.2.2.2.2.2.1 := by kernel_rfl
theorem ZAd (k : Nat) : EOK Try.prog Zb k Z7b.E (.region 26 ZgK true) := Z9Z (D := Z7b) (m := 2) T_ok (Z9u k) (fun x => (ZCf k x).trans (ZBg k x.1.2.1.1 x.1.2.1.2.1 x.1.2.1.2.2.1 x.1.2.2.1.1 x.1.2.2.1.2.1 x.1.2.2.2.1 x.1.2.2.2.2.1.1 x.1.2.2.2.2.1.2.1 x.1.2.2.2.2.2.1 x.2.1 x.2.2.2.2.2.1))
noncomputable def ZgD : Array Oper := (findReg 27 Z50).getD #[]
theorem ZBG (k : Nat) (x : Znf.D) : execD Zb.T Zb.G Zb.mvs k ZgD (Z75.inp.st Zb.n x) (outK Zb Z75) = ZcP k x.1.2.1.1 x.1.2.1.2.1 x.1.2.1.2.2.1 x.1.2.2.1.1 x.1.2.2.1.2.1 x.1.2.2.1.2.2.1 x.1.2.2.2.1.1 x.1.2.2.2.1.2.1 x.1.2.2.2.2.1 x.1.2.2.2.2.2.1.1 x.1.2.2.2.2.2.1.2.1 x.1.2.2.2.2.2.2.1 x.2.1 := by kernel_rfl
theorem ZzI (k : Nat) : EOK Try.prog Zb k Z75.E (.region 27 ZgD true) := Z9Z (D := Z75) (m := 2) T_ok (Z9u k) (fun x => (ZBG k x).trans (ZBw k x.1.2.1.1 x.1.2.1.2.1 x.1.2.1.2.2.1 x.1.2.2.1.1 x.1.2.2.1.2.1 x.1.2.2.1.2.2.1 x.1.2.2.2.1.1 x.1.2.2.2.1.2.1 x.1.2.2.2.2.1 x.1.2.2.2.2.2.1.1 x.1.2.2.2.2.2.1.2.1 x.1.2.2.2.2.2.2.1 x.2.1))
noncomputable def ZcY : Code := ((findCond 52 Z50).map (·.1)).getD .skip
noncomputable def Zdc : Code := ((findCond 52 Z50).map (·.2)).getD .skip
theorem ZCh (k : Nat) (i : Z1t.inp.D) : Z1t.lp k i = branch (Z1t.inp.st Zb.n i) (.tmp 52) (fun st => exec Zb k ZcY st (outK Zb Z1t) (fun _ _ => none) Z1t.mkB) (fun st => exec Zb k Zdc st (outK Zb Z1t) (fun _ _ => none) Z1t.mkB) := by kernel_rfl
theorem ZA4 (k : Nat) : EOK Try.prog Zb k Z1t.E (.cond (.tmp 52) ZcY Zdc) := Zsq (D := Z1t) T_ok (Z9u k) (ZCh k) (@LOK.by _ _ _ _ ZcY [] (by kernel_rfl) AllOK.nil) (@LOK.by _ _ _ _ Zdc [] (by kernel_rfl) AllOK.nil)
noncomputable def ZeY : Code := (findLoop 2 Z50).getD .skip
theorem ZEt (k : Nat) (x : Zje.D) : Z9D.lp (k + 1) x = loopK Zb Z9D 2 ZeY k x := by kernel_rfl
theorem ZEq (k : Nat) : LOK Try.prog Zb k ZeY := LOK.by [] (by kernel_rfl) AllOK.nil
theorem ZFa (x : Zje.D) : Z9D.lp 0 x = none := by kernel_rfl
theorem ZCW (k : Nat) : EOK Try.prog Zb k Z9D.E (.block 2 (.loop ZeY)) := Z7 T_ok Z9u ZFa ZEt ZEq k
noncomputable def Zf2 : Code := (findLoop 0 Z50).getD .skip
theorem ZEo (k : Nat) (x : Zj5.D) : Z9I.lp (k + 1) x = loopK Zb Z9I 0 Zf2 k x := by kernel_rfl
theorem ZEJ (k : Nat) : LOK Try.prog Zb k Zf2 := LOK.by [(Z8f.E, .region 9 Zhm true), (Z7g.E, .region 11 ZgL true), (Z1t.E, .cond (.tmp 52) ZcY Zdc), (Z9D.E, .block 2 (.loop ZeY)), (Z7b.E, .region 26 ZgK true)] (by kernel_rfl) (AllOK.cons (ZCn k) (AllOK.cons (ZzH k) (AllOK.cons (ZA4 k) (AllOK.cons (ZCW k) (AllOK.cons (ZAd k) AllOK.nil)))))
theorem ZEk (x : Zj5.D) : Z9I.lp 0 x = none := by kernel_rfl
theorem ZCT (k : Nat) : EOK Try.prog Zb k Z9I.E (.block 0 (.loop Zf2)) := Z7 T_ok Z9u ZEk ZEo ZEJ k
theorem ZIj (k : Nat) (x : Tup Z9w.ps) : Z9w.f (k + 1) x = fnK Z9w Zb Z50 k x := by kernel_rfl
theorem ZIv (x : Tup Z9w.ps) : Z9w.f 0 x = none := by kernel_rfl
theorem ZHM (k : Nat) : LOK Try.prog Zb k Z50 := LOK.by [(Z9I.E, .block 0 (.loop Zf2)), (Z75.E, .region 27 ZgD true)] (by kernel_rfl) (AllOK.cons (ZCT k) (AllOK.cons (ZzI k) AllOK.nil))
theorem ZI6 (k : Nat) : SoundAt Try.prog k 186 Z9w.E := @Z4 Try.prog Z9w Zb 186 Try.f186 Z50 (by kernel_rfl) (by kernel_rfl) (by kernel_rfl) Try.func186 (by kernel_rfl) (by kernel_rfl) (by kernel_rfl) T_ok Z9u ZHM ZIv ZIj k
noncomputable def Z90 : List PK := [PK.mk (Ty.pair (Ty.int .i64) (Ty.int .i64)) true none false none]
noncomputable def ZlV : List PK := [PK.mk (Ty.pair (Ty.slice (5 : Nat) (Ty.int .u8)) (Ty.pair (Ty.int .i64) (Ty.int .u64))) false none false (some (114 : Nat))]
noncomputable def Zka (r : (Int × Int) × Int × Int) : Tup Z90 × OutD := ((r.1, ()), some ⟨Ty.pair (Ty.slice (5 : Nat) (Ty.int .u8)) (Ty.pair (Ty.int .i64) (Ty.int .u64)), [([], r.2)]⟩)
noncomputable def Zeu : Tup Z90 × OutD → Option ((Int × Int) × Int × Int)
 | (a, some ⟨u, ys⟩) => if h : u = Ty.pair (Ty.slice (5 : Nat) (Ty.int .u8)) (Ty.pair (Ty.int .i64) (Ty.int .u64)) then (match castU h ys with
  | [([], y)] => some (a.1, y)
  | _ => none) else none
 | _ => none
theorem Zrt : ∀ b r, Zeu b = some r → Zka r = b := by
 rintro ⟨a, o⟩ r h
 cases o with
 | none => cases h
 | some s =>
  obtain ⟨u, ys⟩ := s
  simp only [Zeu] at h
  split at h
  ·rename_i hu
   subst hu
   match ys, h with
   | [], h => cases (show (none : Option _) = some r from h)
   | [([], y)], h => injection (show some _ = some r from h) with h; subst h; rfl
   | [(_ :: _, y)], h => cases (show (none : Option _) = some r from h)
   | (h1, _) :: _ :: _, h => cases h1 <;> cases (show (none : Option _) = some r from h)
  ·cases h
noncomputable def Z4j : Nat → List Int × Int × Int → Option ((Int × Int) × Int × Int)
 | 0, _ => none
 | k + 1, p0 =>
  Option.bind (ZhI k) fun z0 => Option.bind (Z1 k (Prod.fst p0, Prod.fst p0.2, Prod.snd p0.2) (↑(List.length z0) : Int)) fun z1 => if (0 : Int) ≤ Prod.fst z1 then if Prod.fst z1 < (↑(List.length z0) : Int) then some ((Prod.fst (List.getD z0 (Int.toNat z1.1) ((0 : Int), (0 : Int))), Prod.snd (List.getD z0 (Int.toNat z1.1) ((0 : Int), (0 : Int)))), Prod.fst z1.2, Prod.snd z1.2) else none else none
noncomputable def Z2c : FnDef := .of ZlV Z90 ((Int × Int) × Int × Int) (fun k x => Z4j k x.1) Zka Zeu Zrt
noncomputable def Zfk : Code := Try.f205.body.getD .skip
noncomputable def ZbT : Ctx (Tup Z90 × OutD) := { T := T, G := [(216, Z7N.E), (111, Zm.E)], mvs := [], no := 2, n := 12, res := resOf T ZlV Z90 Try.f205.results.toList, loops := [], regs := [], conds := [] }
theorem Zz8 (k : Nat) : EnvOK Try.prog k ZbT.G := (EnvOK.cons (ZGP k) (EnvOK.cons (Z1n k) (EnvOK.nil mixed)))
theorem ZzO (k : Nat) (x : Tup Z2c.ps) : Z2c.f (k + 1) x = fnK Z2c ZbT Zfk k x := by kernel_rfl
theorem ZAe (x : Tup Z2c.ps) : Z2c.f 0 x = none := by kernel_rfl
theorem Zzy (k : Nat) : LOK Try.prog ZbT k Zfk := LOK.by [] (by kernel_rfl) AllOK.nil
theorem ZlQ (k : Nat) : SoundAt Try.prog k 205 Z2c.E := @Z4 Try.prog Z2c ZbT 205 Try.f205 Zfk (by kernel_rfl) (by kernel_rfl) (by kernel_rfl) Try.func205 (by kernel_rfl) (by kernel_rfl) (by kernel_rfl) T_ok Zz8 Zzy ZAe ZzO k
end
end Go.Proofs.Ytgjmhbjdhihgaaa.Vs
