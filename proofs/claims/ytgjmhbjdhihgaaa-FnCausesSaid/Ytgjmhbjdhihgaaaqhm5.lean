/- The proof, part 6. -/
import Derived.Test.Ytgjmhbjdhihgaaaqhm4
set_option maxRecDepth 100000
set_option maxHeartbeats 2000000
set_option linter.unusedVariables false
set_option linter.unusedSimpArgs false
namespace Go.Proofs.Ytgjmhbjdhihgaaa.Vs
open Go.RowKit
noncomputable section
noncomputable def Z6U : List PK := [PK.mk (Ty.int .i64) false none false none]
noncomputable def Zhp : List PK := [PK.mk (Ty.pair (Ty.slice (5 : Nat) (Ty.int .u8)) (Ty.pair (Ty.int .i64) (Ty.int .u64))) false none false (some (114 : Nat)), PK.mk (Ty.slice (3 : Nat) (Ty.int .i64)) false none false none]
noncomputable def ZfU (r : Int × Int × Int) : Tup Z6U × OutD := ((r.1, ()), some ⟨Ty.pair (Ty.slice (5 : Nat) (Ty.int .u8)) (Ty.pair (Ty.int .i64) (Ty.int .u64)), [([], r.2)]⟩)
noncomputable def ZbK : Tup Z6U × OutD → Option (Int × Int × Int)
 | (a, some ⟨u, ys⟩) => if h : u = Ty.pair (Ty.slice (5 : Nat) (Ty.int .u8)) (Ty.pair (Ty.int .i64) (Ty.int .u64)) then (match castU h ys with
  | [([], y)] => some (a.1, y)
  | _ => none) else none
 | _ => none
theorem Zm8 : ∀ b r, ZbK b = some r → ZfU r = b := by
 rintro ⟨a, o⟩ r h
 cases o with
 | none => cases h
 | some s =>
  obtain ⟨u, ys⟩ := s
  simp only [ZbK] at h
  split at h
  ·rename_i hu
   subst hu
   match ys, h with
   | [], h => cases (show (none : Option _) = some r from h)
   | [([], y)], h => injection (show some _ = some r from h) with h; subst h; rfl
   | [(_ :: _, y)], h => cases (show (none : Option _) = some r from h)
   | (h1, _) :: _ :: _, h => cases h1 <;> cases (show (none : Option _) = some r from h)
  ·cases h
noncomputable def Zg : Nat → List Int × Int × Int → List Int → Option (Int × Int × Int)
 | 0, _, _ => none
 | k + 1, p0, p1 =>
  Option.bind (Z2 k (Prod.fst p0, Prod.fst p0.2, Prod.snd p0.2) (↑(List.length p1) : Int)) fun z0 => if (0 : Int) ≤ Prod.fst z0 then if Prod.fst z0 < (↑(List.length p1) : Int) then some (List.getD p1 (Int.toNat z0.1) (0 : Int), Prod.fst z0.2, Prod.snd z0.2) else none else none
noncomputable def Z11 : FnDef := .of Zhp Z6U (Int × Int × Int) (fun k x => Zg k x.1 x.2.1) ZfU ZbK Zm8
noncomputable def ZcH : Code := Try.f90.body.getD .skip
noncomputable def Z9m : Ctx (Tup Z6U × OutD) := { T := T, G := [(111, ZJ.E)], mvs := [], no := 2, n := 12, res := resOf T Zhp Z6U Try.f90.results.toList, loops := [], regs := [], conds := [] }
theorem Zrq (k : Nat) : EnvOK Try.prog k Z9m.G := (EnvOK.cons (Z2Y k) (EnvOK.nil mixed))
theorem Zsq (k : Nat) (x : Tup Z11.ps) : Z11.f (k + 1) x = fnK Z11 Z9m ZcH k x := by kernel_rfl
theorem ZrR (x : Tup Z11.ps) : Z11.f 0 x = none := by kernel_rfl
theorem ZsL (k : Nat) : LOK Try.prog Z9m k ZcH := LOK.by [] (by kernel_rfl) AllOK.nil
theorem Z6M (k : Nat) : SoundAt Try.prog k 90 Z11.E := @Ze Try.prog Z11 Z9m 90 Try.f90 ZcH (by kernel_rfl) (by kernel_rfl) (by kernel_rfl) Try.func90 (by kernel_rfl) (by kernel_rfl) (by kernel_rfl) T_ok Zrq ZsL ZrR Zsq k
noncomputable def Z94 : List PK := [PK.mk Ty.bool false none false none]
noncomputable def Zpw : List PK := [PK.mk (Ty.pair (Ty.int .i64) (Ty.pair (Ty.int .i64) (Ty.slice (79 : Nat) (Ty.pair (Ty.int .i64) (Ty.int .i64))))) true none false none, PK.mk (Ty.slice (77 : Nat) (Ty.pair (Ty.int .i64) (Ty.pair (Ty.int .i64) (Ty.int .i64)))) false none false none]
noncomputable def Zgm (r : Bool) : Tup Z94 × OutD := ((r, ()), none)
noncomputable def ZgL : Tup Z94 × OutD → Option (Bool)
 | (a, none) => some (a.1)
 | _ => none
theorem Zi6 : ∀ b r, ZgL b = some r → Zgm r = b := by
 rintro ⟨a, o⟩ r h
 cases o with
 | none => injection h with h; subst h; rfl
 | some _ => cases h
noncomputable def Z6Y : Nat → Int → Int → List (Int × Int) → List (Int × Int × Int) → Int → List (Int × Int × Int) → Int → Int → Option (LR (List (Int × Int × Int)) Bool)
 | 0, _, _, _, _, _, _, _, _ => none
 | k + 1, b1_0, b1_1, b1_2, v1, v5, v8, v9, v10 =>
  if decide (v10 < v9) = true then if (0 : Int) ≤ v10 then if v10 < (↑(List.length v8) : Int) then Option.bind (Z21 k (Prod.fst (Prod.snd (List.getD v8 (Int.toNat v10) ((0 : Int), (0 : Int), (0 : Int))))) (0 : Int) (wrap64 (b1_0 - (1 : Int)))) fun z0 => if (!z0) = true then some (LR.ret false) else Option.bind (Z21 k (Prod.snd (Prod.snd (List.getD v8 (Int.toNat v10) ((0 : Int), (0 : Int), (0 : Int))))) (0 : Int) (wrap64 (b1_1 - (1 : Int)))) fun z1 => if (!z1) = true then some (LR.ret false) else Option.bind (Z87 k (b1_0, b1_1, b1_2) (Prod.fst (Prod.snd (List.getD v8 (Int.toNat v10) ((0 : Int), (0 : Int), (0 : Int))))) (Prod.snd (Prod.snd (List.getD v8 (Int.toNat v10) ((0 : Int), (0 : Int), (0 : Int)))))) fun z2 => Option.bind (Zbq k (Prod.fst z2, Prod.snd z2) (Prod.fst (List.getD v8 (Int.toNat v10) ((0 : Int), (0 : Int), (0 : Int))))) fun z3 => if (!z3) = true then some (LR.ret false) else if decide (wrap64 (wrap64 (Prod.fst (Prod.snd (List.getD v8 (Int.toNat v10) ((0 : Int), (0 : Int), (0 : Int)))) * b1_1) + Prod.snd (Prod.snd (List.getD v8 (Int.toNat v10) ((0 : Int), (0 : Int), (0 : Int))))) ≤ v5) = true then some (LR.ret false) else Z6Y k b1_0 b1_1 b1_2 v1 (wrap64 (wrap64 (Prod.fst (Prod.snd (List.getD v8 (Int.toNat v10) ((0 : Int), (0 : Int), (0 : Int)))) * b1_1) + Prod.snd (Prod.snd (List.getD v8 (Int.toNat v10) ((0 : Int), (0 : Int), (0 : Int)))))) v8 v9 (wrap64 (v10 + (1 : Int))) else none else none else some (LR.go v1)
noncomputable def Zec : Spec := Spec.mk [OSh.ro, OSh.box (53 : Nat) [Sh.int .i64, Sh.int .i64, Sh.snap (0 : Nat) (Ty.pair (Ty.int .i64) (Ty.int .i64))]] [((1 : Nat), TSh.at (Sh.snap (0 : Nat) (Ty.pair (Ty.int .i64) (Ty.pair (Ty.int .i64) (Ty.int .i64))))), ((2 : Nat), TSh.at (Sh.ptr (1 : Nat) (0 : Nat))), ((5 : Nat), TSh.at (Sh.int .i64)), ((8 : Nat), TSh.at (Sh.snap (0 : Nat) (Ty.pair (Ty.int .i64) (Ty.pair (Ty.int .i64) (Ty.int .i64))))), ((9 : Nat), TSh.at (Sh.int .i64)), ((10 : Nat), TSh.at (Sh.int .i64))]
noncomputable def ZvM : Spec := Spec.mk [OSh.ro] [((1 : Nat), TSh.at (Sh.snap (0 : Nat) (Ty.pair (Ty.int .i64) (Ty.pair (Ty.int .i64) (Ty.int .i64)))))]
noncomputable def Z6j : LoopDef (Tup Z94 × OutD) := .rets Zec ZvM (List (Int × Int × Int)) (Bool) (fun k x => Z6Y k x.1.2.1.1 x.1.2.1.2.1 x.1.2.1.2.2.1 x.2.1 x.2.2.2.1 x.2.2.2.2.1 x.2.2.2.2.2.1 x.2.2.2.2.2.2.1) (fun z => (((), ()), (z, ()))) (fun y => (y.2.1)) (fun _ => rfl) Zgm ZgL Zi6
noncomputable def Zbp : Nat → Int × Int × List (Int × Int) → List (Int × Int × Int) → Option Bool
 | 0, _, _ => none
 | k + 1, p0, p1 =>
  Option.bind (Z6Y k p0.1 p0.2.1 p0.2.2 p1 (-1 : Int) p1 (↑(List.length p1) : Int) (0 : Int)) fun z4 => LR.on z4 (fun y4 => some (decide ((↑(List.length y4) : Int) ≤ (4 : Int)))) fun r4 => some r4
noncomputable def Z4z : FnDef := .of Zpw Z94 (Bool) (fun k x => Zbp k x.1 x.2.1) Zgm ZgL Zi6
noncomputable def ZdQ : Code := Try.f122.body.getD .skip
noncomputable def Z7w : Ctx (Tup Z94 × OutD) := { T := T, G := [(96, Z2s.E), (183, Z55.E), (182, Z4x.E)], mvs := [], no := 0, n := 66, res := resOf T Zpw Z94 Try.f122.results.toList, loops := [(0, Z6j.E)], regs := [], conds := [] }
theorem ZpR (k : Nat) : EnvOK Try.prog k Z7w.G := (EnvOK.cons (Z9T k) (EnvOK.cons (Zm5 k) (EnvOK.cons (Zpk k) (EnvOK.nil mixed))))
noncomputable def Zbl : Code := (findLoop 0 ZdQ).getD .skip
theorem Zwn (k : Nat) (x : Zec.D) : Z6j.lp (k + 1) x = loopK Z7w Z6j 0 Zbl k x := by kernel_rfl
theorem Zx5 (k : Nat) : LOK Try.prog Z7w k Zbl := LOK.by [] (by kernel_rfl) AllOK.nil
theorem ZwI (x : Zec.D) : Z6j.lp 0 x = none := by kernel_rfl
theorem ZuT (k : Nat) : EOK Try.prog Z7w k Z6j.E (.block 0 (.loop Zbl)) := Zp T_ok ZpR ZwI Zwn Zx5 k
theorem ZA3 (k : Nat) (x : Tup Z4z.ps) : Z4z.f (k + 1) x = fnK Z4z Z7w ZdQ k x := by kernel_rfl
theorem ZA8 (x : Tup Z4z.ps) : Z4z.f 0 x = none := by kernel_rfl
theorem ZAf (k : Nat) : LOK Try.prog Z7w k ZdQ := LOK.by [(Z6j.E, .block 0 (.loop Zbl))] (by kernel_rfl) (AllOK.cons (ZuT k) AllOK.nil)
theorem Zq1 (k : Nat) : SoundAt Try.prog k 122 Z4z.E := @Ze Try.prog Z4z Z7w 122 Try.f122 ZdQ (by kernel_rfl) (by kernel_rfl) (by kernel_rfl) Try.func122 (by kernel_rfl) (by kernel_rfl) (by kernel_rfl) T_ok ZpR ZAf ZA8 ZA3 k
noncomputable def Z5z : List PK := [PK.mk (Ty.pair (Ty.int .i64) (Ty.pair (Ty.int .i64) (Ty.int .i64))) true none false none]
noncomputable def Zie : List PK := [PK.mk (Ty.pair (Ty.int .i64) (Ty.pair (Ty.int .i64) (Ty.slice (79 : Nat) (Ty.pair (Ty.int .i64) (Ty.int .i64))))) true (some ((2 : Nat), (79 : Nat), Ty.pair (Ty.int .i64) (Ty.int .i64))) false none, PK.mk (Ty.slice (3 : Nat) (Ty.int .i64)) false none false none, PK.mk (Ty.slice (3 : Nat) (Ty.int .i64)) false none false none, PK.mk (Ty.int .i64) false none false none]
noncomputable def Zcm (r : (Int × Int × Int) × List (Int × Int)) : Tup Z5z × OutD := ((r.1, ()), some ⟨Ty.pair (Ty.int .i64) (Ty.int .i64), r.2⟩)
noncomputable def Z9D : Tup Z5z × OutD → Option ((Int × Int × Int) × List (Int × Int))
 | (a, some ⟨u, ys⟩) => if h : u = Ty.pair (Ty.int .i64) (Ty.int .i64) then some (a.1, castU h ys) else none
 | _ => none
theorem Zez : ∀ b r, Z9D b = some r → Zcm r = b := by
 rintro ⟨a, o⟩ r h
 cases o with
 | none => cases h
 | some s =>
  obtain ⟨u, ys⟩ := s
  simp only [Z9D] at h
  split at h
  ·rename_i hu; subst hu; injection h with h; subst h; rfl
  ·cases h
noncomputable def ZS : Nat → List (Int × Int) → Int → Int → Int → Int → Int → List Int → List Int → Int → Int → Int → Option (LR (List (Int × Int) × Int × Int × Int × Int × Int × Int) ((Int × Int × Int) × List (Int × Int)))
 | 0, _, _, _, _, _, _, _, _, _, _, _ => none
 | k + 1, o1, b2_0, b2_1, b3_0, b3_1, b3_2, v1, v2, v3, v9, v10 =>
  if decide (v10 < b2_0) = true then if (0 : Int) ≤ wrap64 (wrap64 (v10 * b2_1) + v3) then if wrap64 (wrap64 (v10 * b2_1) + v3) < (↑(List.length v2) : Int) then if decide (List.getD v2 (Int.toNat (wrap64 (wrap64 (v10 * b2_1) + v3))) (0 : Int) = (2 : Int)) = true then some (LR.ret (((3 : Int), v10, v3), o1)) else if (0 : Int) ≤ wrap64 (wrap64 (v10 * b2_1) + v3) then if wrap64 (wrap64 (v10 * b2_1) + v3) < (↑(List.length o1) : Int) then Option.bind (Zbv k (Prod.fst (List.getD o1 (Int.toNat (wrap64 (wrap64 (v10 * b2_1) + v3))) ((0 : Int), (0 : Int))), Prod.snd (List.getD o1 (Int.toNat (wrap64 (wrap64 (v10 * b2_1) + v3))) ((0 : Int), (0 : Int)))) v9) fun z0 => if (!Prod.snd z0) = true then some (LR.ret (((2 : Int), v10, v3), o1)) else if (0 : Int) ≤ wrap64 (wrap64 (v10 * b2_1) + v3) then if wrap64 (wrap64 (v10 * b2_1) + v3) < (↑(List.length v2) : Int) then if decide (List.getD v2 (Int.toNat (wrap64 (wrap64 (v10 * b2_1) + v3))) (0 : Int) = (3 : Int)) = true then if (0 : Int) ≤ wrap64 (wrap64 (v10 * b2_1) + v3) then if wrap64 (wrap64 (v10 * b2_1) + v3) < (↑(List.length o1) : Int) then Option.bind (Z2I k (Prod.fst (List.getD o1 (Int.toNat (wrap64 (wrap64 (v10 * b2_1) + v3))) ((0 : Int), (0 : Int))), Prod.snd (List.getD o1 (Int.toNat (wrap64 (wrap64 (v10 * b2_1) + v3))) ((0 : Int), (0 : Int))))) fun z1 => if z1 = true then Option.bind (Z5o k (b2_0, b2_1, o1) v1 v2 (wrap64 (wrap64 (v10 * b2_1) + v3))) fun z2 => if decide (wrap64 (v3 + wrap64 ((0 : Int) - Prod.fst z0)) < (0 : Int)) = true then some (LR.ret (((3 : Int), v10, wrap64 (v3 + wrap64 ((0 : Int) - Prod.fst z0))), z2)) else if decide (wrap64 (v3 + wrap64 ((0 : Int) - Prod.fst z0)) ≥ b2_1) = true then some (LR.ret (((3 : Int), v10, wrap64 (v3 + wrap64 ((0 : Int) - Prod.fst z0))), z2)) else ZS k z2 b2_0 b2_1 b3_0 b3_1 b3_2 v1 v2 (wrap64 (v3 + wrap64 ((0 : Int) - Prod.fst z0))) (wrap64 ((0 : Int) - wrap64 ((0 : Int) - Prod.fst z0))) (wrap64 (v10 + (1 : Int))) else if decide (wrap64 (v3 + wrap64 ((0 : Int) - Prod.fst z0)) < (0 : Int)) = true then some (LR.ret (((3 : Int), v10, wrap64 (v3 + wrap64 ((0 : Int) - Prod.fst z0))), o1)) else if decide (wrap64 (v3 + wrap64 ((0 : Int) - Prod.fst z0)) ≥ b2_1) = true then some (LR.ret (((3 : Int), v10, wrap64 (v3 + wrap64 ((0 : Int) - Prod.fst z0))), o1)) else ZS k o1 b2_0 b2_1 b3_0 b3_1 b3_2 v1 v2 (wrap64 (v3 + wrap64 ((0 : Int) - Prod.fst z0))) (wrap64 ((0 : Int) - wrap64 ((0 : Int) - Prod.fst z0))) (wrap64 (v10 + (1 : Int))) else none else none else if (0 : Int) ≤ wrap64 (wrap64 (v10 * b2_1) + v3) then if wrap64 (wrap64 (v10 * b2_1) + v3) < (↑(List.length o1) : Int) then Option.bind (Z2I k (Prod.fst (List.getD o1 (Int.toNat (wrap64 (wrap64 (v10 * b2_1) + v3))) ((0 : Int), (0 : Int))), Prod.snd (List.getD o1 (Int.toNat (wrap64 (wrap64 (v10 * b2_1) + v3))) ((0 : Int), (0 : Int))))) fun z3 => if z3 = true then Option.bind (Z5o k (b2_0, b2_1, o1) v1 v2 (wrap64 (wrap64 (v10 * b2_1) + v3))) fun z4 => if decide (wrap64 (v3 + Prod.fst z0) < (0 : Int)) = true then some (LR.ret (((3 : Int), v10, wrap64 (v3 + Prod.fst z0)), z4)) else if decide (wrap64 (v3 + Prod.fst z0) ≥ b2_1) = true then some (LR.ret (((3 : Int), v10, wrap64 (v3 + Prod.fst z0)), z4)) else ZS k z4 b2_0 b2_1 b3_0 b3_1 b3_2 v1 v2 (wrap64 (v3 + Prod.fst z0)) (wrap64 ((0 : Int) - Prod.fst z0)) (wrap64 (v10 + (1 : Int))) else if decide (wrap64 (v3 + Prod.fst z0) < (0 : Int)) = true then some (LR.ret (((3 : Int), v10, wrap64 (v3 + Prod.fst z0)), o1)) else if decide (wrap64 (v3 + Prod.fst z0) ≥ b2_1) = true then some (LR.ret (((3 : Int), v10, wrap64 (v3 + Prod.fst z0)), o1)) else ZS k o1 b2_0 b2_1 b3_0 b3_1 b3_2 v1 v2 (wrap64 (v3 + Prod.fst z0)) (wrap64 ((0 : Int) - Prod.fst z0)) (wrap64 (v10 + (1 : Int))) else none else none else none else none else none else none else none else none else some (LR.go (o1, b2_0, b2_1, b3_0, b3_1, b3_2, v3))
noncomputable def Zb1 : Spec := Spec.mk [OSh.ro, OSh.row false (79 : Nat) (Ty.pair (Ty.int .i64) (Ty.int .i64)), OSh.box (53 : Nat) [Sh.int .i64, Sh.int .i64, Sh.sl (1 : Nat)], OSh.box (63 : Nat) [Sh.int .i64, Sh.int .i64, Sh.int .i64]] [((1 : Nat), TSh.at (Sh.snap (0 : Nat) (Ty.int .i64))), ((2 : Nat), TSh.at (Sh.snap (0 : Nat) (Ty.int .i64))), ((3 : Nat), TSh.at (Sh.int .i64)), ((4 : Nat), TSh.at (Sh.ptr (2 : Nat) (0 : Nat))), ((8 : Nat), TSh.at (Sh.ptr (3 : Nat) (0 : Nat))), ((9 : Nat), TSh.at (Sh.int .i64)), ((10 : Nat), TSh.at (Sh.int .i64))]
noncomputable def Zp7 : Spec := Spec.mk [OSh.ro, OSh.row false (79 : Nat) (Ty.pair (Ty.int .i64) (Ty.int .i64)), OSh.box (53 : Nat) [Sh.int .i64, Sh.int .i64, Sh.sl (1 : Nat)], OSh.box (63 : Nat) [Sh.int .i64, Sh.int .i64, Sh.int .i64]] [((3 : Nat), TSh.at (Sh.int .i64)), ((4 : Nat), TSh.at (Sh.ptr (2 : Nat) (0 : Nat))), ((8 : Nat), TSh.at (Sh.ptr (3 : Nat) (0 : Nat)))]
noncomputable def Z41 : LoopDef (Tup Z5z × OutD) := .rets Zb1 Zp7 (List (Int × Int) × Int × Int × Int × Int × Int × Int) ((Int × Int × Int) × List (Int × Int)) (fun k x => ZS k x.1.2.1 x.1.2.2.1.1 x.1.2.2.1.2.1 x.1.2.2.2.1.1 x.1.2.2.2.1.2.1 x.1.2.2.2.1.2.2.1 x.2.1 x.2.2.1 x.2.2.2.1 x.2.2.2.2.2.2.1 x.2.2.2.2.2.2.2.1) (fun z => (((), z.1, (z.2.1, z.2.2.1, (), ()), (z.2.2.2.1, z.2.2.2.2.1, z.2.2.2.2.2.1, ()), ()), (z.2.2.2.2.2.2, (), (), ()))) (fun y => (y.1.2.1, y.1.2.2.1.1, y.1.2.2.1.2.1, y.1.2.2.2.1.1, y.1.2.2.2.1.2.1, y.1.2.2.2.1.2.2.1, y.2.1)) (fun _ => rfl) Zcm Z9D Zez
noncomputable def Zac : Nat → Int × Int × List (Int × Int) → List Int → List Int → Int → Option ((Int × Int × Int) × List (Int × Int))
 | 0, _, _, _, _ => none
 | k + 1, p0, p1, p2, p3 =>
  Option.bind (ZS k p0.2.2 p0.1 p0.2.1 (0 : Int) (0 : Int) (0 : Int) p1 p2 p3 (0 : Int) (0 : Int)) fun z5 => LR.on z5 (fun y5 => some (((1 : Int), Prod.fst y5.2, Prod.snd y5.2.2.2.2.2), Prod.fst y5)) fun r5 => some r5
noncomputable def Z2Z : FnDef := .of Zie Z5z ((Int × Int × Int) × List (Int × Int)) (fun k x => Zac k x.1 x.2.1 x.2.2.1 x.2.2.2.1) Zcm Z9D Zez
noncomputable def Za7 : Code := Try.f126.body.getD .skip
noncomputable def Z43 : Ctx (Tup Z5z × OutD) := { T := T, G := [(187, Z4v.E), (188, Z2G.E), (189, Z31.E)], mvs := [], no := 1, n := 87, res := resOf T Zie Z5z Try.f126.results.toList, loops := [(0, Z41.E)], regs := [], conds := [] }
theorem Zif (k : Nat) : EnvOK Try.prog k Z43.G := (EnvOK.cons (Zq5 k) (EnvOK.cons (Zjc k) (EnvOK.cons (Zu7 k) (EnvOK.nil mixed))))
noncomputable def Z7P : Code := (findLoop 0 Za7).getD .skip
theorem Zos (k : Nat) (x : Zb1.D) : Z41.lp (k + 1) x = loopK Z43 Z41 0 Z7P k x := by kernel_rfl
theorem Zo5 (k : Nat) : LOK Try.prog Z43 k Z7P := LOK.by [] (by kernel_rfl) AllOK.nil
theorem ZoS (x : Zb1.D) : Z41.lp 0 x = none := by kernel_rfl
theorem ZnM (k : Nat) : EOK Try.prog Z43 k Z41.E (.block 0 (.loop Z7P)) := Zp T_ok Zif ZoS Zos Zo5 k
theorem Zuc (k : Nat) (x : Tup Z2Z.ps) : Z2Z.f (k + 1) x = fnK Z2Z Z43 Za7 k x := by kernel_rfl
theorem ZuJ (x : Tup Z2Z.ps) : Z2Z.f 0 x = none := by kernel_rfl
theorem Zv5 (k : Nat) : LOK Try.prog Z43 k Za7 := LOK.by [(Z41.E, .block 0 (.loop Z7P))] (by kernel_rfl) (AllOK.cons (ZnM k) AllOK.nil)
theorem ZtY (k : Nat) : SoundAt Try.prog k 126 Z2Z.E := @Ze Try.prog Z2Z Z43 126 Try.f126 Za7 (by kernel_rfl) (by kernel_rfl) (by kernel_rfl) Try.func126 (by kernel_rfl) (by kernel_rfl) (by kernel_rfl) T_ok Zif Zv5 ZuJ Zuc k
noncomputable def ZaD : List PK := [PK.mk Ty.bool false none false none]
noncomputable def Zmz : List PK := [PK.mk (Ty.pair (Ty.int .i64) (Ty.pair (Ty.int .i64) (Ty.slice (79 : Nat) (Ty.pair (Ty.int .i64) (Ty.int .i64))))) true none false none]
noncomputable def Zlj (r : Bool) : Tup ZaD × OutD := ((r, ()), none)
noncomputable def Zl1 : Tup ZaD × OutD → Option (Bool)
 | (a, none) => some (a.1)
 | _ => none
theorem ZrI : ∀ b r, Zl1 b = some r → Zlj r = b := by
 rintro ⟨a, o⟩ r h
 cases o with
 | none => injection h with h; subst h; rfl
 | some _ => cases h
noncomputable def Z8h : Nat → Int × Int × List (Int × Int) → Option Bool
 | 0, _ => none
 | k + 1, p0 =>
  if decide (Prod.fst p0 ≥ (1 : Int)) = true then if decide (Prod.fst p0 ≤ (10 : Int)) = true then if decide (Prod.fst p0.2 ≥ (1 : Int)) = true then if decide (Prod.fst p0.2 ≤ (9 : Int)) = true then if decide ((↑(List.length p0.2.2) : Int) = wrap64 (Prod.fst p0 * Prod.fst p0.2)) = true then Option.bind (Za8 k p0.2.2) fun z0 => some z0 else some false else some false else some false else some false else some false
noncomputable def Z2X : FnDef := .of Zmz ZaD (Bool) (fun k x => Z8h k x.1) Zlj Zl1 ZrI
noncomputable def ZgJ : Code := Try.f132.body.getD .skip
noncomputable def ZcU : Ctx (Tup ZaD × OutD) := { T := T, G := [(192, Z36.E)], mvs := [], no := 0, n := 37, res := resOf T Zmz ZaD Try.f132.results.toList, loops := [], regs := [], conds := [] }
theorem ZyX (k : Nat) : EnvOK Try.prog k ZcU.G := (EnvOK.cons (Zu2 k) (EnvOK.nil mixed))
theorem ZyQ (k : Nat) (x : Tup Z2X.ps) : Z2X.f (k + 1) x = fnK Z2X ZcU ZgJ k x := by kernel_rfl
theorem Zz1 (x : Tup Z2X.ps) : Z2X.f 0 x = none := by kernel_rfl
theorem Zz9 (k : Nat) : LOK Try.prog ZcU k ZgJ := LOK.by [] (by kernel_rfl) AllOK.nil
theorem ZgC (k : Nat) : SoundAt Try.prog k 132 Z2X.E := @Ze Try.prog Z2X ZcU 132 Try.f132 ZgJ (by kernel_rfl) (by kernel_rfl) (by kernel_rfl) Try.func132 (by kernel_rfl) (by kernel_rfl) (by kernel_rfl) T_ok ZyX Zz9 Zz1 ZyQ k
noncomputable def Z92 : List PK := [PK.mk Ty.bool false none false none]
noncomputable def Zq6 : List PK := [PK.mk (Ty.pair (Ty.int .i64) (Ty.pair (Ty.int .i64) (Ty.slice (79 : Nat) (Ty.pair (Ty.int .i64) (Ty.int .i64))))) true none false none]
noncomputable def ZgI (r : Bool) : Tup Z92 × OutD := ((r, ()), none)
noncomputable def ZgK : Tup Z92 × OutD → Option (Bool)
 | (a, none) => some (a.1)
 | _ => none
theorem Zip : ∀ b r, ZgK b = some r → ZgI r = b := by
 rintro ⟨a, o⟩ r h
 cases o with
 | none => injection h with h; subst h; rfl
 | some _ => cases h
noncomputable def Z7m : Nat → List (Int × Int) → Int → Int → Option (LR Unit Bool)
 | 0, _, _, _ => none
 | k + 1, v27, v28, v29 =>
  if decide (v29 < v28) = true then if (0 : Int) ≤ v29 then if v29 < (↑(List.length v27) : Int) then Option.bind (Ze0 k (Prod.fst (List.getD v27 (Int.toNat v29) ((0 : Int), (0 : Int))), Prod.snd (List.getD v27 (Int.toNat v29) ((0 : Int), (0 : Int))))) fun z2 => if (!z2) = true then some (LR.ret false) else Z7m k v27 v28 (wrap64 (v29 + (1 : Int))) else none else none else some (LR.go ())
noncomputable def Zeo : Spec := Spec.mk [OSh.ro] [((27 : Nat), TSh.at (Sh.snap (0 : Nat) (Ty.pair (Ty.int .i64) (Ty.int .i64)))), ((28 : Nat), TSh.at (Sh.int .i64)), ((29 : Nat), TSh.at (Sh.int .i64))]
noncomputable def Zx8 : Spec := Spec.mk [OSh.ro] []
noncomputable def Z64 : LoopDef (Tup Z92 × OutD) := .rets Zeo Zx8 (Unit) (Bool) (fun k x => Z7m k x.2.1 x.2.2.1 x.2.2.2.1) (fun z => (((), ()), (()))) (fun y => ()) (fun _ => rfl) ZgI ZgK Zip
noncomputable def Z7o : Nat → Int × Int × List (Int × Int) → Option Bool
 | 0, _ => none
 | k + 1, p0 =>
  Option.bind (Z21 k p0.1 (1 : Int) (10 : Int)) fun z0 => if (!z0) = true then some false else Option.bind (Z21 k p0.2.1 (1 : Int) (9 : Int)) fun z1 => if (!z1) = true then some false else if decide ((↑(List.length p0.2.2) : Int) ≠ wrap64 (Prod.fst p0 * Prod.fst p0.2)) = true then some false else Option.bind (Z7m k p0.2.2 (↑(List.length p0.2.2) : Int) (0 : Int)) fun z3 => LR.on z3 (fun y3 => some true) fun r3 => some r3
noncomputable def Z2M : FnDef := .of Zq6 Z92 (Bool) (fun k x => Z7o k x.1) ZgI ZgK Zip
noncomputable def Ze1 : Code := Try.f133.body.getD .skip
noncomputable def Z7p : Ctx (Tup Z92 × OutD) := { T := T, G := [(96, Z2s.E), (193, Z5H.E)], mvs := [], no := 0, n := 37, res := resOf T Zq6 Z92 Try.f133.results.toList, loops := [(0, Z64.E)], regs := [], conds := [] }
theorem Zpq (k : Nat) : EnvOK Try.prog k Z7p.G := (EnvOK.cons (Z9T k) (EnvOK.cons (ZA7 k) (EnvOK.nil mixed)))
noncomputable def ZaT : Code := (findLoop 0 Ze1).getD .skip
theorem ZvC (k : Nat) (x : Zeo.D) : Z64.lp (k + 1) x = loopK Z7p Z64 0 ZaT k x := by kernel_rfl
theorem ZvZ (k : Nat) : LOK Try.prog Z7p k ZaT := LOK.by [] (by kernel_rfl) AllOK.nil
theorem ZwS (x : Zeo.D) : Z64.lp 0 x = none := by kernel_rfl
theorem ZtL (k : Nat) : EOK Try.prog Z7p k Z64.E (.block 0 (.loop ZaT)) := Zp T_ok Zpq ZwS ZvC ZvZ k
theorem ZAi (k : Nat) (x : Tup Z2M.ps) : Z2M.f (k + 1) x = fnK Z2M Z7p Ze1 k x := by kernel_rfl
theorem ZAc (x : Tup Z2M.ps) : Z2M.f 0 x = none := by kernel_rfl
theorem ZzL (k : Nat) : LOK Try.prog Z7p k Ze1 := LOK.by [(Z64.E, .block 0 (.loop ZaT))] (by kernel_rfl) (AllOK.cons (ZtL k) AllOK.nil)
theorem ZdT (k : Nat) : SoundAt Try.prog k 133 Z2M.E := @Ze Try.prog Z2M Z7p 133 Try.f133 Ze1 (by kernel_rfl) (by kernel_rfl) (by kernel_rfl) Try.func133 (by kernel_rfl) (by kernel_rfl) (by kernel_rfl) T_ok Zpq ZzL ZAc ZAi k
noncomputable def Z44 : List PK := [PK.mk (Ty.slice (77 : Nat) (Ty.pair (Ty.int .i64) (Ty.pair (Ty.int .i64) (Ty.int .i64)))) false none false none]
noncomputable def Zi8 : List PK := [PK.mk (Ty.pair (Ty.int .i64) (Ty.pair (Ty.int .i64) (Ty.slice (79 : Nat) (Ty.pair (Ty.int .i64) (Ty.int .i64))))) true none false none]
noncomputable def Zh9 (r : List (Int × Int × Int)) : Tup Z44 × OutD := ((r, ()), none)
noncomputable def Zh8 : Tup Z44 × OutD → Option (List (Int × Int × Int))
 | (a, none) => some (a.1)
 | _ => none
theorem Zmt : ∀ b r, Zh8 b = some r → Zh9 r = b := by
 rintro ⟨a, o⟩ r h
 cases o with
 | none => injection h with h; subst h; rfl
 | some _ => cases h
noncomputable def Z1A : Nat → Int → Int → List (Int × Int) → List (Int × Int × Int) → Int → Int → Int → Int → List (Int × Int) → Int → Int → Option (Int × Int × List (Int × Int) × List (Int × Int × Int) × List (Int × Int) × Int × Int)
 | 0, _, _, _, _, _, _, _, _, _, _, _ => none
 | k + 1, b1_0, b1_1, b1_2, o2, b3_0, b3_1, v4, v6, v8, v9, v10 =>
  if decide (v6 ≤ (3 : Int)) = true then Option.bind (Zbq k (b3_0, b3_1) v6) fun z0 => if z0 = true then if b1_1 = (0 : Int) then none else if b1_1 = (0 : Int) then none else if List.length o2 + List.length [(v6, wrap64 (Int.tdiv v4 b1_1), Int.tmod v4 b1_1)] ≤ (140737488355328 / 24 : Nat) then Z1A k b1_0 b1_1 b1_2 (o2 ++ [(v6, wrap64 (Int.tdiv v4 b1_1), Int.tmod v4 b1_1)]) b3_0 b3_1 v4 (wrap64 (v6 + (1 : Int))) v8 v9 v10 else none else Z1A k b1_0 b1_1 b1_2 o2 b3_0 b3_1 v4 (wrap64 (v6 + (1 : Int))) v8 v9 v10 else some (b1_0, b1_1, b1_2, o2, v8, v9, v10)
noncomputable def ZaS : Spec := Spec.mk [OSh.ro, OSh.box (53 : Nat) [Sh.int .i64, Sh.int .i64, Sh.snap (0 : Nat) (Ty.pair (Ty.int .i64) (Ty.int .i64))], OSh.row true (77 : Nat) (Ty.pair (Ty.int .i64) (Ty.pair (Ty.int .i64) (Ty.int .i64))), OSh.box (79 : Nat) [Sh.int .i64, Sh.int .i64]] [((1 : Nat), TSh.at (Sh.ptr (1 : Nat) (0 : Nat))), ((3 : Nat), TSh.at (Sh.sl (2 : Nat))), ((4 : Nat), TSh.at (Sh.int .i64)), ((5 : Nat), TSh.at (Sh.ptr (3 : Nat) (0 : Nat))), ((6 : Nat), TSh.at (Sh.int .i64)), ((8 : Nat), TSh.at (Sh.snap (0 : Nat) (Ty.pair (Ty.int .i64) (Ty.int .i64)))), ((9 : Nat), TSh.at (Sh.int .i64)), ((10 : Nat), TSh.at (Sh.int .i64))]
noncomputable def ZoW : Spec := Spec.mk [OSh.ro, OSh.box (53 : Nat) [Sh.int .i64, Sh.int .i64, Sh.snap (0 : Nat) (Ty.pair (Ty.int .i64) (Ty.int .i64))], OSh.row true (77 : Nat) (Ty.pair (Ty.int .i64) (Ty.pair (Ty.int .i64) (Ty.int .i64)))] [((1 : Nat), TSh.at (Sh.ptr (1 : Nat) (0 : Nat))), ((3 : Nat), TSh.at (Sh.sl (2 : Nat))), ((8 : Nat), TSh.at (Sh.snap (0 : Nat) (Ty.pair (Ty.int .i64) (Ty.int .i64)))), ((9 : Nat), TSh.at (Sh.int .i64)), ((10 : Nat), TSh.at (Sh.int .i64))]
noncomputable def Z3M : LoopDef (Tup Z44 × OutD) := .plain ZaS ZoW (Int × Int × List (Int × Int) × List (Int × Int × Int) × List (Int × Int) × Int × Int) (fun k x => Z1A k x.1.2.1.1 x.1.2.1.2.1 x.1.2.1.2.2.1 x.1.2.2.1 x.1.2.2.2.1.1 x.1.2.2.2.1.2.1 x.2.2.2.1 x.2.2.2.2.2.1 x.2.2.2.2.2.2.1 x.2.2.2.2.2.2.2.1 x.2.2.2.2.2.2.2.2.1) (fun z => (((), (z.1, z.2.1, z.2.2.1, ()), z.2.2.2.1, ()), ((), (), z.2.2.2.2.1, z.2.2.2.2.2.1, z.2.2.2.2.2.2, ()))) (fun y => (y.1.2.1.1, y.1.2.1.2.1, y.1.2.1.2.2.1, y.1.2.2.1, y.2.2.2.1, y.2.2.2.2.1, y.2.2.2.2.2.1)) (fun _ => rfl)
noncomputable def Z3e : Nat → Int → Int → List (Int × Int) → List (Int × Int × Int) → List (Int × Int) → Int → Int → Option (List (Int × Int × Int))
 | 0, _, _, _, _, _, _, _ => none
 | k + 1, b1_0, b1_1, b1_2, o2, v8, v9, v10 =>
  if decide (v10 < v9) = true then if (0 : Int) ≤ v10 then if v10 < (↑(List.length v8) : Int) then Option.bind (Z1A k b1_0 b1_1 b1_2 o2 (Prod.fst (List.getD v8 (Int.toNat v10) ((0 : Int), (0 : Int)))) (Prod.snd (List.getD v8 (Int.toNat v10) ((0 : Int), (0 : Int)))) v10 (1 : Int) v8 v9 v10) fun z1 => Z3e k z1.1 z1.2.1 z1.2.2.1 z1.2.2.2.1 z1.2.2.2.2.1 z1.2.2.2.2.2.1 (wrap64 (Prod.snd z1.2.2.2.2.2 + (1 : Int))) else none else none else some o2
noncomputable def Zbh : Spec := Spec.mk [OSh.ro, OSh.box (53 : Nat) [Sh.int .i64, Sh.int .i64, Sh.snap (0 : Nat) (Ty.pair (Ty.int .i64) (Ty.int .i64))], OSh.row true (77 : Nat) (Ty.pair (Ty.int .i64) (Ty.pair (Ty.int .i64) (Ty.int .i64)))] [((1 : Nat), TSh.at (Sh.ptr (1 : Nat) (0 : Nat))), ((3 : Nat), TSh.at (Sh.sl (2 : Nat))), ((8 : Nat), TSh.at (Sh.snap (0 : Nat) (Ty.pair (Ty.int .i64) (Ty.int .i64)))), ((9 : Nat), TSh.at (Sh.int .i64)), ((10 : Nat), TSh.at (Sh.int .i64))]
noncomputable def ZoE : Spec := Spec.mk [OSh.ro, OSh.row true (77 : Nat) (Ty.pair (Ty.int .i64) (Ty.pair (Ty.int .i64) (Ty.int .i64)))] [((3 : Nat), TSh.at (Sh.sl (1 : Nat)))]
noncomputable def Z3S : LoopDef (Tup Z44 × OutD) := .plain Zbh ZoE (List (Int × Int × Int)) (fun k x => Z3e k x.1.2.1.1 x.1.2.1.2.1 x.1.2.1.2.2.1 x.1.2.2.1 x.2.2.2.1 x.2.2.2.2.1 x.2.2.2.2.2.1) (fun z => (((), z, ()), ((), ()))) (fun y => (y.1.2.1)) (fun _ => rfl)
noncomputable def Z30 : Nat → Int × Int × List (Int × Int) → Option (List (Int × Int × Int))
 | 0, _ => none
 | k + 1, p0 =>
  Option.bind (Z3e k p0.1 p0.2.1 p0.2.2 [] p0.2.2 (↑(List.length p0.2.2) : Int) (0 : Int)) fun z2 => some z2
noncomputable def Z1a : FnDef := .of Zi8 Z44 (List (Int × Int × Int)) (fun k x => Z30 k x.1) Zh9 Zh8 Zmt
noncomputable def Z7z : Code := Try.f148.body.getD .skip
noncomputable def Z1M : Ctx (Tup Z44 × OutD) := { T := T, G := [(182, Z4x.E)], mvs := [], no := 0, n := 37, res := resOf T Zi8 Z44 Try.f148.results.toList, loops := [(2, Z3M.E), (0, Z3S.E)], regs := [], conds := [] }
theorem Zdp (k : Nat) : EnvOK Try.prog k Z1M.G := (EnvOK.cons (Zpk k) (EnvOK.nil mixed))
noncomputable def Z80 : Code := (findLoop 2 Z7z).getD .skip
theorem Zoo (k : Nat) (x : ZaS.D) : Z3M.lp (k + 1) x = loopK Z1M Z3M 2 Z80 k x := by kernel_rfl
theorem ZoF (k : Nat) : LOK Try.prog Z1M k Z80 := LOK.by [] (by kernel_rfl) AllOK.nil
theorem Zop (x : ZaS.D) : Z3M.lp 0 x = none := by kernel_rfl
theorem ZmI (k : Nat) : EOK Try.prog Z1M k Z3M.E (.block 2 (.loop Z80)) := Zp T_ok Zdp Zop Zoo ZoF k
noncomputable def Z7T : Code := (findLoop 0 Z7z).getD .skip
theorem ZoV (k : Nat) (x : Zbh.D) : Z3S.lp (k + 1) x = loopK Z1M Z3S 0 Z7T k x := by kernel_rfl
theorem ZoI (k : Nat) : LOK Try.prog Z1M k Z7T := LOK.by [(Z3M.E, .block 2 (.loop Z80))] (by kernel_rfl) (AllOK.cons (ZmI k) AllOK.nil)
theorem ZoM (x : Zbh.D) : Z3S.lp 0 x = none := by kernel_rfl
theorem Zmo (k : Nat) : EOK Try.prog Z1M k Z3S.E (.block 0 (.loop Z7T)) := Zp T_ok Zdp ZoM ZoV ZoI k
theorem Zui (k : Nat) (x : Tup Z1a.ps) : Z1a.f (k + 1) x = fnK Z1a Z1M Z7z k x := by kernel_rfl
theorem Zu1 (x : Tup Z1a.ps) : Z1a.f 0 x = none := by kernel_rfl
theorem ZuH (k : Nat) : LOK Try.prog Z1M k Z7z := LOK.by [(Z3S.E, .block 0 (.loop Z7T))] (by kernel_rfl) (AllOK.cons (Zmo k) AllOK.nil)
theorem Z7B (k : Nat) : SoundAt Try.prog k 148 Z1a.E := @Ze Try.prog Z1a Z1M 148 Try.f148 Z7z (by kernel_rfl) (by kernel_rfl) (by kernel_rfl) Try.func148 (by kernel_rfl) (by kernel_rfl) (by kernel_rfl) T_ok Zdp ZuH Zu1 Zui k
noncomputable def Z8v : List PK := [PK.mk Ty.bool false none false none]
noncomputable def ZjI : List PK := [PK.mk (Ty.pair (Ty.slice (5 : Nat) (Ty.int .u8)) (Ty.pair (Ty.int .i64) (Ty.int .u64))) false none false (some (114 : Nat)), PK.mk (Ty.int .i64) false none false none]
noncomputable def Zir (r : Bool × Int × Int) : Tup Z8v × OutD := ((r.1, ()), some ⟨Ty.pair (Ty.slice (5 : Nat) (Ty.int .u8)) (Ty.pair (Ty.int .i64) (Ty.int .u64)), [([], r.2)]⟩)
noncomputable def Zdb : Tup Z8v × OutD → Option (Bool × Int × Int)
 | (a, some ⟨u, ys⟩) => if h : u = Ty.pair (Ty.slice (5 : Nat) (Ty.int .u8)) (Ty.pair (Ty.int .i64) (Ty.int .u64)) then (match castU h ys with
  | [([], y)] => some (a.1, y)
  | _ => none) else none
 | _ => none
theorem Zov : ∀ b r, Zdb b = some r → Zir r = b := by
 rintro ⟨a, o⟩ r h
 cases o with
 | none => cases h
 | some s =>
  obtain ⟨u, ys⟩ := s
  simp only [Zdb] at h
  split at h
  ·rename_i hu
   subst hu
   match ys, h with
   | [], h => cases (show (none : Option _) = some r from h)
   | [([], y)], h => injection (show some _ = some r from h) with h; subst h; rfl
   | [(_ :: _, y)], h => cases (show (none : Option _) = some r from h)
   | (h1, _) :: _ :: _, h => cases h1 <;> cases (show (none : Option _) = some r from h)
  ·cases h
noncomputable def Z19 : Nat → List Int × Int × Int → Int → Option (Bool × Int × Int)
 | 0, _, _ => none
 | k + 1, p0, p1 =>
  Option.bind (Z2 k (Prod.fst p0, Prod.fst p0.2, Prod.snd p0.2) p1) fun z0 => some (decide (Prod.fst z0 = (0 : Int)), Prod.fst z0.2, Prod.snd z0.2)
noncomputable def Z1v : FnDef := .of ZjI Z8v (Bool × Int × Int) (fun k x => Z19 k x.1 x.2.1) Zir Zdb Zov
noncomputable def Ze5 : Code := Try.f150.body.getD .skip
noncomputable def Zb9 : Ctx (Tup Z8v × OutD) := { T := T, G := [(111, ZJ.E)], mvs := [], no := 2, n := 9, res := resOf T ZjI Z8v Try.f150.results.toList, loops := [], regs := [], conds := [] }
theorem Zw4 (k : Nat) : EnvOK Try.prog k Zb9.G := (EnvOK.cons (Z2Y k) (EnvOK.nil mixed))
theorem ZwM (k : Nat) (x : Tup Z1v.ps) : Z1v.f (k + 1) x = fnK Z1v Zb9 Ze5 k x := by kernel_rfl
theorem ZwL (x : Tup Z1v.ps) : Z1v.f 0 x = none := by kernel_rfl
theorem ZvI (k : Nat) : LOK Try.prog Zb9 k Ze5 := LOK.by [] (by kernel_rfl) AllOK.nil
theorem Zb3 (k : Nat) : SoundAt Try.prog k 150 Z1v.E := @Ze Try.prog Z1v Zb9 150 Try.f150 Ze5 (by kernel_rfl) (by kernel_rfl) (by kernel_rfl) Try.func150 (by kernel_rfl) (by kernel_rfl) (by kernel_rfl) T_ok Zw4 ZvI ZwL ZwM k
noncomputable def Zao : List PK := [PK.mk Ty.bool false none false none]
noncomputable def ZnY : List PK := [PK.mk (Ty.pair (Ty.int .i64) (Ty.int .i64)) true none false none, PK.mk (Ty.int .i64) false none false none]
noncomputable def Zl2 (r : Bool) : Tup Zao × OutD := ((r, ()), none)
noncomputable def ZkV : Tup Zao × OutD → Option (Bool)
 | (a, none) => some (a.1)
 | _ => none
theorem Zrp : ∀ b r, ZkV b = some r → Zl2 r = b := by
 rintro ⟨a, o⟩ r h
 cases o with
 | none => injection h with h; subst h; rfl
 | some _ => cases h
noncomputable def ZaE : Nat → Int × Int → Int → Option Bool
 | 0, _, _ => none
 | k + 1, p0, p1 =>
  if decide (p1 = (1 : Int)) = true then Option.bind (Z2I k (Prod.fst p0, Prod.snd p0)) fun z0 => some z0 else if decide (p1 = (2 : Int)) = true then some true else if decide (p1 = (3 : Int)) = true then Option.bind (Z2I k (Prod.fst p0, Prod.snd p0)) fun z1 => if z1 = true then some true else if decide (Prod.fst p0 = (1 : Int)) = true then some true else some (decide (Prod.fst p0 = (2 : Int))) else some false
noncomputable def Z3W : FnDef := .of ZnY Zao (Bool) (fun k x => ZaE k x.1 x.2.1) Zl2 ZkV Zrp
noncomputable def Zgl : Code := Try.f181.body.getD .skip
noncomputable def ZcK : Ctx (Tup Zao × OutD) := { T := T, G := [(188, Z2G.E)], mvs := [], no := 0, n := 26, res := resOf T ZnY Zao Try.f181.results.toList, loops := [], regs := [], conds := [] }
theorem ZyI (k : Nat) : EnvOK Try.prog k ZcK.G := (EnvOK.cons (Zjc k) (EnvOK.nil mixed))
theorem Zzc (k : Nat) (x : Tup Z3W.ps) : Z3W.f (k + 1) x = fnK Z3W ZcK Zgl k x := by kernel_rfl
theorem ZyW (x : Tup Z3W.ps) : Z3W.f 0 x = none := by kernel_rfl
theorem ZyY (k : Nat) : LOK Try.prog ZcK k Zgl := LOK.by [] (by kernel_rfl) AllOK.nil
theorem ZmL (k : Nat) : SoundAt Try.prog k 181 Z3W.E := @Ze Try.prog Z3W ZcK 181 Try.f181 Zgl (by kernel_rfl) (by kernel_rfl) (by kernel_rfl) Try.func181 (by kernel_rfl) (by kernel_rfl) (by kernel_rfl) T_ok ZyI ZyY ZyW Zzc k
noncomputable def Z3K : List PK := [PK.mk (Ty.pair (Ty.int .i64) (Ty.pair (Ty.int .i64) (Ty.int .i64))) true none false none, PK.mk (Ty.pair (Ty.int .i64) (Ty.pair (Ty.int .i64) (Ty.slice (79 : Nat) (Ty.pair (Ty.int .i64) (Ty.int .i64))))) true none false none]
noncomputable def Zvi : List PK := [PK.mk (Ty.pair (Ty.int .i64) (Ty.pair (Ty.int .i64) (Ty.slice (79 : Nat) (Ty.pair (Ty.int .i64) (Ty.int .i64))))) true none false none, PK.mk (Ty.slice (3 : Nat) (Ty.int .i64)) false none false none, PK.mk (Ty.slice (77 : Nat) (Ty.pair (Ty.int .i64) (Ty.pair (Ty.int .i64) (Ty.int .i64)))) false none false none, PK.mk (Ty.int .i64) false none false none]
noncomputable def ZjS (r : (Int × Int × Int) × Int × Int × List (Int × Int)) : Tup Z3K × OutD := ((r.1, r.2, ()), none)
noncomputable def ZjU : Tup Z3K × OutD → Option ((Int × Int × Int) × Int × Int × List (Int × Int))
 | (a, none) => some (a.1, a.2.1)
 | _ => none
theorem ZkZ : ∀ b r, ZjU b = some r → ZjS r = b := by
 rintro ⟨a, o⟩ r h
 cases o with
 | none => injection h with h; subst h; rfl
 | some _ => cases h
noncomputable def Z8l : Nat → Int → Int → Int → Int → Int → List (Int × Int) → Int → Int → List (Int × Int) → Int → Int → Option (Int × Int × Int × Int × Int × List (Int × Int)) := fun k b1_0 b1_1 b1_2 b2_0 b2_1 o3 b4_0 b4_1 o5 v3 v12 =>
    some ((3 : Int), v12, v3, b4_0, b4_1, o5)
noncomputable def ZbX : Nat → Int → Int → Int → Int → Int → List (Int × Int) → Int → Int → List (Int × Int) → Int → Int → Option (List (Int × Int × Int × Int × Int × List (Int × Int))) := fun k b1_0 b1_1 b1_2 b2_0 b2_1 o3 b4_0 b4_1 o5 v3 v12 =>
    joinL (some [((3 : Int), v12, v3, b4_0, b4_1, o5)]) (some [((3 : Int), v12, v3, b4_0, b4_1, o5)])
noncomputable def ZkL : Spec := Spec.mk [OSh.ro, OSh.box (63 : Nat) [Sh.int .i64, Sh.int .i64, Sh.int .i64], OSh.box (53 : Nat) [Sh.int .i64, Sh.int .i64, Sh.sl (3 : Nat)], OSh.row true (79 : Nat) (Ty.pair (Ty.int .i64) (Ty.int .i64)), OSh.box (53 : Nat) [Sh.int .i64, Sh.int .i64, Sh.sl (5 : Nat)], OSh.row true (79 : Nat) (Ty.pair (Ty.int .i64) (Ty.int .i64))] [((3 : Nat), TSh.at (Sh.int .i64)), ((8 : Nat), TSh.at (Sh.ptr (1 : Nat) (0 : Nat))), ((9 : Nat), TSh.at (Sh.ptr (2 : Nat) (0 : Nat))), ((10 : Nat), TSh.at (Sh.ptr (4 : Nat) (0 : Nat))), ((12 : Nat), TSh.at (Sh.int .i64))]
noncomputable def Zyx : Spec := Spec.mk [OSh.ro, OSh.box (63 : Nat) [Sh.int .i64, Sh.int .i64, Sh.int .i64], OSh.box (53 : Nat) [Sh.int .i64, Sh.int .i64, Sh.sl (3 : Nat)], OSh.row true (79 : Nat) (Ty.pair (Ty.int .i64) (Ty.int .i64))] [((8 : Nat), TSh.at (Sh.ptr (1 : Nat) (0 : Nat))), ((9 : Nat), TSh.at (Sh.ptr (2 : Nat) (0 : Nat)))]
noncomputable def Z7l : LoopDef (Tup Z3K × OutD) := .plain ZkL Zyx (Int × Int × Int × Int × Int × List (Int × Int)) (fun k x => Z8l k x.1.2.1.1 x.1.2.1.2.1 x.1.2.1.2.2.1 x.1.2.2.1.1 x.1.2.2.1.2.1 x.1.2.2.2.1 x.1.2.2.2.2.1.1 x.1.2.2.2.2.1.2.1 x.1.2.2.2.2.2.1 x.2.1 x.2.2.2.2.2.1) (fun z => (((), (z.1, z.2.1, z.2.2.1, ()), (z.2.2.2.1, z.2.2.2.2.1, (), ()), z.2.2.2.2.2, ()), ((), (), ()))) (fun y => (y.1.2.1.1, y.1.2.1.2.1, y.1.2.1.2.2.1, y.1.2.2.1.1, y.1.2.2.1.2.1, y.1.2.2.2.1)) (fun _ => rfl)
theorem Zyb (k : Nat) (b1_0 : Int) (b1_1 : Int) (b1_2 : Int) (b2_0 : Int) (b2_1 : Int) (o3 : List (Int × Int)) (b4_0 : Int) (b4_1 : Int) (o5 : List (Int × Int)) (v3 : Int) (v12 : Int) : ZbX k b1_0 b1_1 b1_2 b2_0 b2_1 o3 b4_0 b4_1 o5 v3 v12 = repl 2 (Z8l k b1_0 b1_1 b1_2 b2_0 b2_1 o3 b4_0 b4_1 o5 v3 v12) := by
 first
 | (simp only [ZbX, Z8l, Zc, Zf, Za, Z9, Zb, Z8, if_true]; done)
 | (simp only [ZbX, Z8l, Zc, Zf, Za, Z9, Zb, Z8, if_true]; simp only [Z4r, Z4y, Z7x, Z8]; simp only [Z9e]; exact Z5I ⟨fun h => by simp only [h, and_self], fun h => by simp only [h, and_self]⟩)
noncomputable def Z77 : Nat → Int → Int → Int → Int → Int → List (Int × Int) → Int → Int → List (Int × Int) → Int → Int → Option (Int × Int × Int × Int × Int × List (Int × Int)) := fun k b1_0 b1_1 b1_2 b2_0 b2_1 o3 b4_0 b4_1 o5 v3 v12 =>
    some ((2 : Int), v12, v3, b4_0, b4_1, o5)
noncomputable def Zbe : Nat → Int → Int → Int → Int → Int → List (Int × Int) → Int → Int → List (Int × Int) → Int → Int → Option (List (Int × Int × Int × Int × Int × List (Int × Int))) := fun k b1_0 b1_1 b1_2 b2_0 b2_1 o3 b4_0 b4_1 o5 v3 v12 =>
    joinL (some [((2 : Int), v12, v3, b4_0, b4_1, o5)]) (some [((2 : Int), v12, v3, b4_0, b4_1, o5)])
noncomputable def Zkb : Spec := Spec.mk [OSh.ro, OSh.box (63 : Nat) [Sh.int .i64, Sh.int .i64, Sh.int .i64], OSh.box (53 : Nat) [Sh.int .i64, Sh.int .i64, Sh.sl (3 : Nat)], OSh.row true (79 : Nat) (Ty.pair (Ty.int .i64) (Ty.int .i64)), OSh.box (53 : Nat) [Sh.int .i64, Sh.int .i64, Sh.sl (5 : Nat)], OSh.row true (79 : Nat) (Ty.pair (Ty.int .i64) (Ty.int .i64))] [((3 : Nat), TSh.at (Sh.int .i64)), ((8 : Nat), TSh.at (Sh.ptr (1 : Nat) (0 : Nat))), ((9 : Nat), TSh.at (Sh.ptr (2 : Nat) (0 : Nat))), ((10 : Nat), TSh.at (Sh.ptr (4 : Nat) (0 : Nat))), ((12 : Nat), TSh.at (Sh.int .i64))]
noncomputable def Zwf : Spec := Spec.mk [OSh.ro, OSh.box (63 : Nat) [Sh.int .i64, Sh.int .i64, Sh.int .i64], OSh.box (53 : Nat) [Sh.int .i64, Sh.int .i64, Sh.sl (3 : Nat)], OSh.row true (79 : Nat) (Ty.pair (Ty.int .i64) (Ty.int .i64))] [((8 : Nat), TSh.at (Sh.ptr (1 : Nat) (0 : Nat))), ((9 : Nat), TSh.at (Sh.ptr (2 : Nat) (0 : Nat)))]
noncomputable def Z6s : LoopDef (Tup Z3K × OutD) := .plain Zkb Zwf (Int × Int × Int × Int × Int × List (Int × Int)) (fun k x => Z77 k x.1.2.1.1 x.1.2.1.2.1 x.1.2.1.2.2.1 x.1.2.2.1.1 x.1.2.2.1.2.1 x.1.2.2.2.1 x.1.2.2.2.2.1.1 x.1.2.2.2.2.1.2.1 x.1.2.2.2.2.2.1 x.2.1 x.2.2.2.2.2.1) (fun z => (((), (z.1, z.2.1, z.2.2.1, ()), (z.2.2.2.1, z.2.2.2.2.1, (), ()), z.2.2.2.2.2, ()), ((), (), ()))) (fun y => (y.1.2.1.1, y.1.2.1.2.1, y.1.2.1.2.2.1, y.1.2.2.1.1, y.1.2.2.1.2.1, y.1.2.2.2.1)) (fun _ => rfl)
theorem Zw6 (k : Nat) (b1_0 : Int) (b1_1 : Int) (b1_2 : Int) (b2_0 : Int) (b2_1 : Int) (o3 : List (Int × Int)) (b4_0 : Int) (b4_1 : Int) (o5 : List (Int × Int)) (v3 : Int) (v12 : Int) : Zbe k b1_0 b1_1 b1_2 b2_0 b2_1 o3 b4_0 b4_1 o5 v3 v12 = repl 2 (Z77 k b1_0 b1_1 b1_2 b2_0 b2_1 o3 b4_0 b4_1 o5 v3 v12) := by
 first
 | (simp only [Zbe, Z77, Zc, Zf, Za, Z9, Zb, Z8, if_true]; done)
 | (simp only [Zbe, Z77, Zc, Zf, Za, Z9, Zb, Z8, if_true]; simp only [Z4r, Z4y, Z7x, Z8]; simp only [Z9e]; exact Z5I ⟨fun h => by simp only [h, and_self], fun h => by simp only [h, and_self]⟩)
noncomputable def Zc3 : Nat → Int → Int → List (Int × Int) → Int → Int → Int → Int → Int → List (Int × Int) → Int → Int → List (Int × Int) → List Int → List (Int × Int × Int) → Int → Int → Int → Bool → Option (Int × Int × List (Int × Int) × Int × Int × Int × Int × Int × List (Int × Int) × Int × Int × List (Int × Int) × List Int × List (Int × Int × Int) × Int × Int × Int) := fun k b1_0 b1_1 b1_2 b2_0 b2_1 b2_2 b3_0 b3_1 o4 b5_0 b5_1 o6 v1 v2 v3 v12 v15 v52 =>
    if v52 = true then some (b1_0, b1_1, b1_2, b2_0, b2_1, b2_2, b3_0, b3_1, o4, b5_0, b5_1, o6, v1, v2, v3, v12, wrap64 ((0 : Int) - v15)) else some (b1_0, b1_1, b1_2, b2_0, b2_1, b2_2, b3_0, b3_1, o4, b5_0, b5_1, o6, v1, v2, v3, v12, v15)
noncomputable def ZvF : Spec := Spec.mk [OSh.ro, OSh.box (53 : Nat) [Sh.int .i64, Sh.int .i64, Sh.snap (0 : Nat) (Ty.pair (Ty.int .i64) (Ty.int .i64))], OSh.box (63 : Nat) [Sh.int .i64, Sh.int .i64, Sh.int .i64], OSh.box (53 : Nat) [Sh.int .i64, Sh.int .i64, Sh.sl (4 : Nat)], OSh.row true (79 : Nat) (Ty.pair (Ty.int .i64) (Ty.int .i64)), OSh.box (53 : Nat) [Sh.int .i64, Sh.int .i64, Sh.sl (6 : Nat)], OSh.row true (79 : Nat) (Ty.pair (Ty.int .i64) (Ty.int .i64))] [((1 : Nat), TSh.at (Sh.snap (0 : Nat) (Ty.int .i64))), ((2 : Nat), TSh.at (Sh.snap (0 : Nat) (Ty.pair (Ty.int .i64) (Ty.pair (Ty.int .i64) (Ty.int .i64))))), ((3 : Nat), TSh.at (Sh.int .i64)), ((4 : Nat), TSh.at (Sh.ptr (1 : Nat) (0 : Nat))), ((8 : Nat), TSh.at (Sh.ptr (2 : Nat) (0 : Nat))), ((9 : Nat), TSh.at (Sh.ptr (3 : Nat) (0 : Nat))), ((10 : Nat), TSh.at (Sh.ptr (5 : Nat) (0 : Nat))), ((12 : Nat), TSh.at (Sh.int .i64)), ((15 : Nat), TSh.at (Sh.int .i64)), ((52 : Nat), TSh.at Sh.bool)]
noncomputable def ZwX : Spec := Spec.mk [OSh.ro, OSh.box (53 : Nat) [Sh.int .i64, Sh.int .i64, Sh.snap (0 : Nat) (Ty.pair (Ty.int .i64) (Ty.int .i64))], OSh.box (63 : Nat) [Sh.int .i64, Sh.int .i64, Sh.int .i64], OSh.box (53 : Nat) [Sh.int .i64, Sh.int .i64, Sh.sl (4 : Nat)], OSh.row true (79 : Nat) (Ty.pair (Ty.int .i64) (Ty.int .i64)), OSh.box (53 : Nat) [Sh.int .i64, Sh.int .i64, Sh.sl (6 : Nat)], OSh.row true (79 : Nat) (Ty.pair (Ty.int .i64) (Ty.int .i64))] [((1 : Nat), TSh.at (Sh.snap (0 : Nat) (Ty.int .i64))), ((2 : Nat), TSh.at (Sh.snap (0 : Nat) (Ty.pair (Ty.int .i64) (Ty.pair (Ty.int .i64) (Ty.int .i64))))), ((3 : Nat), TSh.at (Sh.int .i64)), ((4 : Nat), TSh.at (Sh.ptr (1 : Nat) (0 : Nat))), ((8 : Nat), TSh.at (Sh.ptr (2 : Nat) (0 : Nat))), ((9 : Nat), TSh.at (Sh.ptr (3 : Nat) (0 : Nat))), ((10 : Nat), TSh.at (Sh.ptr (5 : Nat) (0 : Nat))), ((12 : Nat), TSh.at (Sh.int .i64)), ((15 : Nat), TSh.at (Sh.int .i64))]
noncomputable def Z1x : LoopDef (Tup Z3K × OutD) := .plain ZvF ZwX (Int × Int × List (Int × Int) × Int × Int × Int × Int × Int × List (Int × Int) × Int × Int × List (Int × Int) × List Int × List (Int × Int × Int) × Int × Int × Int) (fun k x => Zc3 k x.1.2.1.1 x.1.2.1.2.1 x.1.2.1.2.2.1 x.1.2.2.1.1 x.1.2.2.1.2.1 x.1.2.2.1.2.2.1 x.1.2.2.2.1.1 x.1.2.2.2.1.2.1 x.1.2.2.2.2.1 x.1.2.2.2.2.2.1.1 x.1.2.2.2.2.2.1.2.1 x.1.2.2.2.2.2.2.1 x.2.1 x.2.2.1 x.2.2.2.1 x.2.2.2.2.2.2.2.2.1 x.2.2.2.2.2.2.2.2.2.1 x.2.2.2.2.2.2.2.2.2.2.1) (fun z => (((), (z.1, z.2.1, z.2.2.1, ()), (z.2.2.2.1, z.2.2.2.2.1, z.2.2.2.2.2.1, ()), (z.2.2.2.2.2.2.1, z.2.2.2.2.2.2.2.1, (), ()), z.2.2.2.2.2.2.2.2.1, (z.2.2.2.2.2.2.2.2.2.1, z.2.2.2.2.2.2.2.2.2.2.1, (), ()), z.2.2.2.2.2.2.2.2.2.2.2.1, ()), (z.2.2.2.2.2.2.2.2.2.2.2.2.1, z.2.2.2.2.2.2.2.2.2.2.2.2.2.1, z.2.2.2.2.2.2.2.2.2.2.2.2.2.2.1, (), (), (), (), z.2.2.2.2.2.2.2.2.2.2.2.2.2.2.2.1, z.2.2.2.2.2.2.2.2.2.2.2.2.2.2.2.2, ()))) (fun y => (y.1.2.1.1, y.1.2.1.2.1, y.1.2.1.2.2.1, y.1.2.2.1.1, y.1.2.2.1.2.1, y.1.2.2.1.2.2.1, y.1.2.2.2.1.1, y.1.2.2.2.1.2.1, y.1.2.2.2.2.1, y.1.2.2.2.2.2.1.1, y.1.2.2.2.2.2.1.2.1, y.1.2.2.2.2.2.2.1, y.2.1, y.2.2.1, y.2.2.2.1, y.2.2.2.2.2.2.2.2.1, y.2.2.2.2.2.2.2.2.2.1)) (fun _ => rfl)
noncomputable def Z7n : Nat → Int → Int → List (Int × Int) → Int → Int → Int → Int → Int → List (Int × Int) → Int → Int → List (Int × Int) → List Int → List (Int × Int × Int) → Int → Int → Int → List (Int × Int × Int) → Int → Int → Option (Int × Int × List (Int × Int) × Int × Int × Int × Int × Int × List (Int × Int) × Int × Int × List (Int × Int) × List Int × List (Int × Int × Int) × Int × Int × Int)
 | 0, _, _, _, _, _, _, _, _, _, _, _, _, _, _, _, _, _, _, _, _ => none
 | k + 1, b1_0, b1_1, b1_2, b2_0, b2_1, b2_2, b3_0, b3_1, o4, b5_0, b5_1, o6, v1, v2, v3, v12, v15, v64, v65, v66 =>
  if decide (v66 < v65) = true then if (0 : Int) ≤ v66 then if v66 < (↑(List.length v64) : Int) then if decide (Prod.fst (List.getD v64 (Int.toNat v66) ((0 : Int), (0 : Int), (0 : Int))) = (1 : Int)) = true then if (0 : Int) ≤ wrap64 (wrap64 (Prod.fst (Prod.snd (List.getD v64 (Int.toNat v66) ((0 : Int), (0 : Int), (0 : Int)))) * b1_1) + Prod.snd (Prod.snd (List.getD v64 (Int.toNat v66) ((0 : Int), (0 : Int), (0 : Int))))) then if wrap64 (wrap64 (Prod.fst (Prod.snd (List.getD v64 (Int.toNat v66) ((0 : Int), (0 : Int), (0 : Int)))) * b1_1) + Prod.snd (Prod.snd (List.getD v64 (Int.toNat v66) ((0 : Int), (0 : Int), (0 : Int))))) < (↑(List.length b1_2) : Int) then if (0 : Int) ≤ wrap64 (wrap64 (Prod.fst (Prod.snd (List.getD v64 (Int.toNat v66) ((0 : Int), (0 : Int), (0 : Int)))) * b1_1) + Prod.snd (Prod.snd (List.getD v64 (Int.toNat v66) ((0 : Int), (0 : Int), (0 : Int))))) then if wrap64 (wrap64 (Prod.fst (Prod.snd (List.getD v64 (Int.toNat v66) ((0 : Int), (0 : Int), (0 : Int)))) * b1_1) + Prod.snd (Prod.snd (List.getD v64 (Int.toNat v66) ((0 : Int), (0 : Int), (0 : Int))))) < (↑(List.length o6) : Int) then Z7n k b1_0 b1_1 b1_2 b2_0 b2_1 b2_2 b3_0 b3_1 o4 b5_0 b5_1 (List.set o6 (Int.toNat (wrap64 (wrap64 (Prod.fst (Prod.snd (List.getD v64 (Int.toNat v66) ((0 : Int), (0 : Int), (0 : Int)))) * b1_1) + Prod.snd (Prod.snd (List.getD v64 (Int.toNat v66) ((0 : Int), (0 : Int), (0 : Int))))))) (Prod.fst (List.getD b1_2 (Int.toNat (wrap64 (wrap64 (Prod.fst (Prod.snd (List.getD v64 (Int.toNat v66) ((0 : Int), (0 : Int), (0 : Int)))) * b1_1) + Prod.snd (Prod.snd (List.getD v64 (Int.toNat v66) ((0 : Int), (0 : Int), (0 : Int))))))) ((0 : Int), (0 : Int))), Prod.snd (List.getD b1_2 (Int.toNat (wrap64 (wrap64 (Prod.fst (Prod.snd (List.getD v64 (Int.toNat v66) ((0 : Int), (0 : Int), (0 : Int)))) * b1_1) + Prod.snd (Prod.snd (List.getD v64 (Int.toNat v66) ((0 : Int), (0 : Int), (0 : Int))))))) ((0 : Int), (0 : Int))))) v1 v2 v3 v12 v15 v64 v65 (wrap64 (v66 + (1 : Int))) else none else none else none else none else Z7n k b1_0 b1_1 b1_2 b2_0 b2_1 b2_2 b3_0 b3_1 o4 b5_0 b5_1 o6 v1 v2 v3 v12 v15 v64 v65 (wrap64 (v66 + (1 : Int))) else none else none else some (b1_0, b1_1, b1_2, b2_0, b2_1, b2_2, b3_0, b3_1, o4, b5_0, b5_1, o6, v1, v2, v3, v12, v15)
noncomputable def ZgD : Spec := Spec.mk [OSh.ro, OSh.box (53 : Nat) [Sh.int .i64, Sh.int .i64, Sh.snap (0 : Nat) (Ty.pair (Ty.int .i64) (Ty.int .i64))], OSh.box (63 : Nat) [Sh.int .i64, Sh.int .i64, Sh.int .i64], OSh.box (53 : Nat) [Sh.int .i64, Sh.int .i64, Sh.sl (4 : Nat)], OSh.row true (79 : Nat) (Ty.pair (Ty.int .i64) (Ty.int .i64)), OSh.box (53 : Nat) [Sh.int .i64, Sh.int .i64, Sh.sl (6 : Nat)], OSh.row true (79 : Nat) (Ty.pair (Ty.int .i64) (Ty.int .i64))] [((1 : Nat), TSh.at (Sh.snap (0 : Nat) (Ty.int .i64))), ((2 : Nat), TSh.at (Sh.snap (0 : Nat) (Ty.pair (Ty.int .i64) (Ty.pair (Ty.int .i64) (Ty.int .i64))))), ((3 : Nat), TSh.at (Sh.int .i64)), ((4 : Nat), TSh.at (Sh.ptr (1 : Nat) (0 : Nat))), ((8 : Nat), TSh.at (Sh.ptr (2 : Nat) (0 : Nat))), ((9 : Nat), TSh.at (Sh.ptr (3 : Nat) (0 : Nat))), ((10 : Nat), TSh.at (Sh.ptr (5 : Nat) (0 : Nat))), ((12 : Nat), TSh.at (Sh.int .i64)), ((15 : Nat), TSh.at (Sh.int .i64)), ((64 : Nat), TSh.at (Sh.snap (0 : Nat) (Ty.pair (Ty.int .i64) (Ty.pair (Ty.int .i64) (Ty.int .i64))))), ((65 : Nat), TSh.at (Sh.int .i64)), ((66 : Nat), TSh.at (Sh.int .i64))]
noncomputable def Zzm : Spec := Spec.mk [OSh.ro, OSh.box (53 : Nat) [Sh.int .i64, Sh.int .i64, Sh.snap (0 : Nat) (Ty.pair (Ty.int .i64) (Ty.int .i64))], OSh.box (63 : Nat) [Sh.int .i64, Sh.int .i64, Sh.int .i64], OSh.box (53 : Nat) [Sh.int .i64, Sh.int .i64, Sh.sl (4 : Nat)], OSh.row true (79 : Nat) (Ty.pair (Ty.int .i64) (Ty.int .i64)), OSh.box (53 : Nat) [Sh.int .i64, Sh.int .i64, Sh.sl (6 : Nat)], OSh.row true (79 : Nat) (Ty.pair (Ty.int .i64) (Ty.int .i64))] [((1 : Nat), TSh.at (Sh.snap (0 : Nat) (Ty.int .i64))), ((2 : Nat), TSh.at (Sh.snap (0 : Nat) (Ty.pair (Ty.int .i64) (Ty.pair (Ty.int .i64) (Ty.int .i64))))), ((3 : Nat), TSh.at (Sh.int .i64)), ((4 : Nat), TSh.at (Sh.ptr (1 : Nat) (0 : Nat))), ((8 : Nat), TSh.at (Sh.ptr (2 : Nat) (0 : Nat))), ((9 : Nat), TSh.at (Sh.ptr (3 : Nat) (0 : Nat))), ((10 : Nat), TSh.at (Sh.ptr (5 : Nat) (0 : Nat))), ((12 : Nat), TSh.at (Sh.int .i64)), ((15 : Nat), TSh.at (Sh.int .i64))]
noncomputable def Z8g : LoopDef (Tup Z3K × OutD) := .plain ZgD Zzm (Int × Int × List (Int × Int) × Int × Int × Int × Int × Int × List (Int × Int) × Int × Int × List (Int × Int) × List Int × List (Int × Int × Int) × Int × Int × Int) (fun k x => Z7n k x.1.2.1.1 x.1.2.1.2.1 x.1.2.1.2.2.1 x.1.2.2.1.1 x.1.2.2.1.2.1 x.1.2.2.1.2.2.1 x.1.2.2.2.1.1 x.1.2.2.2.1.2.1 x.1.2.2.2.2.1 x.1.2.2.2.2.2.1.1 x.1.2.2.2.2.2.1.2.1 x.1.2.2.2.2.2.2.1 x.2.1 x.2.2.1 x.2.2.2.1 x.2.2.2.2.2.2.2.2.1 x.2.2.2.2.2.2.2.2.2.1 x.2.2.2.2.2.2.2.2.2.2.1 x.2.2.2.2.2.2.2.2.2.2.2.1 x.2.2.2.2.2.2.2.2.2.2.2.2.1) (fun z => (((), (z.1, z.2.1, z.2.2.1, ()), (z.2.2.2.1, z.2.2.2.2.1, z.2.2.2.2.2.1, ()), (z.2.2.2.2.2.2.1, z.2.2.2.2.2.2.2.1, (), ()), z.2.2.2.2.2.2.2.2.1, (z.2.2.2.2.2.2.2.2.2.1, z.2.2.2.2.2.2.2.2.2.2.1, (), ()), z.2.2.2.2.2.2.2.2.2.2.2.1, ()), (z.2.2.2.2.2.2.2.2.2.2.2.2.1, z.2.2.2.2.2.2.2.2.2.2.2.2.2.1, z.2.2.2.2.2.2.2.2.2.2.2.2.2.2.1, (), (), (), (), z.2.2.2.2.2.2.2.2.2.2.2.2.2.2.2.1, z.2.2.2.2.2.2.2.2.2.2.2.2.2.2.2.2, ()))) (fun y => (y.1.2.1.1, y.1.2.1.2.1, y.1.2.1.2.2.1, y.1.2.2.1.1, y.1.2.2.1.2.1, y.1.2.2.1.2.2.1, y.1.2.2.2.1.1, y.1.2.2.2.1.2.1, y.1.2.2.2.2.1, y.1.2.2.2.2.2.1.1, y.1.2.2.2.2.2.1.2.1, y.1.2.2.2.2.2.2.1, y.2.1, y.2.2.1, y.2.2.2.1, y.2.2.2.2.2.2.2.2.1, y.2.2.2.2.2.2.2.2.2.1)) (fun _ => rfl)
noncomputable def Z6X : Nat → Int → Int → Int → Int → Int → List (Int × Int) → Int → Int → List (Int × Int) → Int → Int → Option (Int × Int × Int × Int × Int × List (Int × Int)) := fun k b1_0 b1_1 b1_2 b2_0 b2_1 o3 b4_0 b4_1 o5 v3 v12 =>
    some ((3 : Int), v12, v3, b4_0, b4_1, o5)
noncomputable def Zb7 : Nat → Int → Int → Int → Int → Int → List (Int × Int) → Int → Int → List (Int × Int) → Int → Int → Option (List (Int × Int × Int × Int × Int × List (Int × Int))) := fun k b1_0 b1_1 b1_2 b2_0 b2_1 o3 b4_0 b4_1 o5 v3 v12 =>
    joinL (some [((3 : Int), v12, v3, b4_0, b4_1, o5)]) (some [((3 : Int), v12, v3, b4_0, b4_1, o5)])
noncomputable def Zk0 : Spec := Spec.mk [OSh.ro, OSh.box (63 : Nat) [Sh.int .i64, Sh.int .i64, Sh.int .i64], OSh.box (53 : Nat) [Sh.int .i64, Sh.int .i64, Sh.sl (3 : Nat)], OSh.row true (79 : Nat) (Ty.pair (Ty.int .i64) (Ty.int .i64)), OSh.box (53 : Nat) [Sh.int .i64, Sh.int .i64, Sh.sl (5 : Nat)], OSh.row true (79 : Nat) (Ty.pair (Ty.int .i64) (Ty.int .i64))] [((3 : Nat), TSh.at (Sh.int .i64)), ((8 : Nat), TSh.at (Sh.ptr (1 : Nat) (0 : Nat))), ((9 : Nat), TSh.at (Sh.ptr (2 : Nat) (0 : Nat))), ((10 : Nat), TSh.at (Sh.ptr (4 : Nat) (0 : Nat))), ((12 : Nat), TSh.at (Sh.int .i64))]
noncomputable def Zwz : Spec := Spec.mk [OSh.ro, OSh.box (63 : Nat) [Sh.int .i64, Sh.int .i64, Sh.int .i64], OSh.box (53 : Nat) [Sh.int .i64, Sh.int .i64, Sh.sl (3 : Nat)], OSh.row true (79 : Nat) (Ty.pair (Ty.int .i64) (Ty.int .i64))] [((8 : Nat), TSh.at (Sh.ptr (1 : Nat) (0 : Nat))), ((9 : Nat), TSh.at (Sh.ptr (2 : Nat) (0 : Nat)))]
noncomputable def Z6e : LoopDef (Tup Z3K × OutD) := .plain Zk0 Zwz (Int × Int × Int × Int × Int × List (Int × Int)) (fun k x => Z6X k x.1.2.1.1 x.1.2.1.2.1 x.1.2.1.2.2.1 x.1.2.2.1.1 x.1.2.2.1.2.1 x.1.2.2.2.1 x.1.2.2.2.2.1.1 x.1.2.2.2.2.1.2.1 x.1.2.2.2.2.2.1 x.2.1 x.2.2.2.2.2.1) (fun z => (((), (z.1, z.2.1, z.2.2.1, ()), (z.2.2.2.1, z.2.2.2.2.1, (), ()), z.2.2.2.2.2, ()), ((), (), ()))) (fun y => (y.1.2.1.1, y.1.2.1.2.1, y.1.2.1.2.2.1, y.1.2.2.1.1, y.1.2.2.1.2.1, y.1.2.2.2.1)) (fun _ => rfl)
theorem ZvK (k : Nat) (b1_0 : Int) (b1_1 : Int) (b1_2 : Int) (b2_0 : Int) (b2_1 : Int) (o3 : List (Int × Int)) (b4_0 : Int) (b4_1 : Int) (o5 : List (Int × Int)) (v3 : Int) (v12 : Int) : Zb7 k b1_0 b1_1 b1_2 b2_0 b2_1 o3 b4_0 b4_1 o5 v3 v12 = repl 2 (Z6X k b1_0 b1_1 b1_2 b2_0 b2_1 o3 b4_0 b4_1 o5 v3 v12) := by
 first
 | (simp only [Zb7, Z6X, Zc, Zf, Za, Z9, Zb, Z8, if_true]; done)
 | (simp only [Zb7, Z6X, Zc, Zf, Za, Z9, Zb, Z8, if_true]; simp only [Z4r, Z4y, Z7x, Z8]; simp only [Z9e]; exact Z5I ⟨fun h => by simp only [h, and_self], fun h => by simp only [h, and_self]⟩)
noncomputable def Z95 : Nat → Int → Int → List (Int × Int) → Int → Int → Int → Int → Int → List (Int × Int) → Int → Int → List (Int × Int) → List Int → List (Int × Int × Int) → Int → Int → Int → Option (LR (Int × Int × List (Int × Int) × Int × Int × Int × Int × Int × List (Int × Int) × Int × Int × List (Int × Int) × Int) ((Int × Int × Int) × Int × Int × List (Int × Int)))
 | 0, _, _, _, _, _, _, _, _, _, _, _, _, _, _, _, _, _ => none
 | k + 1, b1_0, b1_1, b1_2, b2_0, b2_1, b2_2, b3_0, b3_1, o4, b5_0, b5_1, o6, v1, v2, v3, v11, v12 =>
  if decide (v12 < b1_0) = true then Option.bind (Z87 k (b5_0, b5_1, o6) v12 v3) fun z1 => Option.bind (ZgS k v2 v12 v3) fun z2 => if decide (z2 = (2 : Int)) = true then Option.bind (Z8l k b2_0 b2_1 b2_2 b3_0 b3_1 o4 b5_0 b5_1 o6 v3 v12) fun z3 => some (LR.ret ((Prod.fst z3, Prod.fst z3.2, Prod.fst z3.2.2), Prod.fst z3.2.2.2, Prod.fst z3.2.2.2.2, Prod.snd z3.2.2.2.2)) else if decide (Prod.fst z1 = (5 : Int)) = true then Option.bind (Z77 k b2_0 b2_1 b2_2 b3_0 b3_1 o4 b5_0 b5_1 o6 v3 v12) fun z4 => some (LR.ret ((Prod.fst z4, Prod.fst z4.2, Prod.fst z4.2.2), Prod.fst z4.2.2.2, Prod.fst z4.2.2.2.2, Prod.snd z4.2.2.2.2)) else Option.bind (Z9c k (Prod.fst z1, Prod.snd z1) v11) fun z5 => Option.bind (Zc3 k b1_0 b1_1 b1_2 b2_0 b2_1 b2_2 b3_0 b3_1 o4 b5_0 b5_1 o6 v1 v2 v3 v12 z5 (decide (z2 = (3 : Int)))) fun z6 => Option.bind (Z99 k (Prod.fst z6.2.2.2.2.2.2.2.2.2, Prod.fst z6.2.2.2.2.2.2.2.2.2.2, Prod.fst z6.2.2.2.2.2.2.2.2.2.2.2) z6.2.2.2.2.2.2.2.2.2.2.2.2.1 (wrap64 (wrap64 (Prod.fst z6.2.2.2.2.2.2.2.2.2.2.2.2.2.2.2 * Prod.fst z6.2) + Prod.fst z6.2.2.2.2.2.2.2.2.2.2.2.2.2.2))) fun z7 => Option.bind (Z7n k z6.1 z6.2.1 z6.2.2.1 z6.2.2.2.1 z6.2.2.2.2.1 z6.2.2.2.2.2.1 z6.2.2.2.2.2.2.1 z6.2.2.2.2.2.2.2.1 z6.2.2.2.2.2.2.2.2.1 z6.2.2.2.2.2.2.2.2.2.1 z6.2.2.2.2.2.2.2.2.2.2.1 z7 z6.2.2.2.2.2.2.2.2.2.2.2.2.1 z6.2.2.2.2.2.2.2.2.2.2.2.2.2.1 z6.2.2.2.2.2.2.2.2.2.2.2.2.2.2.1 z6.2.2.2.2.2.2.2.2.2.2.2.2.2.2.2.1 z6.2.2.2.2.2.2.2.2.2.2.2.2.2.2.2.2 z6.2.2.2.2.2.2.2.2.2.2.2.2.2.1 (↑(List.length z6.2.2.2.2.2.2.2.2.2.2.2.2.2.1) : Int) (0 : Int)) fun z8 => Option.bind (Z21 k (wrap64 (Prod.fst z8.2.2.2.2.2.2.2.2.2.2.2.2.2.2 + Prod.snd z8.2.2.2.2.2.2.2.2.2.2.2.2.2.2.2)) (0 : Int) (wrap64 (Prod.fst z8.2 - (1 : Int)))) fun z9 => if (!z9) = true then Option.bind (Z6X k z8.2.2.2.1 z8.2.2.2.2.1 z8.2.2.2.2.2.1 z8.2.2.2.2.2.2.1 z8.2.2.2.2.2.2.2.1 z8.2.2.2.2.2.2.2.2.1 z8.2.2.2.2.2.2.2.2.2.1 z8.2.2.2.2.2.2.2.2.2.2.1 z8.2.2.2.2.2.2.2.2.2.2.2.1 (wrap64 (Prod.fst z8.2.2.2.2.2.2.2.2.2.2.2.2.2.2 + Prod.snd z8.2.2.2.2.2.2.2.2.2.2.2.2.2.2.2)) z8.2.2.2.2.2.2.2.2.2.2.2.2.2.2.2.1) fun z10 => some (LR.ret ((Prod.fst z10, Prod.fst z10.2, Prod.fst z10.2.2), Prod.fst z10.2.2.2, Prod.fst z10.2.2.2.2, Prod.snd z10.2.2.2.2)) else Z95 k z8.1 z8.2.1 z8.2.2.1 z8.2.2.2.1 z8.2.2.2.2.1 z8.2.2.2.2.2.1 z8.2.2.2.2.2.2.1 z8.2.2.2.2.2.2.2.1 z8.2.2.2.2.2.2.2.2.1 z8.2.2.2.2.2.2.2.2.2.1 z8.2.2.2.2.2.2.2.2.2.2.1 z8.2.2.2.2.2.2.2.2.2.2.2.1 z8.2.2.2.2.2.2.2.2.2.2.2.2.1 z8.2.2.2.2.2.2.2.2.2.2.2.2.2.1 (wrap64 (Prod.fst z8.2.2.2.2.2.2.2.2.2.2.2.2.2.2 + Prod.snd z8.2.2.2.2.2.2.2.2.2.2.2.2.2.2.2)) (wrap64 ((0 : Int) - Prod.snd z8.2.2.2.2.2.2.2.2.2.2.2.2.2.2.2)) (wrap64 (Prod.fst z8.2.2.2.2.2.2.2.2.2.2.2.2.2.2.2 + (1 : Int))) else some (LR.go (b1_0, b1_1, b1_2, b2_0, b2_1, b2_2, b3_0, b3_1, o4, b5_0, b5_1, o6, v3))
noncomputable def Zgz : Spec := Spec.mk [OSh.ro, OSh.box (53 : Nat) [Sh.int .i64, Sh.int .i64, Sh.snap (0 : Nat) (Ty.pair (Ty.int .i64) (Ty.int .i64))], OSh.box (63 : Nat) [Sh.int .i64, Sh.int .i64, Sh.int .i64], OSh.box (53 : Nat) [Sh.int .i64, Sh.int .i64, Sh.sl (4 : Nat)], OSh.row true (79 : Nat) (Ty.pair (Ty.int .i64) (Ty.int .i64)), OSh.box (53 : Nat) [Sh.int .i64, Sh.int .i64, Sh.sl (6 : Nat)], OSh.row true (79 : Nat) (Ty.pair (Ty.int .i64) (Ty.int .i64))] [((1 : Nat), TSh.at (Sh.snap (0 : Nat) (Ty.int .i64))), ((2 : Nat), TSh.at (Sh.snap (0 : Nat) (Ty.pair (Ty.int .i64) (Ty.pair (Ty.int .i64) (Ty.int .i64))))), ((3 : Nat), TSh.at (Sh.int .i64)), ((4 : Nat), TSh.at (Sh.ptr (1 : Nat) (0 : Nat))), ((8 : Nat), TSh.at (Sh.ptr (2 : Nat) (0 : Nat))), ((9 : Nat), TSh.at (Sh.ptr (3 : Nat) (0 : Nat))), ((10 : Nat), TSh.at (Sh.ptr (5 : Nat) (0 : Nat))), ((11 : Nat), TSh.at (Sh.int .i64)), ((12 : Nat), TSh.at (Sh.int .i64))]
noncomputable def Zzl : Spec := Spec.mk [OSh.ro, OSh.box (53 : Nat) [Sh.int .i64, Sh.int .i64, Sh.snap (0 : Nat) (Ty.pair (Ty.int .i64) (Ty.int .i64))], OSh.box (63 : Nat) [Sh.int .i64, Sh.int .i64, Sh.int .i64], OSh.box (53 : Nat) [Sh.int .i64, Sh.int .i64, Sh.sl (4 : Nat)], OSh.row true (79 : Nat) (Ty.pair (Ty.int .i64) (Ty.int .i64)), OSh.box (53 : Nat) [Sh.int .i64, Sh.int .i64, Sh.sl (6 : Nat)], OSh.row true (79 : Nat) (Ty.pair (Ty.int .i64) (Ty.int .i64))] [((3 : Nat), TSh.at (Sh.int .i64)), ((4 : Nat), TSh.at (Sh.ptr (1 : Nat) (0 : Nat))), ((8 : Nat), TSh.at (Sh.ptr (2 : Nat) (0 : Nat))), ((9 : Nat), TSh.at (Sh.ptr (3 : Nat) (0 : Nat))), ((10 : Nat), TSh.at (Sh.ptr (5 : Nat) (0 : Nat)))]
noncomputable def Z8n : LoopDef (Tup Z3K × OutD) := .rets Zgz Zzl (Int × Int × List (Int × Int) × Int × Int × Int × Int × Int × List (Int × Int) × Int × Int × List (Int × Int) × Int) ((Int × Int × Int) × Int × Int × List (Int × Int)) (fun k x => Z95 k x.1.2.1.1 x.1.2.1.2.1 x.1.2.1.2.2.1 x.1.2.2.1.1 x.1.2.2.1.2.1 x.1.2.2.1.2.2.1 x.1.2.2.2.1.1 x.1.2.2.2.1.2.1 x.1.2.2.2.2.1 x.1.2.2.2.2.2.1.1 x.1.2.2.2.2.2.1.2.1 x.1.2.2.2.2.2.2.1 x.2.1 x.2.2.1 x.2.2.2.1 x.2.2.2.2.2.2.2.2.1 x.2.2.2.2.2.2.2.2.2.1) (fun z => (((), (z.1, z.2.1, z.2.2.1, ()), (z.2.2.2.1, z.2.2.2.2.1, z.2.2.2.2.2.1, ()), (z.2.2.2.2.2.2.1, z.2.2.2.2.2.2.2.1, (), ()), z.2.2.2.2.2.2.2.2.1, (z.2.2.2.2.2.2.2.2.2.1, z.2.2.2.2.2.2.2.2.2.2.1, (), ()), z.2.2.2.2.2.2.2.2.2.2.2.1, ()), (z.2.2.2.2.2.2.2.2.2.2.2.2, (), (), (), (), ()))) (fun y => (y.1.2.1.1, y.1.2.1.2.1, y.1.2.1.2.2.1, y.1.2.2.1.1, y.1.2.2.1.2.1, y.1.2.2.1.2.2.1, y.1.2.2.2.1.1, y.1.2.2.2.1.2.1, y.1.2.2.2.2.1, y.1.2.2.2.2.2.1.1, y.1.2.2.2.2.2.1.2.1, y.1.2.2.2.2.2.2.1, y.2.1)) (fun _ => rfl) ZjS ZjU ZkZ
noncomputable def Z7k : Nat → Int → Int → List (Int × Int) → Int → Int → Int → Int → Int → List (Int × Int) → Int → Int → List (Int × Int) → Int → Option (Int × Int × Int × Int × Int × List (Int × Int)) := fun k b1_0 b1_1 b1_2 b2_0 b2_1 b2_2 b3_0 b3_1 o4 b5_0 b5_1 o6 v3 =>
    some ((1 : Int), b1_0, v3, b5_0, b5_1, o6)
noncomputable def ZaY : Nat → Int → Int → List (Int × Int) → Int → Int → Int → Int → Int → List (Int × Int) → Int → Int → List (Int × Int) → Int → Option (List (Int × Int × Int × Int × Int × List (Int × Int))) := fun k b1_0 b1_1 b1_2 b2_0 b2_1 b2_2 b3_0 b3_1 o4 b5_0 b5_1 o6 v3 =>
    joinL (some [((1 : Int), b1_0, v3, b5_0, b5_1, o6)]) (some [((1 : Int), b1_0, v3, b5_0, b5_1, o6)])
noncomputable def Zjh : Spec := Spec.mk [OSh.ro, OSh.box (53 : Nat) [Sh.int .i64, Sh.int .i64, Sh.snap (0 : Nat) (Ty.pair (Ty.int .i64) (Ty.int .i64))], OSh.box (63 : Nat) [Sh.int .i64, Sh.int .i64, Sh.int .i64], OSh.box (53 : Nat) [Sh.int .i64, Sh.int .i64, Sh.sl (4 : Nat)], OSh.row true (79 : Nat) (Ty.pair (Ty.int .i64) (Ty.int .i64)), OSh.box (53 : Nat) [Sh.int .i64, Sh.int .i64, Sh.sl (6 : Nat)], OSh.row true (79 : Nat) (Ty.pair (Ty.int .i64) (Ty.int .i64))] [((3 : Nat), TSh.at (Sh.int .i64)), ((4 : Nat), TSh.at (Sh.ptr (1 : Nat) (0 : Nat))), ((8 : Nat), TSh.at (Sh.ptr (2 : Nat) (0 : Nat))), ((9 : Nat), TSh.at (Sh.ptr (3 : Nat) (0 : Nat))), ((10 : Nat), TSh.at (Sh.ptr (5 : Nat) (0 : Nat)))]
noncomputable def ZwP : Spec := Spec.mk [OSh.ro, OSh.box (63 : Nat) [Sh.int .i64, Sh.int .i64, Sh.int .i64], OSh.box (53 : Nat) [Sh.int .i64, Sh.int .i64, Sh.sl (3 : Nat)], OSh.row true (79 : Nat) (Ty.pair (Ty.int .i64) (Ty.int .i64))] [((8 : Nat), TSh.at (Sh.ptr (1 : Nat) (0 : Nat))), ((9 : Nat), TSh.at (Sh.ptr (2 : Nat) (0 : Nat)))]
noncomputable def Z6g : LoopDef (Tup Z3K × OutD) := .plain Zjh ZwP (Int × Int × Int × Int × Int × List (Int × Int)) (fun k x => Z7k k x.1.2.1.1 x.1.2.1.2.1 x.1.2.1.2.2.1 x.1.2.2.1.1 x.1.2.2.1.2.1 x.1.2.2.1.2.2.1 x.1.2.2.2.1.1 x.1.2.2.2.1.2.1 x.1.2.2.2.2.1 x.1.2.2.2.2.2.1.1 x.1.2.2.2.2.2.1.2.1 x.1.2.2.2.2.2.2.1 x.2.1) (fun z => (((), (z.1, z.2.1, z.2.2.1, ()), (z.2.2.2.1, z.2.2.2.2.1, (), ()), z.2.2.2.2.2, ()), ((), (), ()))) (fun y => (y.1.2.1.1, y.1.2.1.2.1, y.1.2.1.2.2.1, y.1.2.2.1.1, y.1.2.2.1.2.1, y.1.2.2.2.1)) (fun _ => rfl)
theorem Zx9 (k : Nat) (b1_0 : Int) (b1_1 : Int) (b1_2 : List (Int × Int)) (b2_0 : Int) (b2_1 : Int) (b2_2 : Int) (b3_0 : Int) (b3_1 : Int) (o4 : List (Int × Int)) (b5_0 : Int) (b5_1 : Int) (o6 : List (Int × Int)) (v3 : Int) : ZaY k b1_0 b1_1 b1_2 b2_0 b2_1 b2_2 b3_0 b3_1 o4 b5_0 b5_1 o6 v3 = repl 2 (Z7k k b1_0 b1_1 b1_2 b2_0 b2_1 b2_2 b3_0 b3_1 o4 b5_0 b5_1 o6 v3) := by
 first
 | (simp only [ZaY, Z7k, Zc, Zf, Za, Z9, Zb, Z8, if_true]; done)
 | (simp only [ZaY, Z7k, Zc, Zf, Za, Z9, Zb, Z8, if_true]; simp only [Z4r, Z4y, Z7x, Z8]; simp only [Z9e]; exact Z5I ⟨fun h => by simp only [h, and_self], fun h => by simp only [h, and_self]⟩)
noncomputable def ZgU : Nat → Int × Int × List (Int × Int) → List Int → List (Int × Int × Int) → Int → Option ((Int × Int × Int) × Int × Int × List (Int × Int))
 | 0, _, _, _, _ => none
 | k + 1, p0, p1, p2, p3 =>
  Option.bind (Z3y k (Prod.fst p0, Prod.fst p0.2, Prod.snd p0.2)) fun z0 => Option.bind (Z95 k p0.1 p0.2.1 p0.2.2 (0 : Int) (0 : Int) (0 : Int) (0 : Int) (0 : Int) [] z0.1 z0.2.1 z0.2.2 p1 p2 p3 (0 : Int) (0 : Int)) fun z11 => LR.on z11 (fun y11 => Option.bind (Z7k k y11.1 y11.2.1 y11.2.2.1 y11.2.2.2.1 y11.2.2.2.2.1 y11.2.2.2.2.2.1 y11.2.2.2.2.2.2.1 y11.2.2.2.2.2.2.2.1 y11.2.2.2.2.2.2.2.2.1 y11.2.2.2.2.2.2.2.2.2.1 y11.2.2.2.2.2.2.2.2.2.2.1 y11.2.2.2.2.2.2.2.2.2.2.2.1 y11.2.2.2.2.2.2.2.2.2.2.2.2) fun z12 => some ((Prod.fst z12, Prod.fst z12.2, Prod.fst z12.2.2), Prod.fst z12.2.2.2, Prod.fst z12.2.2.2.2, Prod.snd z12.2.2.2.2)) fun r11 => some r11
noncomputable def Z88 : FnDef := .of Zvi Z3K ((Int × Int × Int) × Int × Int × List (Int × Int)) (fun k x => ZgU k x.1 x.2.1 x.2.2.1 x.2.2.2.1) ZjS ZjU ZkZ
noncomputable def Z4p : Code := Try.f186.body.getD .skip
noncomputable def Zi : Ctx (Tup Z3K × OutD) := { T := T, G := [(184, Z3D.E), (183, Z55.E), (210, Z85.E), (211, Z4u.E), (212, Z4w.E), (96, Z2s.E)], mvs := [], no := 0, n := 111, res := resOf T Zvi Z3K Try.f186.results.toList, loops := [(2, Z8g.E), (0, Z8n.E)], regs := [(9, Z7l.E), (11, Z6s.E), (26, Z6e.E), (27, Z6g.E)], conds := [(52, Z1x.E)] }
theorem Z89 (k : Nat) : EnvOK Try.prog k Zi.G := (EnvOK.cons (Zfb k) (EnvOK.cons (Zm5 k) (EnvOK.cons (ZCA k) (EnvOK.cons (Zpf k) (EnvOK.cons (ZpK k) (EnvOK.cons (Z9T k) (EnvOK.nil mixed)))))))
noncomputable def ZeK : Array Oper := (findReg 9 Z4p).getD #[]
theorem Zyz (k : Nat) (x : ZkL.D) : execD Zi.T Zi.G Zi.mvs k ZeK (Z7l.inp.st Zi.n x) (outK Zi Z7l) = ZbX k x.1.2.1.1 x.1.2.1.2.1 x.1.2.1.2.2.1 x.1.2.2.1.1 x.1.2.2.1.2.1 x.1.2.2.2.1 x.1.2.2.2.2.1.1 x.1.2.2.2.2.1.2.1 x.1.2.2.2.2.2.1 x.2.1 x.2.2.2.2.2.1 := by kernel_rfl
theorem Zwb (k : Nat) : EOK Try.prog Zi k Z7l.E (.region 9 ZeK true) := Zan (D := Z7l) (m := 2) T_ok (Z89 k) (fun x => (Zyz k x).trans (Zyb k x.1.2.1.1 x.1.2.1.2.1 x.1.2.1.2.2.1 x.1.2.2.1.1 x.1.2.2.1.2.1 x.1.2.2.2.1 x.1.2.2.2.2.1.1 x.1.2.2.2.2.1.2.1 x.1.2.2.2.2.2.1 x.2.1 x.2.2.2.2.2.1))
noncomputable def Ze7 : Array Oper := (findReg 11 Z4p).getD #[]
theorem ZwZ (k : Nat) (x : Zkb.D) : execD Zi.T Zi.G Zi.mvs k Ze7 (Z6s.inp.st Zi.n x) (outK Zi Z6s) = Zbe k x.1.2.1.1 x.1.2.1.2.1 x.1.2.1.2.2.1 x.1.2.2.1.1 x.1.2.2.1.2.1 x.1.2.2.2.1 x.1.2.2.2.2.1.1 x.1.2.2.2.2.1.2.1 x.1.2.2.2.2.2.1 x.2.1 x.2.2.2.2.2.1 := by kernel_rfl
theorem ZuU (k : Nat) : EOK Try.prog Zi k Z6s.E (.region 11 Ze7 true) := Zan (D := Z6s) (m := 2) T_ok (Z89 k) (fun x => (ZwZ k x).trans (Zw6 k x.1.2.1.1 x.1.2.1.2.1 x.1.2.1.2.2.1 x.1.2.2.1.1 x.1.2.2.1.2.1 x.1.2.2.2.1 x.1.2.2.2.2.1.1 x.1.2.2.2.2.1.2.1 x.1.2.2.2.2.2.1 x.2.1 x.2.2.2.2.2.1))
noncomputable def Zei : Array Oper := (findReg 26 Z4p).getD #[]
theorem Zw5 (k : Nat) (x : Zk0.D) : execD Zi.T Zi.G Zi.mvs k Zei (Z6e.inp.st Zi.n x) (outK Zi Z6e) = Zb7 k x.1.2.1.1 x.1.2.1.2.1 x.1.2.1.2.2.1 x.1.2.2.1.1 x.1.2.2.1.2.1 x.1.2.2.2.1 x.1.2.2.2.2.1.1 x.1.2.2.2.2.1.2.1 x.1.2.2.2.2.2.1 x.2.1 x.2.2.2.2.2.1 := by kernel_rfl
theorem Zuv (k : Nat) : EOK Try.prog Zi k Z6e.E (.region 26 Zei true) := Zan (D := Z6e) (m := 2) T_ok (Z89 k) (fun x => (Zw5 k x).trans (ZvK k x.1.2.1.1 x.1.2.1.2.1 x.1.2.1.2.2.1 x.1.2.2.1.1 x.1.2.2.1.2.1 x.1.2.2.2.1 x.1.2.2.2.2.1.1 x.1.2.2.2.2.1.2.1 x.1.2.2.2.2.2.1 x.2.1 x.2.2.2.2.2.1))
noncomputable def Zed : Array Oper := (findReg 27 Z4p).getD #[]
theorem ZwD (k : Nat) (x : Zjh.D) : execD Zi.T Zi.G Zi.mvs k Zed (Z6g.inp.st Zi.n x) (outK Zi Z6g) = ZaY k x.1.2.1.1 x.1.2.1.2.1 x.1.2.1.2.2.1 x.1.2.2.1.1 x.1.2.2.1.2.1 x.1.2.2.1.2.2.1 x.1.2.2.2.1.1 x.1.2.2.2.1.2.1 x.1.2.2.2.2.1 x.1.2.2.2.2.2.1.1 x.1.2.2.2.2.2.1.2.1 x.1.2.2.2.2.2.2.1 x.2.1 := by kernel_rfl
theorem ZuP (k : Nat) : EOK Try.prog Zi k Z6g.E (.region 27 Zed true) := Zan (D := Z6g) (m := 2) T_ok (Z89 k) (fun x => (ZwD k x).trans (Zx9 k x.1.2.1.1 x.1.2.1.2.1 x.1.2.1.2.2.1 x.1.2.2.1.1 x.1.2.2.1.2.1 x.1.2.2.1.2.2.1 x.1.2.2.2.1.1 x.1.2.2.2.1.2.1 x.1.2.2.2.2.1 x.1.2.2.2.2.2.1.1 x.1.2.2.2.2.2.1.2.1 x.1.2.2.2.2.2.2.1 x.2.1))
noncomputable def Zb4 : Code := ((findCond 52 Z4p).map (·.1)).getD .skip
noncomputable def Zbb : Code := ((findCond 52 Z4p).map (·.2)).getD .skip
theorem Zwa (k : Nat) (i : Z1x.inp.D) : Z1x.lp k i = branch (Z1x.inp.st Zi.n i) (.tmp 52) (fun st => exec Zi k Zb4 st (outK Zi Z1x) (fun _ _ => none) Z1x.mkB) (fun st => exec Zi k Zbb st (outK Zi Z1x) (fun _ _ => none) Z1x.mkB) := by kernel_rfl
theorem Zv8 (k : Nat) : EOK Try.prog Zi k Z1x.E (.cond (.tmp 52) Zb4 Zbb) := Ztv (D := Z1x) T_ok (Z89 k) (Zwa k) (@LOK.by _ _ _ _ Zb4 [] (by kernel_rfl) AllOK.nil) (@LOK.by _ _ _ _ Zbb [] (by kernel_rfl) AllOK.nil)
noncomputable def ZcY : Code := (findLoop 2 Z4p).getD .skip
theorem Zz8 (k : Nat) (x : ZgD.D) : Z8g.lp (k + 1) x = loopK Zi Z8g 2 ZcY k x := by kernel_rfl
theorem ZyC (k : Nat) : LOK Try.prog Zi k ZcY := LOK.by [] (by kernel_rfl) AllOK.nil
theorem ZyO (x : ZgD.D) : Z8g.lp 0 x = none := by kernel_rfl
theorem Zyi (k : Nat) : EOK Try.prog Zi k Z8g.E (.block 2 (.loop ZcY)) := Zp T_ok Z89 ZyO Zz8 ZyC k
noncomputable def ZcR : Code := (findLoop 0 Z4p).getD .skip
theorem ZyD (k : Nat) (x : Zgz.D) : Z8n.lp (k + 1) x = loopK Zi Z8n 0 ZcR k x := by kernel_rfl
theorem ZyJ (k : Nat) : LOK Try.prog Zi k ZcR := LOK.by [(Z7l.E, .region 9 ZeK true), (Z6s.E, .region 11 Ze7 true), (Z1x.E, .cond (.tmp 52) Zb4 Zbb), (Z8g.E, .block 2 (.loop ZcY)), (Z6e.E, .region 26 Zei true)] (by kernel_rfl) (AllOK.cons (Zwb k) (AllOK.cons (ZuU k) (AllOK.cons (Zv8 k) (AllOK.cons (Zyi k) (AllOK.cons (Zuv k) AllOK.nil)))))
theorem ZyP (x : Zgz.D) : Z8n.lp 0 x = none := by kernel_rfl
theorem Zy6 (k : Nat) : EOK Try.prog Zi k Z8n.E (.block 0 (.loop ZcR)) := Zp T_ok Z89 ZyP ZyD ZyJ k
theorem ZBU (k : Nat) (x : Tup Z88.ps) : Z88.f (k + 1) x = fnK Z88 Zi Z4p k x := by kernel_rfl
theorem ZCz (x : Tup Z88.ps) : Z88.f 0 x = none := by kernel_rfl
theorem ZC3 (k : Nat) : LOK Try.prog Zi k Z4p := LOK.by [(Z8n.E, .block 0 (.loop ZcR)), (Z6g.E, .region 27 Zed true)] (by kernel_rfl) (AllOK.cons (Zy6 k) (AllOK.cons (ZuP k) AllOK.nil))
theorem ZCt (k : Nat) : SoundAt Try.prog k 186 Z88.E := @Ze Try.prog Z88 Zi 186 Try.f186 Z4p (by kernel_rfl) (by kernel_rfl) (by kernel_rfl) Try.func186 (by kernel_rfl) (by kernel_rfl) (by kernel_rfl) T_ok Z89 ZC3 ZCz ZBU k
noncomputable def Z6F : List PK := [PK.mk (Ty.pair (Ty.int .i64) (Ty.pair (Ty.int .i64) (Ty.int .i64))) true none false none, PK.mk (Ty.pair (Ty.int .i64) (Ty.pair (Ty.int .i64) (Ty.slice (79 : Nat) (Ty.pair (Ty.int .i64) (Ty.int .i64))))) true none false none, PK.mk (Ty.slice (34 : Nat) (Ty.slice (3 : Nat) (Ty.int .i64))) false none false none]
noncomputable def Zvg : List PK := [PK.mk (Ty.pair (Ty.int .i64) (Ty.pair (Ty.int .i64) (Ty.slice (79 : Nat) (Ty.pair (Ty.int .i64) (Ty.int .i64))))) true none false none, PK.mk (Ty.slice (3 : Nat) (Ty.int .i64)) false none false none, PK.mk (Ty.int .i64) false none false none]
noncomputable def ZjL (r : (Int × Int × Int) × (Int × Int × List (Int × Int)) × List (List Int)) : Tup Z6F × OutD := ((r.1, r.2.1, r.2.2, ()), none)
noncomputable def Zk5 : Tup Z6F × OutD → Option ((Int × Int × Int) × (Int × Int × List (Int × Int)) × List (List Int))
 | (a, none) => some (a.1, a.2.1, a.2.2.1)
 | _ => none
theorem Zll : ∀ b r, Zk5 b = some r → ZjL r = b := by
 rintro ⟨a, o⟩ r h
 cases o with
 | none => injection h with h; subst h; rfl
 | some _ => cases h
noncomputable def Z5h : Nat → Int → Int → Int → Int → Int → List (Int × Int) → Int → Int → List (Int × Int) → List (List Int) → Int → Int → Option (Int × Int × Int × Int × Int × List (Int × Int) × List (List Int)) := fun k b1_0 b1_1 b1_2 b2_0 b2_1 o3 b4_0 b4_1 o5 o6 v2 v12 =>
    some ((2 : Int), v12, v2, b4_0, b4_1, o5, o6)
noncomputable def ZaM : Nat → Int → Int → Int → Int → Int → List (Int × Int) → Int → Int → List (Int × Int) → List (List Int) → Int → Int → Option (List (Int × Int × Int × Int × Int × List (Int × Int) × List (List Int))) := fun k b1_0 b1_1 b1_2 b2_0 b2_1 o3 b4_0 b4_1 o5 o6 v2 v12 =>
    joinL (some [((2 : Int), v12, v2, b4_0, b4_1, o5, o6)]) (some [((2 : Int), v12, v2, b4_0, b4_1, o5, o6)])
noncomputable def ZiW : Spec := Spec.mk [OSh.ro, OSh.box (63 : Nat) [Sh.int .i64, Sh.int .i64, Sh.int .i64], OSh.box (53 : Nat) [Sh.int .i64, Sh.int .i64, Sh.sl (3 : Nat)], OSh.row true (79 : Nat) (Ty.pair (Ty.int .i64) (Ty.int .i64)), OSh.box (53 : Nat) [Sh.int .i64, Sh.int .i64, Sh.sl (5 : Nat)], OSh.row true (79 : Nat) (Ty.pair (Ty.int .i64) (Ty.int .i64)), OSh.row true (34 : Nat) (Ty.slice (3 : Nat) (Ty.int .i64))] [((2 : Nat), TSh.at (Sh.int .i64)), ((6 : Nat), TSh.at (Sh.ptr (1 : Nat) (0 : Nat))), ((7 : Nat), TSh.at (Sh.ptr (2 : Nat) (0 : Nat))), ((9 : Nat), TSh.at (Sh.ptr (4 : Nat) (0 : Nat))), ((10 : Nat), TSh.at (Sh.sl (6 : Nat))), ((12 : Nat), TSh.at (Sh.int .i64))]
noncomputable def Zw0 : Spec := Spec.mk [OSh.ro, OSh.box (63 : Nat) [Sh.int .i64, Sh.int .i64, Sh.int .i64], OSh.box (53 : Nat) [Sh.int .i64, Sh.int .i64, Sh.sl (3 : Nat)], OSh.row true (79 : Nat) (Ty.pair (Ty.int .i64) (Ty.int .i64)), OSh.row true (34 : Nat) (Ty.slice (3 : Nat) (Ty.int .i64))] [((6 : Nat), TSh.at (Sh.ptr (1 : Nat) (0 : Nat))), ((7 : Nat), TSh.at (Sh.ptr (2 : Nat) (0 : Nat))), ((8 : Nat), TSh.at (Sh.sl (4 : Nat)))]
noncomputable def Z6p : LoopDef (Tup Z6F × OutD) := .plain ZiW Zw0 (Int × Int × Int × Int × Int × List (Int × Int) × List (List Int)) (fun k x => Z5h k x.1.2.1.1 x.1.2.1.2.1 x.1.2.1.2.2.1 x.1.2.2.1.1 x.1.2.2.1.2.1 x.1.2.2.2.1 x.1.2.2.2.2.1.1 x.1.2.2.2.2.1.2.1 x.1.2.2.2.2.2.1 x.1.2.2.2.2.2.2.1 x.2.1 x.2.2.2.2.2.2.1) (fun z => (((), (z.1, z.2.1, z.2.2.1, ()), (z.2.2.2.1, z.2.2.2.2.1, (), ()), z.2.2.2.2.2.1, z.2.2.2.2.2.2, ()), ((), (), (), ()))) (fun y => (y.1.2.1.1, y.1.2.1.2.1, y.1.2.1.2.2.1, y.1.2.2.1.1, y.1.2.2.1.2.1, y.1.2.2.2.1, y.1.2.2.2.2.1)) (fun _ => rfl)
theorem ZwQ (k : Nat) (b1_0 : Int) (b1_1 : Int) (b1_2 : Int) (b2_0 : Int) (b2_1 : Int) (o3 : List (Int × Int)) (b4_0 : Int) (b4_1 : Int) (o5 : List (Int × Int)) (o6 : List (List Int)) (v2 : Int) (v12 : Int) : ZaM k b1_0 b1_1 b1_2 b2_0 b2_1 o3 b4_0 b4_1 o5 o6 v2 v12 = repl 2 (Z5h k b1_0 b1_1 b1_2 b2_0 b2_1 o3 b4_0 b4_1 o5 o6 v2 v12) := by
 first
 | (simp only [ZaM, Z5h, Zc, Zf, Za, Z9, Zb, Z8, if_true]; done)
 | (simp only [ZaM, Z5h, Zc, Zf, Za, Z9, Zb, Z8, if_true]; simp only [Z4r, Z4y, Z7x, Z8]; simp only [Z9e]; exact Z5I ⟨fun h => by simp only [h, and_self], fun h => by simp only [h, and_self]⟩)
noncomputable def Z5l : Nat → Int → Int → Int → Int → Int → List (Int × Int) → Int → Int → List (Int × Int) → List (List Int) → Int → Int → Option (Int × Int × Int × Int × Int × List (Int × Int) × List (List Int)) := fun k b1_0 b1_1 b1_2 b2_0 b2_1 o3 b4_0 b4_1 o5 o6 v2 v12 =>
    some ((3 : Int), v12, v2, b4_0, b4_1, o5, o6)
noncomputable def ZaX : Nat → Int → Int → Int → Int → Int → List (Int × Int) → Int → Int → List (Int × Int) → List (List Int) → Int → Int → Option (List (Int × Int × Int × Int × Int × List (Int × Int) × List (List Int))) := fun k b1_0 b1_1 b1_2 b2_0 b2_1 o3 b4_0 b4_1 o5 o6 v2 v12 =>
    joinL (some [((3 : Int), v12, v2, b4_0, b4_1, o5, o6)]) (some [((3 : Int), v12, v2, b4_0, b4_1, o5, o6)])
noncomputable def Zjj : Spec := Spec.mk [OSh.ro, OSh.box (63 : Nat) [Sh.int .i64, Sh.int .i64, Sh.int .i64], OSh.box (53 : Nat) [Sh.int .i64, Sh.int .i64, Sh.sl (3 : Nat)], OSh.row true (79 : Nat) (Ty.pair (Ty.int .i64) (Ty.int .i64)), OSh.box (53 : Nat) [Sh.int .i64, Sh.int .i64, Sh.sl (5 : Nat)], OSh.row true (79 : Nat) (Ty.pair (Ty.int .i64) (Ty.int .i64)), OSh.row true (34 : Nat) (Ty.slice (3 : Nat) (Ty.int .i64))] [((2 : Nat), TSh.at (Sh.int .i64)), ((6 : Nat), TSh.at (Sh.ptr (1 : Nat) (0 : Nat))), ((7 : Nat), TSh.at (Sh.ptr (2 : Nat) (0 : Nat))), ((9 : Nat), TSh.at (Sh.ptr (4 : Nat) (0 : Nat))), ((10 : Nat), TSh.at (Sh.sl (6 : Nat))), ((12 : Nat), TSh.at (Sh.int .i64))]
noncomputable def Zvz : Spec := Spec.mk [OSh.ro, OSh.box (63 : Nat) [Sh.int .i64, Sh.int .i64, Sh.int .i64], OSh.box (53 : Nat) [Sh.int .i64, Sh.int .i64, Sh.sl (3 : Nat)], OSh.row true (79 : Nat) (Ty.pair (Ty.int .i64) (Ty.int .i64)), OSh.row true (34 : Nat) (Ty.slice (3 : Nat) (Ty.int .i64))] [((6 : Nat), TSh.at (Sh.ptr (1 : Nat) (0 : Nat))), ((7 : Nat), TSh.at (Sh.ptr (2 : Nat) (0 : Nat))), ((8 : Nat), TSh.at (Sh.sl (4 : Nat)))]
noncomputable def Z6b : LoopDef (Tup Z6F × OutD) := .plain Zjj Zvz (Int × Int × Int × Int × Int × List (Int × Int) × List (List Int)) (fun k x => Z5l k x.1.2.1.1 x.1.2.1.2.1 x.1.2.1.2.2.1 x.1.2.2.1.1 x.1.2.2.1.2.1 x.1.2.2.2.1 x.1.2.2.2.2.1.1 x.1.2.2.2.2.1.2.1 x.1.2.2.2.2.2.1 x.1.2.2.2.2.2.2.1 x.2.1 x.2.2.2.2.2.2.1) (fun z => (((), (z.1, z.2.1, z.2.2.1, ()), (z.2.2.2.1, z.2.2.2.2.1, (), ()), z.2.2.2.2.2.1, z.2.2.2.2.2.2, ()), ((), (), (), ()))) (fun y => (y.1.2.1.1, y.1.2.1.2.1, y.1.2.1.2.2.1, y.1.2.2.1.1, y.1.2.2.1.2.1, y.1.2.2.2.1, y.1.2.2.2.2.1)) (fun _ => rfl)
theorem Zw2 (k : Nat) (b1_0 : Int) (b1_1 : Int) (b1_2 : Int) (b2_0 : Int) (b2_1 : Int) (o3 : List (Int × Int)) (b4_0 : Int) (b4_1 : Int) (o5 : List (Int × Int)) (o6 : List (List Int)) (v2 : Int) (v12 : Int) : ZaX k b1_0 b1_1 b1_2 b2_0 b2_1 o3 b4_0 b4_1 o5 o6 v2 v12 = repl 2 (Z5l k b1_0 b1_1 b1_2 b2_0 b2_1 o3 b4_0 b4_1 o5 o6 v2 v12) := by
 first
 | (simp only [ZaX, Z5l, Zc, Zf, Za, Z9, Zb, Z8, if_true]; done)
 | (simp only [ZaX, Z5l, Zc, Zf, Za, Z9, Zb, Z8, if_true]; simp only [Z4r, Z4y, Z7x, Z8]; simp only [Z9e]; exact Z5I ⟨fun h => by simp only [h, and_self], fun h => by simp only [h, and_self]⟩)
noncomputable def Z5E : Nat → Int → Int → List (Int × Int) → Int → Int → Int → Int → Int → List (Int × Int) → Int → Int → List (Int × Int) → List (List Int) → List Int → Int → Int → Int → Option (LR (Int × Int × List (Int × Int) × Int × Int × Int × Int × Int × List (Int × Int) × Int × Int × List (Int × Int) × List (List Int) × Int) ((Int × Int × Int) × (Int × Int × List (Int × Int)) × List (List Int)))
 | 0, _, _, _, _, _, _, _, _, _, _, _, _, _, _, _, _, _ => none
 | k + 1, b1_0, b1_1, b1_2, b2_0, b2_1, b2_2, b3_0, b3_1, o4, b5_0, b5_1, o6, o7, v1, v2, v11, v12 =>
  if decide (v12 < b1_0) = true then if List.length o7 + List.length [[v12, v2]] ≤ (140737488355328 / 24 : Nat) then Option.bind (Z87 k (b5_0, b5_1, o6) v12 v2) fun z1 => if decide (Prod.fst z1 = (5 : Int)) = true then Option.bind (Z5h k b2_0 b2_1 b2_2 b3_0 b3_1 o4 b5_0 b5_1 o6 (o7 ++ [[v12, v2]]) v2 v12) fun z2 => some (LR.ret ((Prod.fst z2, Prod.fst z2.2, Prod.fst z2.2.2), (Prod.fst z2.2.2.2, Prod.fst z2.2.2.2.2, Prod.fst z2.2.2.2.2.2), Prod.snd z2.2.2.2.2.2)) else Option.bind (Z9c k (Prod.fst z1, Prod.snd z1) v11) fun z3 => Option.bind (Z99 k (b5_0, b5_1, o6) v1 (wrap64 (wrap64 (v12 * b1_1) + v2))) fun z4 => Option.bind (Z21 k (wrap64 (v2 + z3)) (0 : Int) (wrap64 (b1_1 - (1 : Int)))) fun z5 => if (!z5) = true then Option.bind (Z5l k b2_0 b2_1 b2_2 b3_0 b3_1 o4 b5_0 b5_1 z4 (o7 ++ [[v12, v2]]) (wrap64 (v2 + z3)) v12) fun z6 => some (LR.ret ((Prod.fst z6, Prod.fst z6.2, Prod.fst z6.2.2), (Prod.fst z6.2.2.2, Prod.fst z6.2.2.2.2, Prod.fst z6.2.2.2.2.2), Prod.snd z6.2.2.2.2.2)) else Z5E k b1_0 b1_1 b1_2 b2_0 b2_1 b2_2 b3_0 b3_1 o4 b5_0 b5_1 z4 (o7 ++ [[v12, v2]]) v1 (wrap64 (v2 + z3)) (wrap64 ((0 : Int) - z3)) (wrap64 (v12 + (1 : Int))) else none else some (LR.go (b1_0, b1_1, b1_2, b2_0, b2_1, b2_2, b3_0, b3_1, o4, b5_0, b5_1, o6, o7, v2))
noncomputable def ZgG : Spec := Spec.mk [OSh.ro, OSh.box (53 : Nat) [Sh.int .i64, Sh.int .i64, Sh.snap (0 : Nat) (Ty.pair (Ty.int .i64) (Ty.int .i64))], OSh.box (63 : Nat) [Sh.int .i64, Sh.int .i64, Sh.int .i64], OSh.box (53 : Nat) [Sh.int .i64, Sh.int .i64, Sh.sl (4 : Nat)], OSh.row true (79 : Nat) (Ty.pair (Ty.int .i64) (Ty.int .i64)), OSh.box (53 : Nat) [Sh.int .i64, Sh.int .i64, Sh.sl (6 : Nat)], OSh.row true (79 : Nat) (Ty.pair (Ty.int .i64) (Ty.int .i64)), OSh.row true (34 : Nat) (Ty.slice (3 : Nat) (Ty.int .i64))] [((1 : Nat), TSh.at (Sh.snap (0 : Nat) (Ty.int .i64))), ((2 : Nat), TSh.at (Sh.int .i64)), ((3 : Nat), TSh.at (Sh.ptr (1 : Nat) (0 : Nat))), ((6 : Nat), TSh.at (Sh.ptr (2 : Nat) (0 : Nat))), ((7 : Nat), TSh.at (Sh.ptr (3 : Nat) (0 : Nat))), ((9 : Nat), TSh.at (Sh.ptr (5 : Nat) (0 : Nat))), ((10 : Nat), TSh.at (Sh.sl (7 : Nat))), ((11 : Nat), TSh.at (Sh.int .i64)), ((12 : Nat), TSh.at (Sh.int .i64))]
noncomputable def ZyG : Spec := Spec.mk [OSh.ro, OSh.box (53 : Nat) [Sh.int .i64, Sh.int .i64, Sh.snap (0 : Nat) (Ty.pair (Ty.int .i64) (Ty.int .i64))], OSh.box (63 : Nat) [Sh.int .i64, Sh.int .i64, Sh.int .i64], OSh.box (53 : Nat) [Sh.int .i64, Sh.int .i64, Sh.sl (4 : Nat)], OSh.row true (79 : Nat) (Ty.pair (Ty.int .i64) (Ty.int .i64)), OSh.box (53 : Nat) [Sh.int .i64, Sh.int .i64, Sh.sl (6 : Nat)], OSh.row true (79 : Nat) (Ty.pair (Ty.int .i64) (Ty.int .i64)), OSh.row true (34 : Nat) (Ty.slice (3 : Nat) (Ty.int .i64))] [((2 : Nat), TSh.at (Sh.int .i64)), ((3 : Nat), TSh.at (Sh.ptr (1 : Nat) (0 : Nat))), ((6 : Nat), TSh.at (Sh.ptr (2 : Nat) (0 : Nat))), ((7 : Nat), TSh.at (Sh.ptr (3 : Nat) (0 : Nat))), ((9 : Nat), TSh.at (Sh.ptr (5 : Nat) (0 : Nat))), ((10 : Nat), TSh.at (Sh.sl (7 : Nat)))]
noncomputable def Z8f : LoopDef (Tup Z6F × OutD) := .rets ZgG ZyG (Int × Int × List (Int × Int) × Int × Int × Int × Int × Int × List (Int × Int) × Int × Int × List (Int × Int) × List (List Int) × Int) ((Int × Int × Int) × (Int × Int × List (Int × Int)) × List (List Int)) (fun k x => Z5E k x.1.2.1.1 x.1.2.1.2.1 x.1.2.1.2.2.1 x.1.2.2.1.1 x.1.2.2.1.2.1 x.1.2.2.1.2.2.1 x.1.2.2.2.1.1 x.1.2.2.2.1.2.1 x.1.2.2.2.2.1 x.1.2.2.2.2.2.1.1 x.1.2.2.2.2.2.1.2.1 x.1.2.2.2.2.2.2.1 x.1.2.2.2.2.2.2.2.1 x.2.1 x.2.2.1 x.2.2.2.2.2.2.2.2.1 x.2.2.2.2.2.2.2.2.2.1) (fun z => (((), (z.1, z.2.1, z.2.2.1, ()), (z.2.2.2.1, z.2.2.2.2.1, z.2.2.2.2.2.1, ()), (z.2.2.2.2.2.2.1, z.2.2.2.2.2.2.2.1, (), ()), z.2.2.2.2.2.2.2.2.1, (z.2.2.2.2.2.2.2.2.2.1, z.2.2.2.2.2.2.2.2.2.2.1, (), ()), z.2.2.2.2.2.2.2.2.2.2.2.1, z.2.2.2.2.2.2.2.2.2.2.2.2.1, ()), (z.2.2.2.2.2.2.2.2.2.2.2.2.2, (), (), (), (), (), ()))) (fun y => (y.1.2.1.1, y.1.2.1.2.1, y.1.2.1.2.2.1, y.1.2.2.1.1, y.1.2.2.1.2.1, y.1.2.2.1.2.2.1, y.1.2.2.2.1.1, y.1.2.2.2.1.2.1, y.1.2.2.2.2.1, y.1.2.2.2.2.2.1.1, y.1.2.2.2.2.2.1.2.1, y.1.2.2.2.2.2.2.1, y.1.2.2.2.2.2.2.2.1, y.2.1)) (fun _ => rfl) ZjL Zk5 Zll
noncomputable def Z7h : Nat → Int → Int → List (Int × Int) → Int → Int → Int → Int → Int → List (Int × Int) → Int → Int → List (Int × Int) → List (List Int) → Int → Option (Int × Int × Int × Int × Int × List (Int × Int) × List (List Int)) := fun k b1_0 b1_1 b1_2 b2_0 b2_1 b2_2 b3_0 b3_1 o4 b5_0 b5_1 o6 o7 v2 =>
    some ((1 : Int), b1_0, v2, b5_0, b5_1, o6, o7)
noncomputable def Zbd : Nat → Int → Int → List (Int × Int) → Int → Int → Int → Int → Int → List (Int × Int) → Int → Int → List (Int × Int) → List (List Int) → Int → Option (List (Int × Int × Int × Int × Int × List (Int × Int) × List (List Int))) := fun k b1_0 b1_1 b1_2 b2_0 b2_1 b2_2 b3_0 b3_1 o4 b5_0 b5_1 o6 o7 v2 =>
    joinL (some [((1 : Int), b1_0, v2, b5_0, b5_1, o6, o7)]) (some [((1 : Int), b1_0, v2, b5_0, b5_1, o6, o7)])
noncomputable def ZjF : Spec := Spec.mk [OSh.ro, OSh.box (53 : Nat) [Sh.int .i64, Sh.int .i64, Sh.snap (0 : Nat) (Ty.pair (Ty.int .i64) (Ty.int .i64))], OSh.box (63 : Nat) [Sh.int .i64, Sh.int .i64, Sh.int .i64], OSh.box (53 : Nat) [Sh.int .i64, Sh.int .i64, Sh.sl (4 : Nat)], OSh.row true (79 : Nat) (Ty.pair (Ty.int .i64) (Ty.int .i64)), OSh.box (53 : Nat) [Sh.int .i64, Sh.int .i64, Sh.sl (6 : Nat)], OSh.row true (79 : Nat) (Ty.pair (Ty.int .i64) (Ty.int .i64)), OSh.row true (34 : Nat) (Ty.slice (3 : Nat) (Ty.int .i64))] [((2 : Nat), TSh.at (Sh.int .i64)), ((3 : Nat), TSh.at (Sh.ptr (1 : Nat) (0 : Nat))), ((6 : Nat), TSh.at (Sh.ptr (2 : Nat) (0 : Nat))), ((7 : Nat), TSh.at (Sh.ptr (3 : Nat) (0 : Nat))), ((9 : Nat), TSh.at (Sh.ptr (5 : Nat) (0 : Nat))), ((10 : Nat), TSh.at (Sh.sl (7 : Nat)))]
noncomputable def Zx3 : Spec := Spec.mk [OSh.ro, OSh.box (63 : Nat) [Sh.int .i64, Sh.int .i64, Sh.int .i64], OSh.box (53 : Nat) [Sh.int .i64, Sh.int .i64, Sh.sl (3 : Nat)], OSh.row true (79 : Nat) (Ty.pair (Ty.int .i64) (Ty.int .i64)), OSh.row true (34 : Nat) (Ty.slice (3 : Nat) (Ty.int .i64))] [((6 : Nat), TSh.at (Sh.ptr (1 : Nat) (0 : Nat))), ((7 : Nat), TSh.at (Sh.ptr (2 : Nat) (0 : Nat))), ((8 : Nat), TSh.at (Sh.sl (4 : Nat)))]
noncomputable def Z6k : LoopDef (Tup Z6F × OutD) := .plain ZjF Zx3 (Int × Int × Int × Int × Int × List (Int × Int) × List (List Int)) (fun k x => Z7h k x.1.2.1.1 x.1.2.1.2.1 x.1.2.1.2.2.1 x.1.2.2.1.1 x.1.2.2.1.2.1 x.1.2.2.1.2.2.1 x.1.2.2.2.1.1 x.1.2.2.2.1.2.1 x.1.2.2.2.2.1 x.1.2.2.2.2.2.1.1 x.1.2.2.2.2.2.1.2.1 x.1.2.2.2.2.2.2.1 x.1.2.2.2.2.2.2.2.1 x.2.1) (fun z => (((), (z.1, z.2.1, z.2.2.1, ()), (z.2.2.2.1, z.2.2.2.2.1, (), ()), z.2.2.2.2.2.1, z.2.2.2.2.2.2, ()), ((), (), (), ()))) (fun y => (y.1.2.1.1, y.1.2.1.2.1, y.1.2.1.2.2.1, y.1.2.2.1.1, y.1.2.2.1.2.1, y.1.2.2.2.1, y.1.2.2.2.2.1)) (fun _ => rfl)
theorem ZwN (k : Nat) (b1_0 : Int) (b1_1 : Int) (b1_2 : List (Int × Int)) (b2_0 : Int) (b2_1 : Int) (b2_2 : Int) (b3_0 : Int) (b3_1 : Int) (o4 : List (Int × Int)) (b5_0 : Int) (b5_1 : Int) (o6 : List (Int × Int)) (o7 : List (List Int)) (v2 : Int) : Zbd k b1_0 b1_1 b1_2 b2_0 b2_1 b2_2 b3_0 b3_1 o4 b5_0 b5_1 o6 o7 v2 = repl 2 (Z7h k b1_0 b1_1 b1_2 b2_0 b2_1 b2_2 b3_0 b3_1 o4 b5_0 b5_1 o6 o7 v2) := by
 first
 | (simp only [Zbd, Z7h, Zc, Zf, Za, Z9, Zb, Z8, if_true]; done)
 | (simp only [Zbd, Z7h, Zc, Zf, Za, Z9, Zb, Z8, if_true]; simp only [Z4r, Z4y, Z7x, Z8]; simp only [Z9e]; exact Z5I ⟨fun h => by simp only [h, and_self], fun h => by simp only [h, and_self]⟩)
noncomputable def ZgM : Nat → Int × Int × List (Int × Int) → List Int → Int → Option ((Int × Int × Int) × (Int × Int × List (Int × Int)) × List (List Int))
 | 0, _, _, _ => none
 | k + 1, p0, p1, p2 =>
  Option.bind (Z3y k (Prod.fst p0, Prod.fst p0.2, Prod.snd p0.2)) fun z0 => Option.bind (Z5E k p0.1 p0.2.1 p0.2.2 (0 : Int) (0 : Int) (0 : Int) (0 : Int) (0 : Int) [] z0.1 z0.2.1 z0.2.2 [] p1 p2 (0 : Int) (0 : Int)) fun z7 => LR.on z7 (fun y7 => Option.bind (Z7h k y7.1 y7.2.1 y7.2.2.1 y7.2.2.2.1 y7.2.2.2.2.1 y7.2.2.2.2.2.1 y7.2.2.2.2.2.2.1 y7.2.2.2.2.2.2.2.1 y7.2.2.2.2.2.2.2.2.1 y7.2.2.2.2.2.2.2.2.2.1 y7.2.2.2.2.2.2.2.2.2.2.1 y7.2.2.2.2.2.2.2.2.2.2.2.1 y7.2.2.2.2.2.2.2.2.2.2.2.2.1 y7.2.2.2.2.2.2.2.2.2.2.2.2.2) fun z8 => some ((Prod.fst z8, Prod.fst z8.2, Prod.fst z8.2.2), (Prod.fst z8.2.2.2, Prod.fst z8.2.2.2.2, Prod.fst z8.2.2.2.2.2), Prod.snd z8.2.2.2.2.2)) fun r7 => some r7
noncomputable def Z8b : FnDef := .of Zvg Z6F ((Int × Int × Int) × (Int × Int × List (Int × Int)) × List (List Int)) (fun k x => ZgM k x.1 x.2.1 x.2.2.1) ZjL Zk5 Zll
noncomputable def Z9V : Code := Try.f194.body.getD .skip
noncomputable def ZE : Ctx (Tup Z6F × OutD) := { T := T, G := [(184, Z3D.E), (183, Z55.E), (211, Z4u.E), (212, Z4w.E), (96, Z2s.E)], mvs := [], no := 0, n := 75, res := resOf T Zvg Z6F Try.f194.results.toList, loops := [(0, Z8f.E)], regs := [(10, Z6p.E), (16, Z6b.E), (17, Z6k.E)], conds := [] }
theorem Zdy (k : Nat) : EnvOK Try.prog k ZE.G := (EnvOK.cons (Zfb k) (EnvOK.cons (Zm5 k) (EnvOK.cons (Zpf k) (EnvOK.cons (ZpK k) (EnvOK.cons (Z9T k) (EnvOK.nil mixed))))))
noncomputable def Zee : Array Oper := (findReg 10 Z9V).getD #[]
theorem Zwc (k : Nat) (x : ZiW.D) : execD ZE.T ZE.G ZE.mvs k Zee (Z6p.inp.st ZE.n x) (outK ZE Z6p) = ZaM k x.1.2.1.1 x.1.2.1.2.1 x.1.2.1.2.2.1 x.1.2.2.1.1 x.1.2.2.1.2.1 x.1.2.2.2.1 x.1.2.2.2.2.1.1 x.1.2.2.2.2.1.2.1 x.1.2.2.2.2.2.1 x.1.2.2.2.2.2.2.1 x.2.1 x.2.2.2.2.2.2.1 := by kernel_rfl
theorem ZtJ (k : Nat) : EOK Try.prog ZE k Z6p.E (.region 10 Zee true) := Zan (D := Z6p) (m := 2) T_ok (Zdy k) (fun x => (Zwc k x).trans (ZwQ k x.1.2.1.1 x.1.2.1.2.1 x.1.2.1.2.2.1 x.1.2.2.1.1 x.1.2.2.1.2.1 x.1.2.2.2.1 x.1.2.2.2.2.1.1 x.1.2.2.2.2.1.2.1 x.1.2.2.2.2.2.1 x.1.2.2.2.2.2.2.1 x.2.1 x.2.2.2.2.2.2.1))
noncomputable def Zep : Array Oper := (findReg 16 Z9V).getD #[]
theorem Zwd (k : Nat) (x : Zjj.D) : execD ZE.T ZE.G ZE.mvs k Zep (Z6b.inp.st ZE.n x) (outK ZE Z6b) = ZaX k x.1.2.1.1 x.1.2.1.2.1 x.1.2.1.2.2.1 x.1.2.2.1.1 x.1.2.2.1.2.1 x.1.2.2.2.1 x.1.2.2.2.2.1.1 x.1.2.2.2.2.1.2.1 x.1.2.2.2.2.2.1 x.1.2.2.2.2.2.2.1 x.2.1 x.2.2.2.2.2.2.1 := by kernel_rfl
theorem ZuQ (k : Nat) : EOK Try.prog ZE k Z6b.E (.region 16 Zep true) := Zan (D := Z6b) (m := 2) T_ok (Zdy k) (fun x => (Zwd k x).trans (Zw2 k x.1.2.1.1 x.1.2.1.2.1 x.1.2.1.2.2.1 x.1.2.2.1.1 x.1.2.2.1.2.1 x.1.2.2.2.1 x.1.2.2.2.2.1.1 x.1.2.2.2.2.1.2.1 x.1.2.2.2.2.2.1 x.1.2.2.2.2.2.2.1 x.2.1 x.2.2.2.2.2.2.1))
noncomputable def Zef : Array Oper := (findReg 17 Z9V).getD #[]
theorem Zwp (k : Nat) (x : ZjF.D) : execD ZE.T ZE.G ZE.mvs k Zef (Z6k.inp.st ZE.n x) (outK ZE Z6k) = Zbd k x.1.2.1.1 x.1.2.1.2.1 x.1.2.1.2.2.1 x.1.2.2.1.1 x.1.2.2.1.2.1 x.1.2.2.1.2.2.1 x.1.2.2.2.1.1 x.1.2.2.2.1.2.1 x.1.2.2.2.2.1 x.1.2.2.2.2.2.1.1 x.1.2.2.2.2.2.1.2.1 x.1.2.2.2.2.2.2.1 x.1.2.2.2.2.2.2.2.1 x.2.1 := by kernel_rfl
theorem ZtQ (k : Nat) : EOK Try.prog ZE k Z6k.E (.region 17 Zef true) := Zan (D := Z6k) (m := 2) T_ok (Zdy k) (fun x => (Zwp k x).trans (ZwN k x.1.2.1.1 x.1.2.1.2.1 x.1.2.1.2.2.1 x.1.2.2.1.1 x.1.2.2.1.2.1 x.1.2.2.1.2.2.1 x.1.2.2.2.1.1 x.1.2.2.2.1.2.1 x.1.2.2.2.2.1 x.1.2.2.2.2.2.1.1 x.1.2.2.2.2.2.1.2.1 x.1.2.2.2.2.2.2.1 x.1.2.2.2.2.2.2.2.1 x.2.1))
noncomputable def ZcN : Code := (findLoop 0 Z9V).getD .skip
theorem Zzn (k : Nat) (x : ZgG.D) : Z8f.lp (k + 1) x = loopK ZE Z8f 0 ZcN k x := by kernel_rfl
theorem ZyN (k : Nat) : LOK Try.prog ZE k ZcN := LOK.by [(Z6p.E, .region 10 Zee true), (Z6b.E, .region 16 Zep true)] (by kernel_rfl) (AllOK.cons (ZtJ k) (AllOK.cons (ZuQ k) AllOK.nil))
theorem Zz0 (x : ZgG.D) : Z8f.lp 0 x = none := by kernel_rfl
theorem Zyv (k : Nat) : EOK Try.prog ZE k Z8f.E (.block 0 (.loop ZcN)) := Zp T_ok Zdy Zz0 Zzn ZyN k
theorem ZC8 (k : Nat) (x : Tup Z8b.ps) : Z8b.f (k + 1) x = fnK Z8b ZE Z9V k x := by kernel_rfl
theorem ZCi (x : Tup Z8b.ps) : Z8b.f 0 x = none := by kernel_rfl
theorem ZCr (k : Nat) : LOK Try.prog ZE k Z9V := LOK.by [(Z8f.E, .block 0 (.loop ZcN)), (Z6k.E, .region 17 Zef true)] (by kernel_rfl) (AllOK.cons (Zyv k) (AllOK.cons (ZtQ k) AllOK.nil))
theorem ZCD (k : Nat) : SoundAt Try.prog k 194 Z8b.E := @Ze Try.prog Z8b ZE 194 Try.f194 Z9V (by kernel_rfl) (by kernel_rfl) (by kernel_rfl) Try.func194 (by kernel_rfl) (by kernel_rfl) (by kernel_rfl) T_ok Zdy ZCr ZCi ZC8 k
noncomputable def ZbF : List PK := [PK.mk (Ty.pair (Ty.int .i64) (Ty.pair (Ty.int .i64) (Ty.int .i64))) true none false none, PK.mk (Ty.slice (3 : Nat) (Ty.int .i64)) false none false none]
noncomputable def Zvl : List PK := [PK.mk (Ty.pair (Ty.int .i64) (Ty.pair (Ty.int .i64) (Ty.slice (79 : Nat) (Ty.pair (Ty.int .i64) (Ty.int .i64))))) true (some ((2 : Nat), (79 : Nat), Ty.pair (Ty.int .i64) (Ty.int .i64))) false none, PK.mk (Ty.slice (3 : Nat) (Ty.int .i64)) false none false none, PK.mk (Ty.int .i64) false none false none]
noncomputable def ZiY (r : (Int × Int × Int) × List Int × List (Int × Int)) : Tup ZbF × OutD := ((r.1, r.2.1, ()), some ⟨Ty.pair (Ty.int .i64) (Ty.int .i64), r.2.2⟩)
noncomputable def Zf3 : Tup ZbF × OutD → Option ((Int × Int × Int) × List Int × List (Int × Int))
 | (a, some ⟨u, ys⟩) => if h : u = Ty.pair (Ty.int .i64) (Ty.int .i64) then some (a.1, a.2.1, castU h ys) else none
 | _ => none
theorem Zlf : ∀ b r, Zf3 b = some r → ZiY r = b := by
 rintro ⟨a, o⟩ r h
 cases o with
 | none => cases h
 | some s =>
  obtain ⟨u, ys⟩ := s
  simp only [Zf3] at h
  split at h
  ·rename_i hu; subst hu; injection h with h; subst h; rfl
  ·cases h
noncomputable def Z2L : Nat → List (Int × Int) → Int → Int → Int → Int → Int → List Int → List Int → Int → Int → Int → Option (LR (List (Int × Int) × Int × Int × Int × Int × Int × List Int × Int) ((Int × Int × Int) × List Int × List (Int × Int)))
 | 0, _, _, _, _, _, _, _, _, _, _, _ => none
 | k + 1, o1, b2_0, b2_1, b3_0, b3_1, b3_2, o4, v1, v2, v9, v10 =>
  if decide (v10 < b2_0) = true then if List.length o4 + List.length [wrap64 (wrap64 (v10 * b2_1) + v2)] ≤ (140737488355328 / 8 : Nat) then if (0 : Int) ≤ wrap64 (wrap64 (v10 * b2_1) + v2) then if wrap64 (wrap64 (v10 * b2_1) + v2) < (↑(List.length o1) : Int) then Option.bind (Zbv k (Prod.fst (List.getD o1 (Int.toNat (wrap64 (wrap64 (v10 * b2_1) + v2))) ((0 : Int), (0 : Int))), Prod.snd (List.getD o1 (Int.toNat (wrap64 (wrap64 (v10 * b2_1) + v2))) ((0 : Int), (0 : Int)))) v9) fun z0 => if (!Prod.snd z0) = true then some (LR.ret (((2 : Int), v10, v2), o4 ++ [wrap64 (wrap64 (v10 * b2_1) + v2)], o1)) else if decide (Prod.fst (List.getD o1 (Int.toNat (wrap64 (wrap64 (v10 * b2_1) + v2))) ((0 : Int), (0 : Int))) = (3 : Int)) = true then if (0 : Int) ≤ wrap64 (wrap64 (v10 * b2_1) + v2) then if wrap64 (wrap64 (v10 * b2_1) + v2) < (↑(List.length o1) : Int) then if decide (Prod.fst (List.getD o1 (Int.toNat (wrap64 (wrap64 (v10 * b2_1) + v2))) ((0 : Int), (0 : Int))) = (6 : Int)) = true then Option.bind (Z8q k (b2_0, b2_1, List.set o1 (Int.toNat (wrap64 (wrap64 (v10 * b2_1) + v2))) (Prod.fst (List.getD o1 (Int.toNat (wrap64 (wrap64 (v10 * b2_1) + v2))) ((0 : Int), (0 : Int))), wrap64 ((1 : Int) - Prod.snd (List.getD o1 (Int.toNat (wrap64 (wrap64 (v10 * b2_1) + v2))) ((0 : Int), (0 : Int)))))) v1 (wrap64 (wrap64 (v10 * b2_1) + v2))) fun z1 => if decide (wrap64 (v2 + Prod.fst z0) < (0 : Int)) = true then some (LR.ret (((3 : Int), v10, wrap64 (v2 + Prod.fst z0)), o4 ++ [wrap64 (wrap64 (v10 * b2_1) + v2)], z1)) else if decide (wrap64 (v2 + Prod.fst z0) ≥ b2_1) = true then some (LR.ret (((3 : Int), v10, wrap64 (v2 + Prod.fst z0)), o4 ++ [wrap64 (wrap64 (v10 * b2_1) + v2)], z1)) else Z2L k z1 b2_0 b2_1 b3_0 b3_1 b3_2 (o4 ++ [wrap64 (wrap64 (v10 * b2_1) + v2)]) v1 (wrap64 (v2 + Prod.fst z0)) (wrap64 ((0 : Int) - Prod.fst z0)) (wrap64 (v10 + (1 : Int))) else if decide (wrap64 (v2 + Prod.fst z0) < (0 : Int)) = true then some (LR.ret (((3 : Int), v10, wrap64 (v2 + Prod.fst z0)), o4 ++ [wrap64 (wrap64 (v10 * b2_1) + v2)], List.set o1 (Int.toNat (wrap64 (wrap64 (v10 * b2_1) + v2))) (Prod.fst (List.getD o1 (Int.toNat (wrap64 (wrap64 (v10 * b2_1) + v2))) ((0 : Int), (0 : Int))), wrap64 ((1 : Int) - Prod.snd (List.getD o1 (Int.toNat (wrap64 (wrap64 (v10 * b2_1) + v2))) ((0 : Int), (0 : Int))))))) else if decide (wrap64 (v2 + Prod.fst z0) ≥ b2_1) = true then some (LR.ret (((3 : Int), v10, wrap64 (v2 + Prod.fst z0)), o4 ++ [wrap64 (wrap64 (v10 * b2_1) + v2)], List.set o1 (Int.toNat (wrap64 (wrap64 (v10 * b2_1) + v2))) (Prod.fst (List.getD o1 (Int.toNat (wrap64 (wrap64 (v10 * b2_1) + v2))) ((0 : Int), (0 : Int))), wrap64 ((1 : Int) - Prod.snd (List.getD o1 (Int.toNat (wrap64 (wrap64 (v10 * b2_1) + v2))) ((0 : Int), (0 : Int))))))) else Z2L k (List.set o1 (Int.toNat (wrap64 (wrap64 (v10 * b2_1) + v2))) (Prod.fst (List.getD o1 (Int.toNat (wrap64 (wrap64 (v10 * b2_1) + v2))) ((0 : Int), (0 : Int))), wrap64 ((1 : Int) - Prod.snd (List.getD o1 (Int.toNat (wrap64 (wrap64 (v10 * b2_1) + v2))) ((0 : Int), (0 : Int)))))) b2_0 b2_1 b3_0 b3_1 b3_2 (o4 ++ [wrap64 (wrap64 (v10 * b2_1) + v2)]) v1 (wrap64 (v2 + Prod.fst z0)) (wrap64 ((0 : Int) - Prod.fst z0)) (wrap64 (v10 + (1 : Int))) else none else none else if decide (Prod.fst (List.getD o1 (Int.toNat (wrap64 (wrap64 (v10 * b2_1) + v2))) ((0 : Int), (0 : Int))) = (6 : Int)) = true then Option.bind (Z8q k (b2_0, b2_1, o1) v1 (wrap64 (wrap64 (v10 * b2_1) + v2))) fun z2 => if decide (wrap64 (v2 + Prod.fst z0) < (0 : Int)) = true then some (LR.ret (((3 : Int), v10, wrap64 (v2 + Prod.fst z0)), o4 ++ [wrap64 (wrap64 (v10 * b2_1) + v2)], z2)) else if decide (wrap64 (v2 + Prod.fst z0) ≥ b2_1) = true then some (LR.ret (((3 : Int), v10, wrap64 (v2 + Prod.fst z0)), o4 ++ [wrap64 (wrap64 (v10 * b2_1) + v2)], z2)) else Z2L k z2 b2_0 b2_1 b3_0 b3_1 b3_2 (o4 ++ [wrap64 (wrap64 (v10 * b2_1) + v2)]) v1 (wrap64 (v2 + Prod.fst z0)) (wrap64 ((0 : Int) - Prod.fst z0)) (wrap64 (v10 + (1 : Int))) else if decide (wrap64 (v2 + Prod.fst z0) < (0 : Int)) = true then some (LR.ret (((3 : Int), v10, wrap64 (v2 + Prod.fst z0)), o4 ++ [wrap64 (wrap64 (v10 * b2_1) + v2)], o1)) else if decide (wrap64 (v2 + Prod.fst z0) ≥ b2_1) = true then some (LR.ret (((3 : Int), v10, wrap64 (v2 + Prod.fst z0)), o4 ++ [wrap64 (wrap64 (v10 * b2_1) + v2)], o1)) else Z2L k o1 b2_0 b2_1 b3_0 b3_1 b3_2 (o4 ++ [wrap64 (wrap64 (v10 * b2_1) + v2)]) v1 (wrap64 (v2 + Prod.fst z0)) (wrap64 ((0 : Int) - Prod.fst z0)) (wrap64 (v10 + (1 : Int))) else none else none else none else some (LR.go (o1, b2_0, b2_1, b3_0, b3_1, b3_2, o4, v2))
noncomputable def Zgr : Spec := Spec.mk [OSh.ro, OSh.row false (79 : Nat) (Ty.pair (Ty.int .i64) (Ty.int .i64)), OSh.box (53 : Nat) [Sh.int .i64, Sh.int .i64, Sh.sl (1 : Nat)], OSh.box (63 : Nat) [Sh.int .i64, Sh.int .i64, Sh.int .i64], OSh.row true (3 : Nat) (Ty.int .i64)] [((1 : Nat), TSh.at (Sh.snap (0 : Nat) (Ty.int .i64))), ((2 : Nat), TSh.at (Sh.int .i64)), ((3 : Nat), TSh.at (Sh.ptr (2 : Nat) (0 : Nat))), ((6 : Nat), TSh.at (Sh.ptr (3 : Nat) (0 : Nat))), ((8 : Nat), TSh.at (Sh.sl (4 : Nat))), ((9 : Nat), TSh.at (Sh.int .i64)), ((10 : Nat), TSh.at (Sh.int .i64))]
noncomputable def Zzo : Spec := Spec.mk [OSh.ro, OSh.row false (79 : Nat) (Ty.pair (Ty.int .i64) (Ty.int .i64)), OSh.box (53 : Nat) [Sh.int .i64, Sh.int .i64, Sh.sl (1 : Nat)], OSh.box (63 : Nat) [Sh.int .i64, Sh.int .i64, Sh.int .i64], OSh.row true (3 : Nat) (Ty.int .i64)] [((2 : Nat), TSh.at (Sh.int .i64)), ((3 : Nat), TSh.at (Sh.ptr (2 : Nat) (0 : Nat))), ((6 : Nat), TSh.at (Sh.ptr (3 : Nat) (0 : Nat))), ((8 : Nat), TSh.at (Sh.sl (4 : Nat)))]
noncomputable def Z8i : LoopDef (Tup ZbF × OutD) := .rets Zgr Zzo (List (Int × Int) × Int × Int × Int × Int × Int × List Int × Int) ((Int × Int × Int) × List Int × List (Int × Int)) (fun k x => Z2L k x.1.2.1 x.1.2.2.1.1 x.1.2.2.1.2.1 x.1.2.2.2.1.1 x.1.2.2.2.1.2.1 x.1.2.2.2.1.2.2.1 x.1.2.2.2.2.1 x.2.1 x.2.2.1 x.2.2.2.2.2.2.1 x.2.2.2.2.2.2.2.1) (fun z => (((), z.1, (z.2.1, z.2.2.1, (), ()), (z.2.2.2.1, z.2.2.2.2.1, z.2.2.2.2.2.1, ()), z.2.2.2.2.2.2.1, ()), (z.2.2.2.2.2.2.2, (), (), (), ()))) (fun y => (y.1.2.1, y.1.2.2.1.1, y.1.2.2.1.2.1, y.1.2.2.2.1.1, y.1.2.2.2.1.2.1, y.1.2.2.2.1.2.2.1, y.1.2.2.2.2.1, y.2.1)) (fun _ => rfl) ZiY Zf3 Zlf
noncomputable def ZgW : Nat → Int × Int × List (Int × Int) → List Int → Int → Option ((Int × Int × Int) × List Int × List (Int × Int))
 | 0, _, _, _ => none
 | k + 1, p0, p1, p2 =>
  Option.bind (Z2L k p0.2.2 p0.1 p0.2.1 (0 : Int) (0 : Int) (0 : Int) [] p1 p2 (0 : Int) (0 : Int)) fun z3 => LR.on z3 (fun y3 => some (((1 : Int), Prod.fst y3.2, Prod.snd y3.2.2.2.2.2.2), Prod.fst y3.2.2.2.2.2.2, Prod.fst y3)) fun r3 => some r3
noncomputable def Z86 : FnDef := .of Zvl ZbF ((Int × Int × Int) × List Int × List (Int × Int)) (fun k x => ZgW k x.1 x.2.1 x.2.2.1) ZiY Zf3 Zlf
noncomputable def ZgO : Code := Try.f196.body.getD .skip
noncomputable def Z9O : Ctx (Tup ZbF × OutD) := { T := T, G := [(187, Z4v.E), (214, Z3A.E)], mvs := [], no := 1, n := 89, res := resOf T Zvl ZbF Try.f196.results.toList, loops := [(0, Z8i.E)], regs := [], conds := [] }
theorem Zvp (k : Nat) : EnvOK Try.prog k Z9O.G := (EnvOK.cons (Zq5 k) (EnvOK.cons (ZwR k) (EnvOK.nil mixed)))
noncomputable def ZcP : Code := (findLoop 0 ZgO).getD .skip
theorem Zze (k : Nat) (x : Zgr.D) : Z8i.lp (k + 1) x = loopK Z9O Z8i 0 ZcP k x := by kernel_rfl
theorem ZyA (k : Nat) : LOK Try.prog Z9O k ZcP := LOK.by [] (by kernel_rfl) AllOK.nil
theorem Zz4 (x : Zgr.D) : Z8i.lp 0 x = none := by kernel_rfl
theorem Zyn (k : Nat) : EOK Try.prog Z9O k Z8i.E (.block 0 (.loop ZcP)) := Zp T_ok Zvp Zz4 Zze ZyA k
theorem ZC4 (k : Nat) (x : Tup Z86.ps) : Z86.f (k + 1) x = fnK Z86 Z9O ZgO k x := by kernel_rfl
theorem ZCw (x : Tup Z86.ps) : Z86.f 0 x = none := by kernel_rfl
theorem ZC6 (k : Nat) : LOK Try.prog Z9O k ZgO := LOK.by [(Z8i.E, .block 0 (.loop ZcP))] (by kernel_rfl) (AllOK.cons (Zyn k) AllOK.nil)
theorem ZCa (k : Nat) : SoundAt Try.prog k 196 Z86.E := @Ze Try.prog Z86 Z9O 196 Try.f196 ZgO (by kernel_rfl) (by kernel_rfl) (by kernel_rfl) Try.func196 (by kernel_rfl) (by kernel_rfl) (by kernel_rfl) T_ok Zvp ZC6 ZCw ZC4 k
noncomputable def Z7E : List PK := [PK.mk (Ty.pair (Ty.int .i64) (Ty.int .i64)) true none false none]
noncomputable def Zig : List PK := [PK.mk (Ty.pair (Ty.slice (5 : Nat) (Ty.int .u8)) (Ty.pair (Ty.int .i64) (Ty.int .u64))) false none false (some (114 : Nat))]
noncomputable def Zhj (r : (Int × Int) × Int × Int) : Tup Z7E × OutD := ((r.1, ()), some ⟨Ty.pair (Ty.slice (5 : Nat) (Ty.int .u8)) (Ty.pair (Ty.int .i64) (Ty.int .u64)), [([], r.2)]⟩)
noncomputable def ZcF : Tup Z7E × OutD → Option ((Int × Int) × Int × Int)
 | (a, some ⟨u, ys⟩) => if h : u = Ty.pair (Ty.slice (5 : Nat) (Ty.int .u8)) (Ty.pair (Ty.int .i64) (Ty.int .u64)) then (match castU h ys with
  | [([], y)] => some (a.1, y)
  | _ => none) else none
 | _ => none
theorem Znq : ∀ b r, ZcF b = some r → Zhj r = b := by
 rintro ⟨a, o⟩ r h
 cases o with
 | none => cases h
 | some s =>
  obtain ⟨u, ys⟩ := s
  simp only [ZcF] at h
  split at h
  ·rename_i hu
   subst hu
   match ys, h with
   | [], h => cases (show (none : Option _) = some r from h)
   | [([], y)], h => injection (show some _ = some r from h) with h; subst h; rfl
   | [(_ :: _, y)], h => cases (show (none : Option _) = some r from h)
   | (h1, _) :: _ :: _, h => cases h1 <;> cases (show (none : Option _) = some r from h)
  ·cases h
noncomputable def Z4a : Nat → List Int × Int × Int → Option ((Int × Int) × Int × Int)
 | 0, _ => none
 | k + 1, p0 =>
  Option.bind (Zfv k) fun z0 => Option.bind (Z2 k (Prod.fst p0, Prod.fst p0.2, Prod.snd p0.2) (↑(List.length z0) : Int)) fun z1 => if (0 : Int) ≤ Prod.fst z1 then if Prod.fst z1 < (↑(List.length z0) : Int) then some ((Prod.fst (List.getD z0 (Int.toNat z1.1) ((0 : Int), (0 : Int))), Prod.snd (List.getD z0 (Int.toNat z1.1) ((0 : Int), (0 : Int)))), Prod.fst z1.2, Prod.snd z1.2) else none else none
noncomputable def Z2e : FnDef := .of Zig Z7E ((Int × Int) × Int × Int) (fun k x => Z4a k x.1) Zhj ZcF Znq
noncomputable def Zda : Code := Try.f205.body.getD .skip
noncomputable def Zad : Ctx (Tup Z7E × OutD) := { T := T, G := [(216, Z6J.E), (111, ZJ.E)], mvs := [], no := 2, n := 12, res := resOf T Zig Z7E Try.f205.results.toList, loops := [], regs := [], conds := [] }
theorem ZtV (k : Nat) : EnvOK Try.prog k Zad.G := (EnvOK.cons (ZBr k) (EnvOK.cons (Z2Y k) (EnvOK.nil mixed)))
theorem Zun (k : Nat) (x : Tup Z2e.ps) : Z2e.f (k + 1) x = fnK Z2e Zad Zda k x := by kernel_rfl
theorem Zuj (x : Tup Z2e.ps) : Z2e.f 0 x = none := by kernel_rfl
theorem Zux (k : Nat) : LOK Try.prog Zad k Zda := LOK.by [] (by kernel_rfl) AllOK.nil
theorem Zi1 (k : Nat) : SoundAt Try.prog k 205 Z2e.E := @Ze Try.prog Z2e Zad 205 Try.f205 Zda (by kernel_rfl) (by kernel_rfl) (by kernel_rfl) Try.func205 (by kernel_rfl) (by kernel_rfl) (by kernel_rfl) T_ok ZtV Zux Zuj Zun k
end
end Go.Proofs.Ytgjmhbjdhihgaaa.Vs
