/- The proof, part 6. -/
import Derived.Test.YtglkedenkcpcbaaqBm4
set_option maxRecDepth 100000
set_option maxHeartbeats 2000000
set_option linter.unusedVariables false
set_option linter.unusedSimpArgs false
namespace Go.Proofs.Ytglkedenkcpcbaa.Vs
open Go.RowKit
noncomputable section
noncomputable def Z4D : List PK := [PK.mk (Ty.int .i64) false none false none]
noncomputable def ZeY : List PK := [PK.mk (Ty.pair (Ty.slice (5 : Nat) (Ty.int .u8)) (Ty.pair (Ty.int .i64) (Ty.int .u64))) false none false (some (58 : Nat)), PK.mk (Ty.pair (Ty.int .i64) (Ty.pair (Ty.int .i64) (Ty.slice (71 : Nat) (Ty.pair (Ty.int .i64) (Ty.int .i64))))) true none false none]
noncomputable def ZdT (r : Int × Int × Int) : Tup Z4D × OutD := ((r.1, ()), some ⟨Ty.pair (Ty.slice (5 : Nat) (Ty.int .u8)) (Ty.pair (Ty.int .i64) (Ty.int .u64)), [([], r.2)]⟩)
noncomputable def Z9R : Tup Z4D × OutD → Option (Int × Int × Int)
 | (a, some ⟨u, ys⟩) => if h : u = Ty.pair (Ty.slice (5 : Nat) (Ty.int .u8)) (Ty.pair (Ty.int .i64) (Ty.int .u64)) then (match castU h ys with
  | [([], y)] => some (a.1, y)
  | _ => none) else none
 | _ => none
theorem ZiW : ∀ b r, Z9R b = some r → ZdT r = b := by
 rintro ⟨a, o⟩ r h
 cases o with
 | none => cases h
 | some s =>
  obtain ⟨u, ys⟩ := s
  simp only [Z9R] at h
  split at h
  ·rename_i hu
   subst hu
   match ys, h with
   | [], h => cases (show (none : Option _) = some r from h)
   | [([], y)], h => injection (show some _ = some r from h) with h; subst h; rfl
   | [(_ :: _, y)], h => cases (show (none : Option _) = some r from h)
   | (h1, _) :: _ :: _, h => cases h1 <;> cases (show (none : Option _) = some r from h)
  ·cases h
noncomputable def Z1S : Nat → List Int × Int × Int → Int × Int × List (Int × Int) → Option (Int × Int × Int)
 | 0, _, _ => none
 | k + 1, p0, p1 =>
  Option.bind (Z7G k (1 : Int) p1.2.1) fun z0 => Option.bind (Z0 k (Prod.fst p0, Prod.fst p0.2, Prod.snd p0.2) (16 : Int)) fun z1 => Option.bind (Z0 k (Prod.fst p0, Prod.fst z1.2, Prod.snd z1.2) (wrap64 (z0 + wrap64 (Int.tdiv z1.1 (15 : Int))))) fun z2 => Option.bind (Z0 k (Prod.fst p0, Prod.fst z2.2, Prod.snd z2.2) (24 : Int)) fun z3 => some (wrap64 (Prod.fst z2 - wrap64 (Int.tdiv z3.1 (23 : Int))), Prod.fst z3.2, Prod.snd z3.2)
noncomputable def Z1b : FnDef := .of ZeY Z4D (Int × Int × Int) (fun k x => Z1S k x.1 x.2.1) ZdT Z9R ZiW
noncomputable def Zat : Code := Try.f38.body.getD .skip
noncomputable def Z70 : Ctx (Tup Z4D × OutD) := { T := T, G := [(59, Z4m.E), (57, Zd.E)], mvs := [], no := 2, n := 18, res := resOf T ZeY Z4D Try.f38.results.toList, loops := [], regs := [], conds := [], cuts := [] }
theorem ZnF (k : Nat) : EnvOK Try.prog k Z70.G := (EnvOK.cons (Zqb k) (EnvOK.cons (ZH k) (EnvOK.nil mixed)))
theorem ZoV (k : Nat) (x : Tup Z1b.ps) : Z1b.f (k + 1) x = fnK Z1b Z70 Zat k x := by kernel_rfl
theorem ZnB (x : Tup Z1b.ps) : Z1b.f 0 x = none := by kernel_rfl
theorem Zoz (k : Nat) : LOK Try.prog Z70 k Zat := LOK.by [] (by kernel_rfl) AllOK.nil
theorem ZoI (k : Nat) : SoundAt Try.prog k 38 Z1b.E := @Z1 Try.prog Z1b Z70 38 Try.f38 Zat (by kernel_rfl) (by kernel_rfl) (by kernel_rfl) Try.func38 (by kernel_rfl) (by kernel_rfl) (by kernel_rfl) T_ok ZnF Zoz ZnB ZoV k
noncomputable def Zav : List PK := [PK.mk Ty.bool false none false none]
noncomputable def ZoM : List PK := [PK.mk (Ty.pair (Ty.int .i64) (Ty.pair (Ty.int .i64) (Ty.slice (71 : Nat) (Ty.pair (Ty.int .i64) (Ty.int .i64))))) true none false none]
noncomputable def Zlm (r : Bool) : Tup Zav × OutD := ((r, ()), none)
noncomputable def Zlv : Tup Zav × OutD → Option (Bool)
 | (a, none) => some (a.1)
 | _ => none
theorem ZtT : ∀ b r, Zlv b = some r → Zlm r = b := by
 rintro ⟨a, o⟩ r h
 cases o with
 | none => injection h with h; subst h; rfl
 | some _ => cases h
noncomputable def Z4s : Nat → Int × Int × List (Int × Int) → Option Bool
 | 0, _ => none
 | k + 1, p0 =>
  if decide (Prod.fst p0 ≥ (1 : Int)) = true then if decide (Prod.fst p0 ≤ (10 : Int)) = true then if decide (Prod.fst p0.2 ≥ (1 : Int)) = true then if decide (Prod.fst p0.2 ≤ (9 : Int)) = true then if decide ((↑(List.length p0.2.2) : Int) = wrap64 (Prod.fst p0 * Prod.fst p0.2)) = true then Option.bind (Za5 k p0.2.2) fun z0 => some z0 else some false else some false else some false else some false else some false
noncomputable def Z1g : FnDef := .of ZoM Zav (Bool) (fun k x => Z4s k x.1) Zlm Zlv ZtT
noncomputable def Zh5 : Code := Try.f51.body.getD .skip
noncomputable def ZcZ : Ctx (Tup Zav × OutD) := { T := T, G := [(85, Z2H.E)], mvs := [], no := 0, n := 37, res := resOf T ZoM Zav Try.f51.results.toList, loops := [], regs := [], conds := [], cuts := [] }
theorem ZzT (k : Nat) : EnvOK Try.prog k ZcZ.G := (EnvOK.cons (ZvD k) (EnvOK.nil mixed))
theorem ZzR (k : Nat) (x : Tup Z1g.ps) : Z1g.f (k + 1) x = fnK Z1g ZcZ Zh5 k x := by kernel_rfl
theorem ZzQ (x : Tup Z1g.ps) : Z1g.f 0 x = none := by kernel_rfl
theorem Zzo (k : Nat) : LOK Try.prog ZcZ k Zh5 := LOK.by [] (by kernel_rfl) AllOK.nil
theorem Zau (k : Nat) : SoundAt Try.prog k 51 Z1g.E := @Z1 Try.prog Z1g ZcZ 51 Try.f51 Zh5 (by kernel_rfl) (by kernel_rfl) (by kernel_rfl) Try.func51 (by kernel_rfl) (by kernel_rfl) (by kernel_rfl) T_ok ZzT Zzo ZzQ ZzR k
noncomputable def ZbP : List PK := [PK.mk (Ty.pair (Ty.int .i64) (Ty.pair (Ty.int .i64) (Ty.int .i64))) true none false none, PK.mk (Ty.slice (3 : Nat) (Ty.int .i64)) false none false none]
noncomputable def Zw7 : List PK := [PK.mk (Ty.pair (Ty.int .i64) (Ty.pair (Ty.int .i64) (Ty.slice (71 : Nat) (Ty.pair (Ty.int .i64) (Ty.int .i64))))) true (some ((2 : Nat), (71 : Nat), Ty.pair (Ty.int .i64) (Ty.int .i64))) false none, PK.mk (Ty.slice (3 : Nat) (Ty.int .i64)) false none false none, PK.mk (Ty.int .i64) false none false none]
noncomputable def Zkp (r : (Int × Int × Int) × List Int × List (Int × Int)) : Tup ZbP × OutD := ((r.1, r.2.1, ()), some ⟨Ty.pair (Ty.int .i64) (Ty.int .i64), r.2.2⟩)
noncomputable def Zfg : Tup ZbP × OutD → Option ((Int × Int × Int) × List Int × List (Int × Int))
 | (a, some ⟨u, ys⟩) => if h : u = Ty.pair (Ty.int .i64) (Ty.int .i64) then some (a.1, a.2.1, castU h ys) else none
 | _ => none
theorem ZlN : ∀ b r, Zfg b = some r → Zkp r = b := by
 rintro ⟨a, o⟩ r h
 cases o with
 | none => cases h
 | some s =>
  obtain ⟨u, ys⟩ := s
  simp only [Zfg] at h
  split at h
  ·rename_i hu; subst hu; injection h with h; subst h; rfl
  ·cases h
noncomputable def Z2k : Nat → List (Int × Int) → Int → Int → Int → Int → Int → List Int → List Int → Int → Int → Int → Option (LR (List (Int × Int) × Int × Int × Int × Int × Int × List Int × Int) ((Int × Int × Int) × List Int × List (Int × Int)))
 | 0, _, _, _, _, _, _, _, _, _, _, _ => none
 | k + 1, o1, b2_0, b2_1, b3_0, b3_1, b3_2, o4, v1, v2, v9, v10 =>
  if decide (v10 < b2_0) = true then if List.length o4 + List.length [wrap64 (wrap64 (v10 * b2_1) + v2)] ≤ (140737488355328 / 8 : Nat) then if (0 : Int) ≤ wrap64 (wrap64 (v10 * b2_1) + v2) then if wrap64 (wrap64 (v10 * b2_1) + v2) < (↑(List.length o1) : Int) then Option.bind (Zel k (Prod.fst (List.getD o1 (Int.toNat (wrap64 (wrap64 (v10 * b2_1) + v2))) ((0 : Int), (0 : Int))), Prod.snd (List.getD o1 (Int.toNat (wrap64 (wrap64 (v10 * b2_1) + v2))) ((0 : Int), (0 : Int)))) v9) fun z0 => if (!Prod.snd z0) = true then some (LR.ret (((2 : Int), v10, v2), o4 ++ [wrap64 (wrap64 (v10 * b2_1) + v2)], o1)) else if decide (Prod.fst (List.getD o1 (Int.toNat (wrap64 (wrap64 (v10 * b2_1) + v2))) ((0 : Int), (0 : Int))) = (3 : Int)) = true then if (0 : Int) ≤ wrap64 (wrap64 (v10 * b2_1) + v2) then if wrap64 (wrap64 (v10 * b2_1) + v2) < (↑(List.length o1) : Int) then if decide (Prod.fst (List.getD o1 (Int.toNat (wrap64 (wrap64 (v10 * b2_1) + v2))) ((0 : Int), (0 : Int))) = (6 : Int)) = true then Option.bind (Z8t k (b2_0, b2_1, List.set o1 (Int.toNat (wrap64 (wrap64 (v10 * b2_1) + v2))) (Prod.fst (List.getD o1 (Int.toNat (wrap64 (wrap64 (v10 * b2_1) + v2))) ((0 : Int), (0 : Int))), wrap64 ((1 : Int) - Prod.snd (List.getD o1 (Int.toNat (wrap64 (wrap64 (v10 * b2_1) + v2))) ((0 : Int), (0 : Int)))))) v1 (wrap64 (wrap64 (v10 * b2_1) + v2))) fun z1 => if decide (wrap64 (v2 + Prod.fst z0) < (0 : Int)) = true then some (LR.ret (((3 : Int), v10, wrap64 (v2 + Prod.fst z0)), o4 ++ [wrap64 (wrap64 (v10 * b2_1) + v2)], z1)) else if decide (wrap64 (v2 + Prod.fst z0) ≥ b2_1) = true then some (LR.ret (((3 : Int), v10, wrap64 (v2 + Prod.fst z0)), o4 ++ [wrap64 (wrap64 (v10 * b2_1) + v2)], z1)) else Z2k k z1 b2_0 b2_1 b3_0 b3_1 b3_2 (o4 ++ [wrap64 (wrap64 (v10 * b2_1) + v2)]) v1 (wrap64 (v2 + Prod.fst z0)) (wrap64 ((0 : Int) - Prod.fst z0)) (wrap64 (v10 + (1 : Int))) else if decide (wrap64 (v2 + Prod.fst z0) < (0 : Int)) = true then some (LR.ret (((3 : Int), v10, wrap64 (v2 + Prod.fst z0)), o4 ++ [wrap64 (wrap64 (v10 * b2_1) + v2)], List.set o1 (Int.toNat (wrap64 (wrap64 (v10 * b2_1) + v2))) (Prod.fst (List.getD o1 (Int.toNat (wrap64 (wrap64 (v10 * b2_1) + v2))) ((0 : Int), (0 : Int))), wrap64 ((1 : Int) - Prod.snd (List.getD o1 (Int.toNat (wrap64 (wrap64 (v10 * b2_1) + v2))) ((0 : Int), (0 : Int))))))) else if decide (wrap64 (v2 + Prod.fst z0) ≥ b2_1) = true then some (LR.ret (((3 : Int), v10, wrap64 (v2 + Prod.fst z0)), o4 ++ [wrap64 (wrap64 (v10 * b2_1) + v2)], List.set o1 (Int.toNat (wrap64 (wrap64 (v10 * b2_1) + v2))) (Prod.fst (List.getD o1 (Int.toNat (wrap64 (wrap64 (v10 * b2_1) + v2))) ((0 : Int), (0 : Int))), wrap64 ((1 : Int) - Prod.snd (List.getD o1 (Int.toNat (wrap64 (wrap64 (v10 * b2_1) + v2))) ((0 : Int), (0 : Int))))))) else Z2k k (List.set o1 (Int.toNat (wrap64 (wrap64 (v10 * b2_1) + v2))) (Prod.fst (List.getD o1 (Int.toNat (wrap64 (wrap64 (v10 * b2_1) + v2))) ((0 : Int), (0 : Int))), wrap64 ((1 : Int) - Prod.snd (List.getD o1 (Int.toNat (wrap64 (wrap64 (v10 * b2_1) + v2))) ((0 : Int), (0 : Int)))))) b2_0 b2_1 b3_0 b3_1 b3_2 (o4 ++ [wrap64 (wrap64 (v10 * b2_1) + v2)]) v1 (wrap64 (v2 + Prod.fst z0)) (wrap64 ((0 : Int) - Prod.fst z0)) (wrap64 (v10 + (1 : Int))) else none else none else if decide (Prod.fst (List.getD o1 (Int.toNat (wrap64 (wrap64 (v10 * b2_1) + v2))) ((0 : Int), (0 : Int))) = (6 : Int)) = true then Option.bind (Z8t k (b2_0, b2_1, o1) v1 (wrap64 (wrap64 (v10 * b2_1) + v2))) fun z2 => if decide (wrap64 (v2 + Prod.fst z0) < (0 : Int)) = true then some (LR.ret (((3 : Int), v10, wrap64 (v2 + Prod.fst z0)), o4 ++ [wrap64 (wrap64 (v10 * b2_1) + v2)], z2)) else if decide (wrap64 (v2 + Prod.fst z0) ≥ b2_1) = true then some (LR.ret (((3 : Int), v10, wrap64 (v2 + Prod.fst z0)), o4 ++ [wrap64 (wrap64 (v10 * b2_1) + v2)], z2)) else Z2k k z2 b2_0 b2_1 b3_0 b3_1 b3_2 (o4 ++ [wrap64 (wrap64 (v10 * b2_1) + v2)]) v1 (wrap64 (v2 + Prod.fst z0)) (wrap64 ((0 : Int) - Prod.fst z0)) (wrap64 (v10 + (1 : Int))) else if decide (wrap64 (v2 + Prod.fst z0) < (0 : Int)) = true then some (LR.ret (((3 : Int), v10, wrap64 (v2 + Prod.fst z0)), o4 ++ [wrap64 (wrap64 (v10 * b2_1) + v2)], o1)) else if decide (wrap64 (v2 + Prod.fst z0) ≥ b2_1) = true then some (LR.ret (((3 : Int), v10, wrap64 (v2 + Prod.fst z0)), o4 ++ [wrap64 (wrap64 (v10 * b2_1) + v2)], o1)) else Z2k k o1 b2_0 b2_1 b3_0 b3_1 b3_2 (o4 ++ [wrap64 (wrap64 (v10 * b2_1) + v2)]) v1 (wrap64 (v2 + Prod.fst z0)) (wrap64 ((0 : Int) - Prod.fst z0)) (wrap64 (v10 + (1 : Int))) else none else none else none else some (LR.go (o1, b2_0, b2_1, b3_0, b3_1, b3_2, o4, v2))
noncomputable def ZgT : Spec := Spec.mk [OSh.ro, OSh.row false (71 : Nat) (Ty.pair (Ty.int .i64) (Ty.int .i64)), OSh.box (26 : Nat) [Sh.int .i64, Sh.int .i64, Sh.sl (1 : Nat)], OSh.box (75 : Nat) [Sh.int .i64, Sh.int .i64, Sh.int .i64], OSh.row true (3 : Nat) (Ty.int .i64)] [((1 : Nat), TSh.at (Sh.snap (0 : Nat) (Ty.int .i64))), ((2 : Nat), TSh.at (Sh.int .i64)), ((3 : Nat), TSh.at (Sh.ptr (2 : Nat) (0 : Nat))), ((6 : Nat), TSh.at (Sh.ptr (3 : Nat) (0 : Nat))), ((8 : Nat), TSh.at (Sh.sl (4 : Nat))), ((9 : Nat), TSh.at (Sh.int .i64)), ((10 : Nat), TSh.at (Sh.int .i64))]
noncomputable def ZA3 : Spec := Spec.mk [OSh.ro, OSh.row false (71 : Nat) (Ty.pair (Ty.int .i64) (Ty.int .i64)), OSh.box (26 : Nat) [Sh.int .i64, Sh.int .i64, Sh.sl (1 : Nat)], OSh.box (75 : Nat) [Sh.int .i64, Sh.int .i64, Sh.int .i64], OSh.row true (3 : Nat) (Ty.int .i64)] [((2 : Nat), TSh.at (Sh.int .i64)), ((3 : Nat), TSh.at (Sh.ptr (2 : Nat) (0 : Nat))), ((6 : Nat), TSh.at (Sh.ptr (3 : Nat) (0 : Nat))), ((8 : Nat), TSh.at (Sh.sl (4 : Nat)))]
noncomputable def Z8i : LoopDef (Tup ZbP × OutD) := .rets ZgT ZA3 (List (Int × Int) × Int × Int × Int × Int × Int × List Int × Int) ((Int × Int × Int) × List Int × List (Int × Int)) (fun k x => Z2k k x.1.2.1 x.1.2.2.1.1 x.1.2.2.1.2.1 x.1.2.2.2.1.1 x.1.2.2.2.1.2.1 x.1.2.2.2.1.2.2.1 x.1.2.2.2.2.1 x.2.1 x.2.2.1 x.2.2.2.2.2.2.1 x.2.2.2.2.2.2.2.1) (fun z => (((), z.1, (z.2.1, z.2.2.1, (), ()), (z.2.2.2.1, z.2.2.2.2.1, z.2.2.2.2.2.1, ()), z.2.2.2.2.2.2.1, ()), (z.2.2.2.2.2.2.2, (), (), (), ()))) (fun y => (y.1.2.1, y.1.2.2.1.1, y.1.2.2.1.2.1, y.1.2.2.2.1.1, y.1.2.2.2.1.2.1, y.1.2.2.2.1.2.2.1, y.1.2.2.2.2.1, y.2.1)) (fun _ => rfl) Zkp Zfg ZlN
noncomputable def ZbR : Nat → Int × Int × List (Int × Int) → List Int → Int → Option ((Int × Int × Int) × List Int × List (Int × Int))
 | 0, _, _, _ => none
 | k + 1, p0, p1, p2 =>
  Option.bind (Z2k k p0.2.2 p0.1 p0.2.1 (0 : Int) (0 : Int) (0 : Int) [] p1 p2 (0 : Int) (0 : Int)) fun z3 => LR.on z3 (fun y3 => some (((1 : Int), Prod.fst y3.2, Prod.snd y3.2.2.2.2.2.2), Prod.fst y3.2.2.2.2.2.2, Prod.fst y3)) fun r3 => some r3
noncomputable def Z4U : FnDef := .of Zw7 ZbP ((Int × Int × Int) × List Int × List (Int × Int)) (fun k x => ZbR k x.1 x.2.1 x.2.2.1) Zkp Zfg ZlN
noncomputable def Zhb : Code := Try.f55.body.getD .skip
noncomputable def Z9X : Ctx (Tup ZbP × OutD) := { T := T, G := [(87, Z5z.E), (88, Z3k.E)], mvs := [], no := 1, n := 89, res := resOf T Zw7 ZbP Try.f55.results.toList, loops := [(0, Z8i.E)], regs := [], conds := [], cuts := [] }
theorem ZvY (k : Nat) : EnvOK Try.prog k Z9X.G := (EnvOK.cons (ZAP k) (EnvOK.cons (ZxH k) (EnvOK.nil mixed)))
noncomputable def Zdg : Code := (findLoop 0 Zhb).getD .skip
theorem ZzO (k : Nat) (x : ZgT.D) : Z8i.lp (k + 1) x = loopK Z9X Z8i 0 Zdg k x := by kernel_rfl
theorem Zzt (k : Nat) : LOK Try.prog Z9X k Zdg := LOK.by [] (by kernel_rfl) AllOK.nil
theorem Zzv (x : ZgT.D) : Z8i.lp 0 x = none := by kernel_rfl
theorem ZyI (k : Nat) : EOK Try.prog Z9X k Z8i.E (.block 0 (.loop Zdg)) := Z5 T_ok ZvY Zzv ZzO Zzt k
theorem ZDu (k : Nat) (x : Tup Z4U.ps) : Z4U.f (k + 1) x = fnK Z4U Z9X Zhb k x := by kernel_rfl
theorem ZDy (x : Tup Z4U.ps) : Z4U.f 0 x = none := by kernel_rfl
theorem ZDq (k : Nat) : LOK Try.prog Z9X k Zhb := LOK.by [(Z8i.E, .block 0 (.loop Zdg))] (by kernel_rfl) (AllOK.cons (ZyI k) AllOK.nil)
theorem Znn (k : Nat) : SoundAt Try.prog k 55 Z4U.E := @Z1 Try.prog Z4U Z9X 55 Try.f55 Zhb (by kernel_rfl) (by kernel_rfl) (by kernel_rfl) Try.func55 (by kernel_rfl) (by kernel_rfl) (by kernel_rfl) T_ok ZvY ZDq ZDy ZDu k
noncomputable def Z8o : List PK := [PK.mk Ty.bool false none false none]
noncomputable def Zkl : List PK := [PK.mk (Ty.pair (Ty.slice (5 : Nat) (Ty.int .u8)) (Ty.pair (Ty.int .i64) (Ty.int .u64))) false none false (some (58 : Nat)), PK.mk (Ty.int .i64) false none false none]
noncomputable def ZiE (r : Bool × Int × Int) : Tup Z8o × OutD := ((r.1, ()), some ⟨Ty.pair (Ty.slice (5 : Nat) (Ty.int .u8)) (Ty.pair (Ty.int .i64) (Ty.int .u64)), [([], r.2)]⟩)
noncomputable def Zdx : Tup Z8o × OutD → Option (Bool × Int × Int)
 | (a, some ⟨u, ys⟩) => if h : u = Ty.pair (Ty.slice (5 : Nat) (Ty.int .u8)) (Ty.pair (Ty.int .i64) (Ty.int .u64)) then (match castU h ys with
  | [([], y)] => some (a.1, y)
  | _ => none) else none
 | _ => none
theorem ZpQ : ∀ b r, Zdx b = some r → ZiE r = b := by
 rintro ⟨a, o⟩ r h
 cases o with
 | none => cases h
 | some s =>
  obtain ⟨u, ys⟩ := s
  simp only [Zdx] at h
  split at h
  ·rename_i hu
   subst hu
   match ys, h with
   | [], h => cases (show (none : Option _) = some r from h)
   | [([], y)], h => injection (show some _ = some r from h) with h; subst h; rfl
   | [(_ :: _, y)], h => cases (show (none : Option _) = some r from h)
   | (h1, _) :: _ :: _, h => cases h1 <;> cases (show (none : Option _) = some r from h)
  ·cases h
noncomputable def Zc : Nat → List Int × Int × Int → Int → Option (Bool × Int × Int)
 | 0, _, _ => none
 | k + 1, p0, p1 =>
  Option.bind (Z0 k (Prod.fst p0, Prod.fst p0.2, Prod.snd p0.2) p1) fun z0 => some (decide (Prod.fst z0 = (0 : Int)), Prod.fst z0.2, Prod.snd z0.2)
noncomputable def ZG : FnDef := .of Zkl Z8o (Bool × Int × Int) (fun k x => Zc k x.1 x.2.1) ZiE Zdx ZpQ
noncomputable def ZeS : Code := Try.f58.body.getD .skip
noncomputable def Zbd : Ctx (Tup Z8o × OutD) := { T := T, G := [(57, Zd.E)], mvs := [], no := 2, n := 9, res := resOf T Zkl Z8o Try.f58.results.toList, loops := [], regs := [], conds := [], cuts := [] }
theorem Zxq (k : Nat) : EnvOK Try.prog k Zbd.G := (EnvOK.cons (ZH k) (EnvOK.nil mixed))
theorem ZxC (k : Nat) (x : Tup ZG.ps) : ZG.f (k + 1) x = fnK ZG Zbd ZeS k x := by kernel_rfl
theorem ZxL (x : Tup ZG.ps) : ZG.f 0 x = none := by kernel_rfl
theorem ZxI (k : Nat) : LOK Try.prog Zbd k ZeS := LOK.by [] (by kernel_rfl) AllOK.nil
theorem Z5X (k : Nat) : SoundAt Try.prog k 58 ZG.E := @Z1 Try.prog ZG Zbd 58 Try.f58 ZeS (by kernel_rfl) (by kernel_rfl) (by kernel_rfl) Try.func58 (by kernel_rfl) (by kernel_rfl) (by kernel_rfl) T_ok Zxq ZxI ZxL ZxC k
noncomputable def Z6N : List PK := [PK.mk (Ty.int .i64) false none false none]
noncomputable def Zhx : List PK := [PK.mk (Ty.pair (Ty.slice (5 : Nat) (Ty.int .u8)) (Ty.pair (Ty.int .i64) (Ty.int .u64))) false none false (some (58 : Nat)), PK.mk (Ty.slice (3 : Nat) (Ty.int .i64)) false none false none]
noncomputable def Zgr (r : Int × Int × Int) : Tup Z6N × OutD := ((r.1, ()), some ⟨Ty.pair (Ty.slice (5 : Nat) (Ty.int .u8)) (Ty.pair (Ty.int .i64) (Ty.int .u64)), [([], r.2)]⟩)
noncomputable def ZbX : Tup Z6N × OutD → Option (Int × Int × Int)
 | (a, some ⟨u, ys⟩) => if h : u = Ty.pair (Ty.slice (5 : Nat) (Ty.int .u8)) (Ty.pair (Ty.int .i64) (Ty.int .u64)) then (match castU h ys with
  | [([], y)] => some (a.1, y)
  | _ => none) else none
 | _ => none
theorem Zmj : ∀ b r, ZbX b = some r → Zgr r = b := by
 rintro ⟨a, o⟩ r h
 cases o with
 | none => cases h
 | some s =>
  obtain ⟨u, ys⟩ := s
  simp only [ZbX] at h
  split at h
  ·rename_i hu
   subst hu
   match ys, h with
   | [], h => cases (show (none : Option _) = some r from h)
   | [([], y)], h => injection (show some _ = some r from h) with h; subst h; rfl
   | [(_ :: _, y)], h => cases (show (none : Option _) = some r from h)
   | (h1, _) :: _ :: _, h => cases h1 <;> cases (show (none : Option _) = some r from h)
  ·cases h
noncomputable def Za : Nat → List Int × Int × Int → List Int → Option (Int × Int × Int)
 | 0, _, _ => none
 | k + 1, p0, p1 =>
  Option.bind (Z0 k (Prod.fst p0, Prod.fst p0.2, Prod.snd p0.2) (↑(List.length p1) : Int)) fun z0 => if (0 : Int) ≤ Prod.fst z0 then if Prod.fst z0 < (↑(List.length p1) : Int) then some (List.getD p1 (Int.toNat z0.1) (0 : Int), Prod.fst z0.2, Prod.snd z0.2) else none else none
noncomputable def Zq : FnDef := .of Zhx Z6N (Int × Int × Int) (fun k x => Za k x.1 x.2.1) Zgr ZbX Zmj
noncomputable def ZcO : Code := Try.f60.body.getD .skip
noncomputable def Z9g : Ctx (Tup Z6N × OutD) := { T := T, G := [(57, Zd.E)], mvs := [], no := 2, n := 12, res := resOf T Zhx Z6N Try.f60.results.toList, loops := [], regs := [], conds := [], cuts := [] }
theorem Ztu (k : Nat) : EnvOK Try.prog k Z9g.G := (EnvOK.cons (ZH k) (EnvOK.nil mixed))
theorem Ztd (k : Nat) (x : Tup Zq.ps) : Zq.f (k + 1) x = fnK Zq Z9g ZcO k x := by kernel_rfl
theorem Ztc (x : Tup Zq.ps) : Zq.f 0 x = none := by kernel_rfl
theorem ZsD (k : Nat) : LOK Try.prog Z9g k ZcO := LOK.by [] (by kernel_rfl) AllOK.nil
theorem Z3j (k : Nat) : SoundAt Try.prog k 60 Zq.E := @Z1 Try.prog Zq Z9g 60 Try.f60 ZcO (by kernel_rfl) (by kernel_rfl) (by kernel_rfl) Try.func60 (by kernel_rfl) (by kernel_rfl) (by kernel_rfl) T_ok Ztu ZsD Ztc Ztd k
noncomputable def Z8j : List PK := [PK.mk (Ty.slice (36 : Nat) (Ty.slice (3 : Nat) (Ty.int .i64))) false none false none]
noncomputable def Zo8 : List PK := [PK.mk (Ty.pair (Ty.int .i64) (Ty.pair (Ty.int .i64) (Ty.slice (71 : Nat) (Ty.pair (Ty.int .i64) (Ty.int .i64))))) true none false none]
noncomputable def Zlr (r : List (List Int)) : Tup Z8j × OutD := ((r, ()), none)
noncomputable def Zlk : Tup Z8j × OutD → Option (List (List Int))
 | (a, none) => some (a.1)
 | _ => none
theorem Zua : ∀ b r, Zlk b = some r → Zlr r = b := by
 rintro ⟨a, o⟩ r h
 cases o with
 | none => injection h with h; subst h; rfl
 | some _ => cases h
noncomputable def Z2h : Nat → List Int → List (List Int × Int) → List (List Int) → List (Int × Int) → Int → Int → Option (List (List Int))
 | 0, _, _, _, _, _, _ => none
 | k + 1, o1, o2, o3, v15, v16, v17 =>
  if decide (v17 < v16) = true then if (0 : Int) ≤ v17 then if v17 < (↑(List.length v15) : Int) then if decide (Prod.fst (List.getD v15 (Int.toNat v17) ((0 : Int), (0 : Int))) = (3 : Int)) = true then if List.length o3 + List.length [[v17]] ≤ (140737488355328 / 24 : Nat) then Z2h k o1 o2 (o3 ++ [[v17]]) v15 v16 (wrap64 (v17 + (1 : Int))) else none else if decide (Prod.fst (List.getD v15 (Int.toNat v17) ((0 : Int), (0 : Int))) = (6 : Int)) = true then if (0 : Int) ≤ v17 then if v17 < (↑(List.length o1) : Int) then if (!Option.isSome (findK [List.getD o1 (Int.toNat v17) (0 : Int)] o2)) = true then if (0 : Int) ≤ v17 then if v17 < (↑(List.length o1) : Int) then if List.length o3 + (1 : Nat) ≤ (140737488355328 / 24 : Nat) then if (↑(List.length o3) : Int) < (↑(List.length (o3 ++ [[]])) : Int) then if List.length (List.getD (o3 ++ [[]]) (Int.toNat (↑(List.length o3) : Int)) []) + List.length [v17] ≤ (140737488355328 / 8 : Nat) then if (↑(List.length o3) : Int) < (↑(List.length (o3 ++ [[]])) : Int) then if (↑(List.length o3) : Int) = (↑(List.length o3) : Int) then Z2h k o1 (putK [List.getD o1 (Int.toNat v17) (0 : Int)] (↑(List.length o3) : Int) o2) (List.set (o3 ++ [[]]) (Int.toNat (↑(List.length o3) : Int)) (List.getD (o3 ++ [[]]) (Int.toNat (↑(List.length o3) : Int)) [] ++ [v17])) v15 v16 (wrap64 (v17 + (1 : Int))) else none else none else none else none else none else none else none else if (0 : Int) ≤ Option.getD (findK [List.getD o1 (Int.toNat v17) (0 : Int)] o2) (0 : Int) then if Option.getD (findK [List.getD o1 (Int.toNat v17) (0 : Int)] o2) (0 : Int) < (↑(List.length o3) : Int) then if List.length (List.getD o3 (Int.toNat (Option.getD (findK [List.getD o1 (Int.toNat v17) (0 : Int)] o2) (0 : Int))) []) + List.length [v17] ≤ (140737488355328 / 8 : Nat) then if (0 : Int) ≤ Option.getD (findK [List.getD o1 (Int.toNat v17) (0 : Int)] o2) (0 : Int) then if Option.getD (findK [List.getD o1 (Int.toNat v17) (0 : Int)] o2) (0 : Int) < (↑(List.length o3) : Int) then if Option.getD (findK [List.getD o1 (Int.toNat v17) (0 : Int)] o2) (0 : Int) = Option.getD (findK [List.getD o1 (Int.toNat v17) (0 : Int)] o2) (0 : Int) then Z2h k o1 o2 (List.set o3 (Int.toNat (Option.getD (findK [List.getD o1 (Int.toNat v17) (0 : Int)] o2) (0 : Int))) (List.getD o3 (Int.toNat (Option.getD (findK [List.getD o1 (Int.toNat v17) (0 : Int)] o2) (0 : Int))) [] ++ [v17])) v15 v16 (wrap64 (v17 + (1 : Int))) else none else none else none else none else none else none else none else none else Z2h k o1 o2 o3 v15 v16 (wrap64 (v17 + (1 : Int))) else none else none else some o3
noncomputable def Zdt : Spec := Spec.mk [OSh.ro, OSh.row true (3 : Nat) (Ty.int .i64), OSh.mp (104 : Nat) false (1 : Nat) (Ty.int .i64), OSh.row true (36 : Nat) (Ty.slice (3 : Nat) (Ty.int .i64))] [((3 : Nat), TSh.at (Sh.sl (1 : Nat))), ((4 : Nat), TSh.at (Sh.mp (2 : Nat))), ((5 : Nat), TSh.at (Sh.sl (3 : Nat))), ((15 : Nat), TSh.at (Sh.snap (0 : Nat) (Ty.pair (Ty.int .i64) (Ty.int .i64)))), ((16 : Nat), TSh.at (Sh.int .i64)), ((17 : Nat), TSh.at (Sh.int .i64))]
noncomputable def ZvE : Spec := Spec.mk [OSh.ro, OSh.row true (36 : Nat) (Ty.slice (3 : Nat) (Ty.int .i64))] [((5 : Nat), TSh.at (Sh.sl (1 : Nat)))]
noncomputable def Z5n : LoopDef (Tup Z8j × OutD) := .plain Zdt ZvE (List (List Int)) (fun k x => Z2h k x.1.2.1 x.1.2.2.1 x.1.2.2.2.1 x.2.2.2.2.1 x.2.2.2.2.2.1 x.2.2.2.2.2.2.1) (fun z => (((), z, ()), ((), ()))) (fun y => (y.1.2.1)) (fun _ => rfl)
noncomputable def Z4H : Nat → Int × Int × List (Int × Int) → Option (List (List Int))
 | 0, _ => none
 | k + 1, p0 =>
  Option.bind (Z2R k (Prod.fst p0, Prod.fst p0.2, Prod.snd p0.2)) fun z0 => Option.bind (Z2h k z0 [] [] p0.2.2 (↑(List.length p0.2.2) : Int) (0 : Int)) fun z1 => some z1
noncomputable def Z1h : FnDef := .of Zo8 Z8j (List (List Int)) (fun k x => Z4H k x.1) Zlr Zlk Zua
noncomputable def Zd6 : Code := Try.f63.body.getD .skip
noncomputable def Z61 : Ctx (Tup Z8j × OutD) := { T := T, G := [(56, ZE.E)], mvs := [], no := 0, n := 67, res := resOf T Zo8 Z8j Try.f63.results.toList, loops := [(0, Z5n.E)], regs := [], conds := [], cuts := [] }
theorem Zp8 (k : Nat) : EnvOK Try.prog k Z61.G := (EnvOK.cons (Z8I k) (EnvOK.nil mixed))
noncomputable def Zab : Code := (findLoop 0 Zd6).getD .skip
theorem Zvm (k : Nat) (x : Zdt.D) : Z5n.lp (k + 1) x = loopK Z61 Z5n 0 Zab k x := by kernel_rfl
theorem ZuX (k : Nat) : LOK Try.prog Z61 k Zab := LOK.by [] (by kernel_rfl) AllOK.nil
theorem ZuT (x : Zdt.D) : Z5n.lp 0 x = none := by kernel_rfl
theorem ZtD (k : Nat) : EOK Try.prog Z61 k Z5n.E (.block 0 (.loop Zab)) := Z5 T_ok Zp8 ZuT Zvm ZuX k
theorem Zzp (k : Nat) (x : Tup Z1h.ps) : Z1h.f (k + 1) x = fnK Z1h Z61 Zd6 k x := by kernel_rfl
theorem ZzS (x : Tup Z1h.ps) : Z1h.f 0 x = none := by kernel_rfl
theorem ZzK (k : Nat) : LOK Try.prog Z61 k Zd6 := LOK.by [(Z5n.E, .block 0 (.loop Zab))] (by kernel_rfl) (AllOK.cons (ZtD k) AllOK.nil)
theorem Zar (k : Nat) : SoundAt Try.prog k 63 Z1h.E := @Z1 Try.prog Z1h Z61 63 Try.f63 Zd6 (by kernel_rfl) (by kernel_rfl) (by kernel_rfl) Try.func63 (by kernel_rfl) (by kernel_rfl) (by kernel_rfl) T_ok Zp8 ZzK ZzS Zzp k
noncomputable def Z7H : List PK := [PK.mk (Ty.pair (Ty.int .i64) (Ty.int .i64)) true none false none]
noncomputable def ZiD : List PK := [PK.mk (Ty.pair (Ty.slice (5 : Nat) (Ty.int .u8)) (Ty.pair (Ty.int .i64) (Ty.int .u64))) false none false (some (58 : Nat))]
noncomputable def ZhM (r : (Int × Int) × Int × Int) : Tup Z7H × OutD := ((r.1, ()), some ⟨Ty.pair (Ty.slice (5 : Nat) (Ty.int .u8)) (Ty.pair (Ty.int .i64) (Ty.int .u64)), [([], r.2)]⟩)
noncomputable def Zct : Tup Z7H × OutD → Option ((Int × Int) × Int × Int)
 | (a, some ⟨u, ys⟩) => if h : u = Ty.pair (Ty.slice (5 : Nat) (Ty.int .u8)) (Ty.pair (Ty.int .i64) (Ty.int .u64)) then (match castU h ys with
  | [([], y)] => some (a.1, y)
  | _ => none) else none
 | _ => none
theorem ZoT : ∀ b r, Zct b = some r → ZhM r = b := by
 rintro ⟨a, o⟩ r h
 cases o with
 | none => cases h
 | some s =>
  obtain ⟨u, ys⟩ := s
  simp only [Zct] at h
  split at h
  ·rename_i hu
   subst hu
   match ys, h with
   | [], h => cases (show (none : Option _) = some r from h)
   | [([], y)], h => injection (show some _ = some r from h) with h; subst h; rfl
   | [(_ :: _, y)], h => cases (show (none : Option _) = some r from h)
   | (h1, _) :: _ :: _, h => cases h1 <;> cases (show (none : Option _) = some r from h)
  ·cases h
noncomputable def Z3N : Nat → List Int × Int × Int → Option ((Int × Int) × Int × Int)
 | 0, _ => none
 | k + 1, p0 =>
  Option.bind (Zfs k) fun z0 => Option.bind (Z0 k (Prod.fst p0, Prod.fst p0.2, Prod.snd p0.2) (↑(List.length z0) : Int)) fun z1 => if (0 : Int) ≤ Prod.fst z1 then if Prod.fst z1 < (↑(List.length z0) : Int) then some ((Prod.fst (List.getD z0 (Int.toNat z1.1) ((0 : Int), (0 : Int))), Prod.snd (List.getD z0 (Int.toNat z1.1) ((0 : Int), (0 : Int)))), Prod.fst z1.2, Prod.snd z1.2) else none else none
noncomputable def Z1N : FnDef := .of ZiD Z7H ((Int × Int) × Int × Int) (fun k x => Z3N k x.1) ZhM Zct ZoT
noncomputable def Zdu : Code := Try.f73.body.getD .skip
noncomputable def Zac : Ctx (Tup Z7H × OutD) := { T := T, G := [(97, Z6U.E), (57, Zd.E)], mvs := [], no := 2, n := 12, res := resOf T ZiD Z7H Try.f73.results.toList, loops := [], regs := [], conds := [], cuts := [] }
theorem Zui (k : Nat) : EnvOK Try.prog k Zac.G := (EnvOK.cons (ZCu k) (EnvOK.cons (ZH k) (EnvOK.nil mixed)))
theorem ZuH (k : Nat) (x : Tup Z1N.ps) : Z1N.f (k + 1) x = fnK Z1N Zac Zdu k x := by kernel_rfl
theorem Zvj (x : Tup Z1N.ps) : Z1N.f 0 x = none := by kernel_rfl
theorem Zv3 (k : Nat) : LOK Try.prog Zac k Zdu := LOK.by [] (by kernel_rfl) AllOK.nil
theorem ZiF (k : Nat) : SoundAt Try.prog k 73 Z1N.E := @Z1 Try.prog Z1N Zac 73 Try.f73 Zdu (by kernel_rfl) (by kernel_rfl) (by kernel_rfl) Try.func73 (by kernel_rfl) (by kernel_rfl) (by kernel_rfl) T_ok Zui Zv3 Zvj ZuH k
noncomputable def Z4M : List PK := [PK.mk (Ty.slice (36 : Nat) (Ty.slice (3 : Nat) (Ty.int .i64))) false none false none]
noncomputable def Zp0 : List PK := [PK.mk (Ty.pair (Ty.int .i64) (Ty.pair (Ty.int .i64) (Ty.slice (71 : Nat) (Ty.pair (Ty.int .i64) (Ty.int .i64))))) true none false none]
noncomputable def Zli (r : List (List Int)) : Tup Z4M × OutD := ((r, ()), none)
noncomputable def Zlp : Tup Z4M × OutD → Option (List (List Int))
 | (a, none) => some (a.1)
 | _ => none
theorem Ztk : ∀ b r, Zlp b = some r → Zli r = b := by
 rintro ⟨a, o⟩ r h
 cases o with
 | none => injection h with h; subst h; rfl
 | some _ => cases h
noncomputable def Z67 : Nat → Int → Int → List (Int × Int) → List Int → List Int → Int → Int → Option (Int × Int × List (Int × Int) × List Int × List Int)
 | 0, _, _, _, _, _, _, _ => none
 | k + 1, b1_0, b1_1, b1_2, o2, o3, v16, v17 =>
  if decide (v17 < v16) = true then if (0 : Int) ≤ v17 then if v17 < (↑(List.length o3) : Int) then Z67 k b1_0 b1_1 b1_2 o2 (List.set o3 (Int.toNat v17) (-1 : Int)) v16 (wrap64 (v17 + (1 : Int))) else none else none else some (b1_0, b1_1, b1_2, o2, o3)
noncomputable def ZdJ : Spec := Spec.mk [OSh.ro, OSh.box (26 : Nat) [Sh.int .i64, Sh.int .i64, Sh.snap (0 : Nat) (Ty.pair (Ty.int .i64) (Ty.int .i64))], OSh.row true (3 : Nat) (Ty.int .i64), OSh.row true (3 : Nat) (Ty.int .i64)] [((1 : Nat), TSh.at (Sh.ptr (1 : Nat) (0 : Nat))), ((3 : Nat), TSh.at (Sh.sl (2 : Nat))), ((4 : Nat), TSh.at (Sh.sl (3 : Nat))), ((16 : Nat), TSh.at (Sh.int .i64)), ((17 : Nat), TSh.at (Sh.int .i64))]
noncomputable def ZvS : Spec := Spec.mk [OSh.ro, OSh.box (26 : Nat) [Sh.int .i64, Sh.int .i64, Sh.snap (0 : Nat) (Ty.pair (Ty.int .i64) (Ty.int .i64))], OSh.row true (3 : Nat) (Ty.int .i64), OSh.row true (3 : Nat) (Ty.int .i64)] [((1 : Nat), TSh.at (Sh.ptr (1 : Nat) (0 : Nat))), ((3 : Nat), TSh.at (Sh.sl (2 : Nat))), ((4 : Nat), TSh.at (Sh.sl (3 : Nat)))]
noncomputable def Z5p : LoopDef (Tup Z4M × OutD) := .plain ZdJ ZvS (Int × Int × List (Int × Int) × List Int × List Int) (fun k x => Z67 k x.1.2.1.1 x.1.2.1.2.1 x.1.2.1.2.2.1 x.1.2.2.1 x.1.2.2.2.1 x.2.2.2.2.1 x.2.2.2.2.2.1) (fun z => (((), (z.1, z.2.1, z.2.2.1, ()), z.2.2.2.1, z.2.2.2.2, ()), ((), (), (), ()))) (fun y => (y.1.2.1.1, y.1.2.1.2.1, y.1.2.1.2.2.1, y.1.2.2.1, y.1.2.2.2.1)) (fun _ => rfl)
noncomputable def Z3n : Nat → List Int → List Int → List (List Int) → Int → List (Int × Int) → Int → Int → Option (List Int × List Int × List (List Int) × List (Int × Int) × Int × Int) := fun k o1 o2 o3 v7 v25 v26 v27 =>
    if (0 : Int) ≤ v7 then if v7 < (↑(List.length o1) : Int) then if (0 : Int) ≤ v7 then if v7 < (↑(List.length o1) : Int) then if (0 : Int) ≤ List.getD o1 (Int.toNat v7) (0 : Int) then if List.getD o1 (Int.toNat v7) (0 : Int) < (↑(List.length o2) : Int) then if (0 : Int) ≤ List.getD o2 (Int.toNat (List.getD o1 (Int.toNat v7) (0 : Int))) (0 : Int) then if List.getD o2 (Int.toNat (List.getD o1 (Int.toNat v7) (0 : Int))) (0 : Int) < (↑(List.length o3) : Int) then if (0 : Int) ≤ List.getD o1 (Int.toNat v7) (0 : Int) then if List.getD o1 (Int.toNat v7) (0 : Int) < (↑(List.length o2) : Int) then if List.length (List.getD o3 (Int.toNat (List.getD o2 (Int.toNat (List.getD o1 (Int.toNat v7) (0 : Int))) (0 : Int))) []) + List.length [v7] ≤ (140737488355328 / 8 : Nat) then if (0 : Int) ≤ List.getD o2 (Int.toNat (List.getD o1 (Int.toNat v7) (0 : Int))) (0 : Int) then if List.getD o2 (Int.toNat (List.getD o1 (Int.toNat v7) (0 : Int))) (0 : Int) < (↑(List.length o3) : Int) then if List.getD o2 (Int.toNat (List.getD o1 (Int.toNat v7) (0 : Int))) (0 : Int) = List.getD o2 (Int.toNat (List.getD o1 (Int.toNat v7) (0 : Int))) (0 : Int) then some (o1, o2, List.set o3 (Int.toNat (List.getD o2 (Int.toNat (List.getD o1 (Int.toNat v7) (0 : Int))) (0 : Int))) (List.getD o3 (Int.toNat (List.getD o2 (Int.toNat (List.getD o1 (Int.toNat v7) (0 : Int))) (0 : Int))) [] ++ [v7]), v25, v26, v27) else none else none else none else none else none else none else none else none else none else none else none else none else none else none
noncomputable def Z8x : Nat → List Int → List Int → List (List Int) → Int → List (Int × Int) → Int → Int → Option (List (List Int × List Int × List (List Int) × List (Int × Int) × Int × Int)) := fun k o1 o2 o3 v7 v25 v26 v27 =>
    if (0 : Int) ≤ v7 then if v7 < (↑(List.length o1) : Int) then if (0 : Int) ≤ v7 then if v7 < (↑(List.length o1) : Int) then if (0 : Int) ≤ List.getD o1 (Int.toNat v7) (0 : Int) then if List.getD o1 (Int.toNat v7) (0 : Int) < (↑(List.length o2) : Int) then if (0 : Int) ≤ List.getD o2 (Int.toNat (List.getD o1 (Int.toNat v7) (0 : Int))) (0 : Int) then if List.getD o2 (Int.toNat (List.getD o1 (Int.toNat v7) (0 : Int))) (0 : Int) < (↑(List.length o3) : Int) then joinL (if (0 : Int) ≤ List.getD o1 (Int.toNat v7) (0 : Int) then if List.getD o1 (Int.toNat v7) (0 : Int) < (↑(List.length o2) : Int) then joinL (if List.length (List.getD o3 (Int.toNat (List.getD o2 (Int.toNat (List.getD o1 (Int.toNat v7) (0 : Int))) (0 : Int))) []) + List.length [v7] ≤ (140737488355328 / 8 : Nat) then if (0 : Int) ≤ List.getD o2 (Int.toNat (List.getD o1 (Int.toNat v7) (0 : Int))) (0 : Int) then if List.getD o2 (Int.toNat (List.getD o1 (Int.toNat v7) (0 : Int))) (0 : Int) < (↑(List.length o3) : Int) then if List.getD o2 (Int.toNat (List.getD o1 (Int.toNat v7) (0 : Int))) (0 : Int) = List.getD o2 (Int.toNat (List.getD o1 (Int.toNat v7) (0 : Int))) (0 : Int) then some [(o1, o2, List.set o3 (Int.toNat (List.getD o2 (Int.toNat (List.getD o1 (Int.toNat v7) (0 : Int))) (0 : Int))) (List.getD o3 (Int.toNat (List.getD o2 (Int.toNat (List.getD o1 (Int.toNat v7) (0 : Int))) (0 : Int))) [] ++ [v7]), v25, v26, v27)] else none else none else none else none) (joinL (if List.length (List.getD o3 (Int.toNat (List.getD o2 (Int.toNat (List.getD o1 (Int.toNat v7) (0 : Int))) (0 : Int))) []) + List.length [v7] ≤ (140737488355328 / 8 : Nat) then if (0 : Int) ≤ List.getD o2 (Int.toNat (List.getD o1 (Int.toNat v7) (0 : Int))) (0 : Int) then if List.getD o2 (Int.toNat (List.getD o1 (Int.toNat v7) (0 : Int))) (0 : Int) < (↑(List.length o3) : Int) then if List.getD o2 (Int.toNat (List.getD o1 (Int.toNat v7) (0 : Int))) (0 : Int) = List.getD o2 (Int.toNat (List.getD o1 (Int.toNat v7) (0 : Int))) (0 : Int) then some [(o1, o2, List.set o3 (Int.toNat (List.getD o2 (Int.toNat (List.getD o1 (Int.toNat v7) (0 : Int))) (0 : Int))) (List.getD o3 (Int.toNat (List.getD o2 (Int.toNat (List.getD o1 (Int.toNat v7) (0 : Int))) (0 : Int))) [] ++ [v7]), v25, v26, v27)] else none else none else none else none) (if List.length (List.getD o3 (Int.toNat (List.getD o2 (Int.toNat (List.getD o1 (Int.toNat v7) (0 : Int))) (0 : Int))) []) + List.length [v7] ≤ (140737488355328 / 8 : Nat) then if (0 : Int) ≤ List.getD o2 (Int.toNat (List.getD o1 (Int.toNat v7) (0 : Int))) (0 : Int) then if List.getD o2 (Int.toNat (List.getD o1 (Int.toNat v7) (0 : Int))) (0 : Int) < (↑(List.length o3) : Int) then if List.getD o2 (Int.toNat (List.getD o1 (Int.toNat v7) (0 : Int))) (0 : Int) = List.getD o2 (Int.toNat (List.getD o1 (Int.toNat v7) (0 : Int))) (0 : Int) then some [(o1, o2, List.set o3 (Int.toNat (List.getD o2 (Int.toNat (List.getD o1 (Int.toNat v7) (0 : Int))) (0 : Int))) (List.getD o3 (Int.toNat (List.getD o2 (Int.toNat (List.getD o1 (Int.toNat v7) (0 : Int))) (0 : Int))) [] ++ [v7]), v25, v26, v27)] else none else none else none else none)) else none else none) (joinL (if (0 : Int) ≤ List.getD o1 (Int.toNat v7) (0 : Int) then if List.getD o1 (Int.toNat v7) (0 : Int) < (↑(List.length o2) : Int) then joinL (if List.length (List.getD o3 (Int.toNat (List.getD o2 (Int.toNat (List.getD o1 (Int.toNat v7) (0 : Int))) (0 : Int))) []) + List.length [v7] ≤ (140737488355328 / 8 : Nat) then if (0 : Int) ≤ List.getD o2 (Int.toNat (List.getD o1 (Int.toNat v7) (0 : Int))) (0 : Int) then if List.getD o2 (Int.toNat (List.getD o1 (Int.toNat v7) (0 : Int))) (0 : Int) < (↑(List.length o3) : Int) then if List.getD o2 (Int.toNat (List.getD o1 (Int.toNat v7) (0 : Int))) (0 : Int) = List.getD o2 (Int.toNat (List.getD o1 (Int.toNat v7) (0 : Int))) (0 : Int) then some [(o1, o2, List.set o3 (Int.toNat (List.getD o2 (Int.toNat (List.getD o1 (Int.toNat v7) (0 : Int))) (0 : Int))) (List.getD o3 (Int.toNat (List.getD o2 (Int.toNat (List.getD o1 (Int.toNat v7) (0 : Int))) (0 : Int))) [] ++ [v7]), v25, v26, v27)] else none else none else none else none) (if List.length (List.getD o3 (Int.toNat (List.getD o2 (Int.toNat (List.getD o1 (Int.toNat v7) (0 : Int))) (0 : Int))) []) + List.length [v7] ≤ (140737488355328 / 8 : Nat) then if (0 : Int) ≤ List.getD o2 (Int.toNat (List.getD o1 (Int.toNat v7) (0 : Int))) (0 : Int) then if List.getD o2 (Int.toNat (List.getD o1 (Int.toNat v7) (0 : Int))) (0 : Int) < (↑(List.length o3) : Int) then if List.getD o2 (Int.toNat (List.getD o1 (Int.toNat v7) (0 : Int))) (0 : Int) = List.getD o2 (Int.toNat (List.getD o1 (Int.toNat v7) (0 : Int))) (0 : Int) then some [(o1, o2, List.set o3 (Int.toNat (List.getD o2 (Int.toNat (List.getD o1 (Int.toNat v7) (0 : Int))) (0 : Int))) (List.getD o3 (Int.toNat (List.getD o2 (Int.toNat (List.getD o1 (Int.toNat v7) (0 : Int))) (0 : Int))) [] ++ [v7]), v25, v26, v27)] else none else none else none else none) else none else none) (if List.length (List.getD o3 (Int.toNat (List.getD o2 (Int.toNat (List.getD o1 (Int.toNat v7) (0 : Int))) (0 : Int))) []) + List.length [v7] ≤ (140737488355328 / 8 : Nat) then if (0 : Int) ≤ List.getD o1 (Int.toNat v7) (0 : Int) then if List.getD o1 (Int.toNat v7) (0 : Int) < (↑(List.length o2) : Int) then if (0 : Int) ≤ List.getD o2 (Int.toNat (List.getD o1 (Int.toNat v7) (0 : Int))) (0 : Int) then if List.getD o2 (Int.toNat (List.getD o1 (Int.toNat v7) (0 : Int))) (0 : Int) < (↑(List.length o3) : Int) then if List.getD o2 (Int.toNat (List.getD o1 (Int.toNat v7) (0 : Int))) (0 : Int) = List.getD o2 (Int.toNat (List.getD o1 (Int.toNat v7) (0 : Int))) (0 : Int) then some [(o1, o2, List.set o3 (Int.toNat (List.getD o2 (Int.toNat (List.getD o1 (Int.toNat v7) (0 : Int))) (0 : Int))) (List.getD o3 (Int.toNat (List.getD o2 (Int.toNat (List.getD o1 (Int.toNat v7) (0 : Int))) (0 : Int))) [] ++ [v7]), v25, v26, v27)] else none else none else none else none else none else none)) else none else none else none else none else none else none else none else none
noncomputable def Zgy : Spec := Spec.mk [OSh.ro, OSh.row true (3 : Nat) (Ty.int .i64), OSh.row true (3 : Nat) (Ty.int .i64), OSh.row true (36 : Nat) (Ty.slice (3 : Nat) (Ty.int .i64))] [((3 : Nat), TSh.at (Sh.sl (1 : Nat))), ((4 : Nat), TSh.at (Sh.sl (2 : Nat))), ((6 : Nat), TSh.at (Sh.sl (3 : Nat))), ((7 : Nat), TSh.at (Sh.int .i64)), ((25 : Nat), TSh.at (Sh.snap (0 : Nat) (Ty.pair (Ty.int .i64) (Ty.int .i64)))), ((26 : Nat), TSh.at (Sh.int .i64)), ((27 : Nat), TSh.at (Sh.int .i64))]
noncomputable def Zri : Spec := Spec.mk [OSh.ro, OSh.row true (3 : Nat) (Ty.int .i64), OSh.row true (3 : Nat) (Ty.int .i64), OSh.row true (36 : Nat) (Ty.slice (3 : Nat) (Ty.int .i64))] [((3 : Nat), TSh.at (Sh.sl (1 : Nat))), ((4 : Nat), TSh.at (Sh.sl (2 : Nat))), ((6 : Nat), TSh.at (Sh.sl (3 : Nat))), ((25 : Nat), TSh.at (Sh.snap (0 : Nat) (Ty.pair (Ty.int .i64) (Ty.int .i64)))), ((26 : Nat), TSh.at (Sh.int .i64)), ((27 : Nat), TSh.at (Sh.int .i64))]
noncomputable def Z4c : LoopDef (Tup Z4M × OutD) := .plain Zgy Zri (List Int × List Int × List (List Int) × List (Int × Int) × Int × Int) (fun k x => Z3n k x.1.2.1 x.1.2.2.1 x.1.2.2.2.1 x.2.2.2.2.1 x.2.2.2.2.2.1 x.2.2.2.2.2.2.1 x.2.2.2.2.2.2.2.1) (fun z => (((), z.1, z.2.1, z.2.2.1, ()), ((), (), (), z.2.2.2.1, z.2.2.2.2.1, z.2.2.2.2.2, ()))) (fun y => (y.1.2.1, y.1.2.2.1, y.1.2.2.2.1, y.2.2.2.2.1, y.2.2.2.2.2.1, y.2.2.2.2.2.2.1)) (fun _ => rfl)
theorem Zr3 (k : Nat) (o1 : List Int) (o2 : List Int) (o3 : List (List Int)) (v7 : Int) (v25 : List (Int × Int)) (v26 : Int) (v27 : Int) : Z8x k o1 o2 o3 v7 v25 v26 v27 = repl 6 (Z3n k o1 o2 o3 v7 v25 v26 v27) := by
 first
 | (simp only [Z8x, Z3n, Zi, Zt, Zk, Zj, Zl, Z3, if_true]; done)
 | (simp only [Z8x, Z3n, Zi, Zt, Zk, Zj, Zl, Z3, if_true]; simp only [Z1K, Z1L, Z3L, Z3]; simp only [Z5k]; exact Z2N ⟨fun h => by simp only [h, and_self], fun h => by simp only [h, and_self]⟩)
noncomputable def Z10 : Nat → List Int → List Int → List (List Int) → List (Int × Int) → Int → Int → Option (List (List Int))
 | 0, _, _, _, _, _, _ => none
 | k + 1, o1, o2, o3, v25, v26, v27 =>
  if decide (v27 < v26) = true then if (0 : Int) ≤ v27 then if v27 < (↑(List.length v25) : Int) then if decide (Prod.fst (List.getD v25 (Int.toNat v27) ((0 : Int), (0 : Int))) = (3 : Int)) = true then if List.length o3 + List.length [[v27]] ≤ (140737488355328 / 24 : Nat) then Z10 k o1 o2 (o3 ++ [[v27]]) v25 v26 (wrap64 (v27 + (1 : Int))) else none else if decide (Prod.fst (List.getD v25 (Int.toNat v27) ((0 : Int), (0 : Int))) = (6 : Int)) = true then if (0 : Int) ≤ v27 then if v27 < (↑(List.length o1) : Int) then if (0 : Int) ≤ List.getD o1 (Int.toNat v27) (0 : Int) then if List.getD o1 (Int.toNat v27) (0 : Int) < (↑(List.length o2) : Int) then if decide (List.getD o2 (Int.toNat (List.getD o1 (Int.toNat v27) (0 : Int))) (0 : Int) < (0 : Int)) = true then if (0 : Int) ≤ v27 then if v27 < (↑(List.length o1) : Int) then if (0 : Int) ≤ List.getD o1 (Int.toNat v27) (0 : Int) then if List.getD o1 (Int.toNat v27) (0 : Int) < (↑(List.length o2) : Int) then if List.length o3 + List.length [[v27]] ≤ (140737488355328 / 24 : Nat) then Z10 k o1 (List.set o2 (Int.toNat (List.getD o1 (Int.toNat v27) (0 : Int))) (↑(List.length o3) : Int)) (o3 ++ [[v27]]) v25 v26 (wrap64 (v27 + (1 : Int))) else none else none else none else none else none else if decide (Prod.fst (List.getD v25 (Int.toNat v27) ((0 : Int), (0 : Int))) = (6 : Int)) = true then Option.bind (Z3n k o1 o2 o3 v27 v25 v26 v27) fun z2 => Z10 k z2.1 z2.2.1 z2.2.2.1 z2.2.2.2.1 z2.2.2.2.2.1 (wrap64 (Prod.snd z2.2.2.2.2 + (1 : Int))) else Z10 k o1 o2 o3 v25 v26 (wrap64 (v27 + (1 : Int))) else none else none else none else none else if decide (Prod.fst (List.getD v25 (Int.toNat v27) ((0 : Int), (0 : Int))) = (6 : Int)) = true then Option.bind (Z3n k o1 o2 o3 v27 v25 v26 v27) fun z3 => Z10 k z3.1 z3.2.1 z3.2.2.1 z3.2.2.2.1 z3.2.2.2.2.1 (wrap64 (Prod.snd z3.2.2.2.2 + (1 : Int))) else Z10 k o1 o2 o3 v25 v26 (wrap64 (v27 + (1 : Int))) else none else none else some o3
noncomputable def ZdD : Spec := Spec.mk [OSh.ro, OSh.row true (3 : Nat) (Ty.int .i64), OSh.row true (3 : Nat) (Ty.int .i64), OSh.row true (36 : Nat) (Ty.slice (3 : Nat) (Ty.int .i64))] [((3 : Nat), TSh.at (Sh.sl (1 : Nat))), ((4 : Nat), TSh.at (Sh.sl (2 : Nat))), ((6 : Nat), TSh.at (Sh.sl (3 : Nat))), ((25 : Nat), TSh.at (Sh.snap (0 : Nat) (Ty.pair (Ty.int .i64) (Ty.int .i64)))), ((26 : Nat), TSh.at (Sh.int .i64)), ((27 : Nat), TSh.at (Sh.int .i64))]
noncomputable def Zux : Spec := Spec.mk [OSh.ro, OSh.row true (36 : Nat) (Ty.slice (3 : Nat) (Ty.int .i64))] [((6 : Nat), TSh.at (Sh.sl (1 : Nat)))]
noncomputable def Z5e : LoopDef (Tup Z4M × OutD) := .plain ZdD Zux (List (List Int)) (fun k x => Z10 k x.1.2.1 x.1.2.2.1 x.1.2.2.2.1 x.2.2.2.2.1 x.2.2.2.2.2.1 x.2.2.2.2.2.2.1) (fun z => (((), z, ()), ((), ()))) (fun y => (y.1.2.1)) (fun _ => rfl)
noncomputable def Z3H : Nat → Int × Int × List (Int × Int) → Option (List (List Int))
 | 0, _ => none
 | k + 1, p0 =>
  Option.bind (ZF k (Prod.fst p0, Prod.fst p0.2, Prod.snd p0.2)) fun z0 => if Int.toNat (↑(List.length p0.2.2) : Int) * (8 : Nat) ≤ (281474976710656 : Nat) then Option.bind (Z67 k p0.1 p0.2.1 p0.2.2 z0 (List.replicate (Int.toNat (↑(List.length p0.2.2) : Int)) (0 : Int)) (↑(List.length (List.replicate (Int.toNat (↑(List.length p0.2.2) : Int)) (0 : Int))) : Int) (0 : Int)) fun z1 => Option.bind (Z10 k z1.2.2.2.1 z1.2.2.2.2 [] z1.2.2.1 (↑(List.length z1.2.2.1) : Int) (0 : Int)) fun z4 => some z4 else none
noncomputable def ZZ : FnDef := .of Zp0 Z4M (List (List Int)) (fun k x => Z3H k x.1) Zli Zlp Ztk
noncomputable def Z8e : Code := Try.f81.body.getD .skip
noncomputable def Zz : Ctx (Tup Z4M × OutD) := { T := T, G := [(92, Z1Z.E)], mvs := [], no := 0, n := 96, res := resOf T Zp0 Z4M Try.f81.results.toList, loops := [(0, Z5p.E), (2, Z5e.E)], regs := [(18, Z4c.E)], conds := [], cuts := [] }
theorem Zde (k : Nat) : EnvOK Try.prog k Zz.G := (EnvOK.cons (ZfQ k) (EnvOK.nil mixed))
noncomputable def ZbS : Array Oper := (findReg 18 Z8e).getD #[]
theorem ZqX (k : Nat) (x : Zgy.D) : execD Zz.T Zz.G Zz.mvs k ZbS (Z4c.inp.st Zz.n x) (outK Zz Z4c) = Z8x k x.1.2.1 x.1.2.2.1 x.1.2.2.2.1 x.2.2.2.2.1 x.2.2.2.2.2.1 x.2.2.2.2.2.2.1 x.2.2.2.2.2.2.2.1 := by kernel_rfl
theorem ZpF (k : Nat) : EOK Try.prog Zz k Z4c.E (.region 18 ZbS true) := Z7N (D := Z4c) (m := 6) T_ok (Zde k) (fun x => (ZqX k x).trans (Zr3 k x.1.2.1 x.1.2.2.1 x.1.2.2.2.1 x.2.2.2.2.1 x.2.2.2.2.2.1 x.2.2.2.2.2.2.1 x.2.2.2.2.2.2.2.1))
noncomputable def Zad : Code := (findLoop 0 Z8e).getD .skip
theorem ZuE (k : Nat) (x : ZdJ.D) : Z5p.lp (k + 1) x = loopK Zz Z5p 0 Zad k x := by kernel_rfl
theorem Zvi (k : Nat) : LOK Try.prog Zz k Zad := LOK.by [] (by kernel_rfl) AllOK.nil
theorem ZuR (x : ZdJ.D) : Z5p.lp 0 x = none := by kernel_rfl
theorem Zsj (k : Nat) : EOK Try.prog Zz k Z5p.E (.block 0 (.loop Zad)) := Z5 T_ok Zde ZuR ZuE Zvi k
noncomputable def Za8 : Code := (findLoop 2 Z8e).getD .skip
theorem ZvU (k : Nat) (x : ZdD.D) : Z5e.lp (k + 1) x = loopK Zz Z5e 2 Za8 k x := by kernel_rfl
theorem Zv7 (k : Nat) : LOK Try.prog Zz k Za8 := LOK.by [(Z4c.E, .region 18 ZbS true)] (by kernel_rfl) (AllOK.cons (ZpF k) AllOK.nil)
theorem Zuz (x : ZdD.D) : Z5e.lp 0 x = none := by kernel_rfl
theorem ZsM (k : Nat) : EOK Try.prog Zz k Z5e.E (.block 2 (.loop Za8)) := Z5 T_ok Zde Zuz ZvU Zv7 k
theorem ZzJ (k : Nat) (x : Tup ZZ.ps) : ZZ.f (k + 1) x = fnK ZZ Zz Z8e k x := by kernel_rfl
theorem ZzI (x : Tup ZZ.ps) : ZZ.f 0 x = none := by kernel_rfl
theorem ZzV (k : Nat) : LOK Try.prog Zz k Z8e := LOK.by [(Z5p.E, .block 0 (.loop Zad)), (Z5e.E, .block 2 (.loop Za8))] (by kernel_rfl) (AllOK.cons (Zsj k) (AllOK.cons (ZsM k) AllOK.nil))
theorem Z8f (k : Nat) : SoundAt Try.prog k 81 ZZ.E := @Z1 Try.prog ZZ Zz 81 Try.f81 Z8e (by kernel_rfl) (by kernel_rfl) (by kernel_rfl) Try.func81 (by kernel_rfl) (by kernel_rfl) (by kernel_rfl) T_ok Zde ZzV ZzI ZzJ k
noncomputable def Z8X : List PK := [PK.mk Ty.bool false none false none]
noncomputable def ZqF : List PK := [PK.mk (Ty.pair (Ty.int .i64) (Ty.pair (Ty.int .i64) (Ty.slice (71 : Nat) (Ty.pair (Ty.int .i64) (Ty.int .i64))))) true none false none]
noncomputable def ZgX (r : Bool) : Tup Z8X × OutD := ((r, ()), none)
noncomputable def ZgU : Tup Z8X × OutD → Option (Bool)
 | (a, none) => some (a.1)
 | _ => none
theorem ZiU : ∀ b r, ZgU b = some r → ZgX r = b := by
 rintro ⟨a, o⟩ r h
 cases o with
 | none => injection h with h; subst h; rfl
 | some _ => cases h
noncomputable def Z7i : Nat → List (Int × Int) → Int → Int → Option (LR Unit Bool)
 | 0, _, _, _ => none
 | k + 1, v27, v28, v29 =>
  if decide (v29 < v28) = true then if (0 : Int) ≤ v29 then if v29 < (↑(List.length v27) : Int) then Option.bind (Zej k (Prod.fst (List.getD v27 (Int.toNat v29) ((0 : Int), (0 : Int))), Prod.snd (List.getD v27 (Int.toNat v29) ((0 : Int), (0 : Int))))) fun z2 => if (!z2) = true then some (LR.ret false) else Z7i k v27 v28 (wrap64 (v29 + (1 : Int))) else none else none else some (LR.go ())
noncomputable def ZeI : Spec := Spec.mk [OSh.ro] [((27 : Nat), TSh.at (Sh.snap (0 : Nat) (Ty.pair (Ty.int .i64) (Ty.int .i64)))), ((28 : Nat), TSh.at (Sh.int .i64)), ((29 : Nat), TSh.at (Sh.int .i64))]
noncomputable def Zwy : Spec := Spec.mk [OSh.ro] []
noncomputable def Z6a : LoopDef (Tup Z8X × OutD) := .rets ZeI Zwy (Unit) (Bool) (fun k x => Z7i k x.2.1 x.2.2.1 x.2.2.2.1) (fun z => (((), ()), (()))) (fun y => ()) (fun _ => rfl) ZgX ZgU ZiU
noncomputable def Z8Z : Nat → Int × Int × List (Int × Int) → Option Bool
 | 0, _ => none
 | k + 1, p0 =>
  Option.bind (Z4V k p0.1 (1 : Int) (10 : Int)) fun z0 => if (!z0) = true then some false else Option.bind (Z4V k p0.2.1 (1 : Int) (9 : Int)) fun z1 => if (!z1) = true then some false else if decide ((↑(List.length p0.2.2) : Int) ≠ wrap64 (Prod.fst p0 * Prod.fst p0.2)) = true then some false else Option.bind (Z7i k p0.2.2 (↑(List.length p0.2.2) : Int) (0 : Int)) fun z3 => LR.on z3 (fun y3 => some true) fun r3 => some r3
noncomputable def Z3u : FnDef := .of ZqF Z8X (Bool) (fun k x => Z8Z k x.1) ZgX ZgU ZiU
noncomputable def Zeq : Code := Try.f86.body.getD .skip
noncomputable def Z7D : Ctx (Tup Z8X × OutD) := { T := T, G := [(94, Z3x.E), (103, Z5C.E)], mvs := [], no := 0, n := 37, res := resOf T ZqF Z8X Try.f86.results.toList, loops := [(0, Z6a.E)], regs := [], conds := [], cuts := [] }
theorem ZqH (k : Nat) : EnvOK Try.prog k Z7D.G := (EnvOK.cons (ZdX k) (EnvOK.cons (ZAQ k) (EnvOK.nil mixed)))
noncomputable def Zb1 : Code := (findLoop 0 Zeq).getD .skip
theorem Zx6 (k : Nat) (x : ZeI.D) : Z6a.lp (k + 1) x = loopK Z7D Z6a 0 Zb1 k x := by kernel_rfl
theorem ZwP (k : Nat) : LOK Try.prog Z7D k Zb1 := LOK.by [] (by kernel_rfl) AllOK.nil
theorem Zxa (x : ZeI.D) : Z6a.lp 0 x = none := by kernel_rfl
theorem Zun (k : Nat) : EOK Try.prog Z7D k Z6a.E (.block 0 (.loop Zb1)) := Z5 T_ok ZqH Zxa Zx6 ZwP k
theorem ZBj (k : Nat) (x : Tup Z3u.ps) : Z3u.f (k + 1) x = fnK Z3u Z7D Zeq k x := by kernel_rfl
theorem ZBz (x : Tup Z3u.ps) : Z3u.f 0 x = none := by kernel_rfl
theorem ZAW (k : Nat) : LOK Try.prog Z7D k Zeq := LOK.by [(Z6a.E, .block 0 (.loop Zb1))] (by kernel_rfl) (AllOK.cons (Zun k) AllOK.nil)
theorem Zie (k : Nat) : SoundAt Try.prog k 86 Z3u.E := @Z1 Try.prog Z3u Z7D 86 Try.f86 Zeq (by kernel_rfl) (by kernel_rfl) (by kernel_rfl) Try.func86 (by kernel_rfl) (by kernel_rfl) (by kernel_rfl) T_ok ZqH ZAW ZBz ZBj k
noncomputable def Z6H : List PK := [PK.mk (Ty.pair (Ty.int .i64) (Ty.pair (Ty.int .i64) (Ty.int .i64))) true none false none, PK.mk (Ty.pair (Ty.int .i64) (Ty.pair (Ty.int .i64) (Ty.slice (71 : Nat) (Ty.pair (Ty.int .i64) (Ty.int .i64))))) true none false none, PK.mk (Ty.slice (36 : Nat) (Ty.slice (3 : Nat) (Ty.int .i64))) false none false none]
noncomputable def Zw0 : List PK := [PK.mk (Ty.pair (Ty.int .i64) (Ty.pair (Ty.int .i64) (Ty.slice (71 : Nat) (Ty.pair (Ty.int .i64) (Ty.int .i64))))) true none false none, PK.mk (Ty.slice (3 : Nat) (Ty.int .i64)) false none false none, PK.mk (Ty.int .i64) false none false none]
noncomputable def ZjD (r : (Int × Int × Int) × (Int × Int × List (Int × Int)) × List (List Int)) : Tup Z6H × OutD := ((r.1, r.2.1, r.2.2, ()), none)
noncomputable def Zk0 : Tup Z6H × OutD → Option ((Int × Int × Int) × (Int × Int × List (Int × Int)) × List (List Int))
 | (a, none) => some (a.1, a.2.1, a.2.2.1)
 | _ => none
theorem ZlS : ∀ b r, Zk0 b = some r → ZjD r = b := by
 rintro ⟨a, o⟩ r h
 cases o with
 | none => injection h with h; subst h; rfl
 | some _ => cases h
noncomputable def Z5c : Nat → Int → Int → Int → Int → Int → List (Int × Int) → Int → Int → List (Int × Int) → List (List Int) → Int → Int → Option (Int × Int × Int × Int × Int × List (Int × Int) × List (List Int)) := fun k b1_0 b1_1 b1_2 b2_0 b2_1 o3 b4_0 b4_1 o5 o6 v2 v12 =>
    some ((2 : Int), v12, v2, b4_0, b4_1, o5, o6)
noncomputable def Zba : Nat → Int → Int → Int → Int → Int → List (Int × Int) → Int → Int → List (Int × Int) → List (List Int) → Int → Int → Option (List (Int × Int × Int × Int × Int × List (Int × Int) × List (List Int))) := fun k b1_0 b1_1 b1_2 b2_0 b2_1 o3 b4_0 b4_1 o5 o6 v2 v12 =>
    joinL (some [((2 : Int), v12, v2, b4_0, b4_1, o5, o6)]) (some [((2 : Int), v12, v2, b4_0, b4_1, o5, o6)])
noncomputable def ZjA : Spec := Spec.mk [OSh.ro, OSh.box (75 : Nat) [Sh.int .i64, Sh.int .i64, Sh.int .i64], OSh.box (26 : Nat) [Sh.int .i64, Sh.int .i64, Sh.sl (3 : Nat)], OSh.row true (71 : Nat) (Ty.pair (Ty.int .i64) (Ty.int .i64)), OSh.box (26 : Nat) [Sh.int .i64, Sh.int .i64, Sh.sl (5 : Nat)], OSh.row true (71 : Nat) (Ty.pair (Ty.int .i64) (Ty.int .i64)), OSh.row true (36 : Nat) (Ty.slice (3 : Nat) (Ty.int .i64))] [((2 : Nat), TSh.at (Sh.int .i64)), ((6 : Nat), TSh.at (Sh.ptr (1 : Nat) (0 : Nat))), ((7 : Nat), TSh.at (Sh.ptr (2 : Nat) (0 : Nat))), ((9 : Nat), TSh.at (Sh.ptr (4 : Nat) (0 : Nat))), ((10 : Nat), TSh.at (Sh.sl (6 : Nat))), ((12 : Nat), TSh.at (Sh.int .i64))]
noncomputable def ZwL : Spec := Spec.mk [OSh.ro, OSh.box (75 : Nat) [Sh.int .i64, Sh.int .i64, Sh.int .i64], OSh.box (26 : Nat) [Sh.int .i64, Sh.int .i64, Sh.sl (3 : Nat)], OSh.row true (71 : Nat) (Ty.pair (Ty.int .i64) (Ty.int .i64)), OSh.row true (36 : Nat) (Ty.slice (3 : Nat) (Ty.int .i64))] [((6 : Nat), TSh.at (Sh.ptr (1 : Nat) (0 : Nat))), ((7 : Nat), TSh.at (Sh.ptr (2 : Nat) (0 : Nat))), ((8 : Nat), TSh.at (Sh.sl (4 : Nat)))]
noncomputable def Z63 : LoopDef (Tup Z6H × OutD) := .plain ZjA ZwL (Int × Int × Int × Int × Int × List (Int × Int) × List (List Int)) (fun k x => Z5c k x.1.2.1.1 x.1.2.1.2.1 x.1.2.1.2.2.1 x.1.2.2.1.1 x.1.2.2.1.2.1 x.1.2.2.2.1 x.1.2.2.2.2.1.1 x.1.2.2.2.2.1.2.1 x.1.2.2.2.2.2.1 x.1.2.2.2.2.2.2.1 x.2.1 x.2.2.2.2.2.2.1) (fun z => (((), (z.1, z.2.1, z.2.2.1, ()), (z.2.2.2.1, z.2.2.2.2.1, (), ()), z.2.2.2.2.2.1, z.2.2.2.2.2.2, ()), ((), (), (), ()))) (fun y => (y.1.2.1.1, y.1.2.1.2.1, y.1.2.1.2.2.1, y.1.2.2.1.1, y.1.2.2.1.2.1, y.1.2.2.2.1, y.1.2.2.2.2.1)) (fun _ => rfl)
theorem ZxP (k : Nat) (b1_0 : Int) (b1_1 : Int) (b1_2 : Int) (b2_0 : Int) (b2_1 : Int) (o3 : List (Int × Int)) (b4_0 : Int) (b4_1 : Int) (o5 : List (Int × Int)) (o6 : List (List Int)) (v2 : Int) (v12 : Int) : Zba k b1_0 b1_1 b1_2 b2_0 b2_1 o3 b4_0 b4_1 o5 o6 v2 v12 = repl 2 (Z5c k b1_0 b1_1 b1_2 b2_0 b2_1 o3 b4_0 b4_1 o5 o6 v2 v12) := by
 first
 | (simp only [Zba, Z5c, Zi, Zt, Zk, Zj, Zl, Z3, if_true]; done)
 | (simp only [Zba, Z5c, Zi, Zt, Zk, Zj, Zl, Z3, if_true]; simp only [Z1K, Z1L, Z3L, Z3]; simp only [Z5k]; exact Z2N ⟨fun h => by simp only [h, and_self], fun h => by simp only [h, and_self]⟩)
noncomputable def Z4Y : Nat → Int → Int → Int → Int → Int → List (Int × Int) → Int → Int → List (Int × Int) → List (List Int) → Int → Int → Option (Int × Int × Int × Int × Int × List (Int × Int) × List (List Int)) := fun k b1_0 b1_1 b1_2 b2_0 b2_1 o3 b4_0 b4_1 o5 o6 v2 v12 =>
    some ((3 : Int), v12, v2, b4_0, b4_1, o5, o6)
noncomputable def Zbo : Nat → Int → Int → Int → Int → Int → List (Int × Int) → Int → Int → List (Int × Int) → List (List Int) → Int → Int → Option (List (Int × Int × Int × Int × Int × List (Int × Int) × List (List Int))) := fun k b1_0 b1_1 b1_2 b2_0 b2_1 o3 b4_0 b4_1 o5 o6 v2 v12 =>
    joinL (some [((3 : Int), v12, v2, b4_0, b4_1, o5, o6)]) (some [((3 : Int), v12, v2, b4_0, b4_1, o5, o6)])
noncomputable def ZjL : Spec := Spec.mk [OSh.ro, OSh.box (75 : Nat) [Sh.int .i64, Sh.int .i64, Sh.int .i64], OSh.box (26 : Nat) [Sh.int .i64, Sh.int .i64, Sh.sl (3 : Nat)], OSh.row true (71 : Nat) (Ty.pair (Ty.int .i64) (Ty.int .i64)), OSh.box (26 : Nat) [Sh.int .i64, Sh.int .i64, Sh.sl (5 : Nat)], OSh.row true (71 : Nat) (Ty.pair (Ty.int .i64) (Ty.int .i64)), OSh.row true (36 : Nat) (Ty.slice (3 : Nat) (Ty.int .i64))] [((2 : Nat), TSh.at (Sh.int .i64)), ((6 : Nat), TSh.at (Sh.ptr (1 : Nat) (0 : Nat))), ((7 : Nat), TSh.at (Sh.ptr (2 : Nat) (0 : Nat))), ((9 : Nat), TSh.at (Sh.ptr (4 : Nat) (0 : Nat))), ((10 : Nat), TSh.at (Sh.sl (6 : Nat))), ((12 : Nat), TSh.at (Sh.int .i64))]
noncomputable def ZxE : Spec := Spec.mk [OSh.ro, OSh.box (75 : Nat) [Sh.int .i64, Sh.int .i64, Sh.int .i64], OSh.box (26 : Nat) [Sh.int .i64, Sh.int .i64, Sh.sl (3 : Nat)], OSh.row true (71 : Nat) (Ty.pair (Ty.int .i64) (Ty.int .i64)), OSh.row true (36 : Nat) (Ty.slice (3 : Nat) (Ty.int .i64))] [((6 : Nat), TSh.at (Sh.ptr (1 : Nat) (0 : Nat))), ((7 : Nat), TSh.at (Sh.ptr (2 : Nat) (0 : Nat))), ((8 : Nat), TSh.at (Sh.sl (4 : Nat)))]
noncomputable def Z5V : LoopDef (Tup Z6H × OutD) := .plain ZjL ZxE (Int × Int × Int × Int × Int × List (Int × Int) × List (List Int)) (fun k x => Z4Y k x.1.2.1.1 x.1.2.1.2.1 x.1.2.1.2.2.1 x.1.2.2.1.1 x.1.2.2.1.2.1 x.1.2.2.2.1 x.1.2.2.2.2.1.1 x.1.2.2.2.2.1.2.1 x.1.2.2.2.2.2.1 x.1.2.2.2.2.2.2.1 x.2.1 x.2.2.2.2.2.2.1) (fun z => (((), (z.1, z.2.1, z.2.2.1, ()), (z.2.2.2.1, z.2.2.2.2.1, (), ()), z.2.2.2.2.2.1, z.2.2.2.2.2.2, ()), ((), (), (), ()))) (fun y => (y.1.2.1.1, y.1.2.1.2.1, y.1.2.1.2.2.1, y.1.2.2.1.1, y.1.2.2.1.2.1, y.1.2.2.2.1, y.1.2.2.2.2.1)) (fun _ => rfl)
theorem ZxM (k : Nat) (b1_0 : Int) (b1_1 : Int) (b1_2 : Int) (b2_0 : Int) (b2_1 : Int) (o3 : List (Int × Int)) (b4_0 : Int) (b4_1 : Int) (o5 : List (Int × Int)) (o6 : List (List Int)) (v2 : Int) (v12 : Int) : Zbo k b1_0 b1_1 b1_2 b2_0 b2_1 o3 b4_0 b4_1 o5 o6 v2 v12 = repl 2 (Z4Y k b1_0 b1_1 b1_2 b2_0 b2_1 o3 b4_0 b4_1 o5 o6 v2 v12) := by
 first
 | (simp only [Zbo, Z4Y, Zi, Zt, Zk, Zj, Zl, Z3, if_true]; done)
 | (simp only [Zbo, Z4Y, Zi, Zt, Zk, Zj, Zl, Z3, if_true]; simp only [Z1K, Z1L, Z3L, Z3]; simp only [Z5k]; exact Z2N ⟨fun h => by simp only [h, and_self], fun h => by simp only [h, and_self]⟩)
noncomputable def Z5A : Nat → Int → Int → List (Int × Int) → Int → Int → Int → Int → Int → List (Int × Int) → Int → Int → List (Int × Int) → List (List Int) → List Int → Int → Int → Int → Option (LR (Int × Int × List (Int × Int) × Int × Int × Int × Int × Int × List (Int × Int) × Int × Int × List (Int × Int) × List (List Int) × Int) ((Int × Int × Int) × (Int × Int × List (Int × Int)) × List (List Int)))
 | 0, _, _, _, _, _, _, _, _, _, _, _, _, _, _, _, _, _ => none
 | k + 1, b1_0, b1_1, b1_2, b2_0, b2_1, b2_2, b3_0, b3_1, o4, b5_0, b5_1, o6, o7, v1, v2, v11, v12 =>
  if decide (v12 < b1_0) = true then if List.length o7 + List.length [[v12, v2]] ≤ (140737488355328 / 24 : Nat) then Option.bind (Zha k (b5_0, b5_1, o6) v12 v2) fun z1 => if decide (Prod.fst z1 = (5 : Int)) = true then Option.bind (Z5c k b2_0 b2_1 b2_2 b3_0 b3_1 o4 b5_0 b5_1 o6 (o7 ++ [[v12, v2]]) v2 v12) fun z2 => some (LR.ret ((Prod.fst z2, Prod.fst z2.2, Prod.fst z2.2.2), (Prod.fst z2.2.2.2, Prod.fst z2.2.2.2.2, Prod.fst z2.2.2.2.2.2), Prod.snd z2.2.2.2.2.2)) else Option.bind (ZbC k (Prod.fst z1, Prod.snd z1) v11) fun z3 => Option.bind (ZbE k (b5_0, b5_1, o6) v1 (wrap64 (wrap64 (v12 * b1_1) + v2))) fun z4 => Option.bind (Z4V k (wrap64 (v2 + z3)) (0 : Int) (wrap64 (b1_1 - (1 : Int)))) fun z5 => if (!z5) = true then Option.bind (Z4Y k b2_0 b2_1 b2_2 b3_0 b3_1 o4 b5_0 b5_1 z4 (o7 ++ [[v12, v2]]) (wrap64 (v2 + z3)) v12) fun z6 => some (LR.ret ((Prod.fst z6, Prod.fst z6.2, Prod.fst z6.2.2), (Prod.fst z6.2.2.2, Prod.fst z6.2.2.2.2, Prod.fst z6.2.2.2.2.2), Prod.snd z6.2.2.2.2.2)) else Z5A k b1_0 b1_1 b1_2 b2_0 b2_1 b2_2 b3_0 b3_1 o4 b5_0 b5_1 z4 (o7 ++ [[v12, v2]]) v1 (wrap64 (v2 + z3)) (wrap64 ((0 : Int) - z3)) (wrap64 (v12 + (1 : Int))) else none else some (LR.go (b1_0, b1_1, b1_2, b2_0, b2_1, b2_2, b3_0, b3_1, o4, b5_0, b5_1, o6, o7, v2))
noncomputable def Zh6 : Spec := Spec.mk [OSh.ro, OSh.box (26 : Nat) [Sh.int .i64, Sh.int .i64, Sh.snap (0 : Nat) (Ty.pair (Ty.int .i64) (Ty.int .i64))], OSh.box (75 : Nat) [Sh.int .i64, Sh.int .i64, Sh.int .i64], OSh.box (26 : Nat) [Sh.int .i64, Sh.int .i64, Sh.sl (4 : Nat)], OSh.row true (71 : Nat) (Ty.pair (Ty.int .i64) (Ty.int .i64)), OSh.box (26 : Nat) [Sh.int .i64, Sh.int .i64, Sh.sl (6 : Nat)], OSh.row true (71 : Nat) (Ty.pair (Ty.int .i64) (Ty.int .i64)), OSh.row true (36 : Nat) (Ty.slice (3 : Nat) (Ty.int .i64))] [((1 : Nat), TSh.at (Sh.snap (0 : Nat) (Ty.int .i64))), ((2 : Nat), TSh.at (Sh.int .i64)), ((3 : Nat), TSh.at (Sh.ptr (1 : Nat) (0 : Nat))), ((6 : Nat), TSh.at (Sh.ptr (2 : Nat) (0 : Nat))), ((7 : Nat), TSh.at (Sh.ptr (3 : Nat) (0 : Nat))), ((9 : Nat), TSh.at (Sh.ptr (5 : Nat) (0 : Nat))), ((10 : Nat), TSh.at (Sh.sl (7 : Nat))), ((11 : Nat), TSh.at (Sh.int .i64)), ((12 : Nat), TSh.at (Sh.int .i64))]
noncomputable def Zzi : Spec := Spec.mk [OSh.ro, OSh.box (26 : Nat) [Sh.int .i64, Sh.int .i64, Sh.snap (0 : Nat) (Ty.pair (Ty.int .i64) (Ty.int .i64))], OSh.box (75 : Nat) [Sh.int .i64, Sh.int .i64, Sh.int .i64], OSh.box (26 : Nat) [Sh.int .i64, Sh.int .i64, Sh.sl (4 : Nat)], OSh.row true (71 : Nat) (Ty.pair (Ty.int .i64) (Ty.int .i64)), OSh.box (26 : Nat) [Sh.int .i64, Sh.int .i64, Sh.sl (6 : Nat)], OSh.row true (71 : Nat) (Ty.pair (Ty.int .i64) (Ty.int .i64)), OSh.row true (36 : Nat) (Ty.slice (3 : Nat) (Ty.int .i64))] [((2 : Nat), TSh.at (Sh.int .i64)), ((3 : Nat), TSh.at (Sh.ptr (1 : Nat) (0 : Nat))), ((6 : Nat), TSh.at (Sh.ptr (2 : Nat) (0 : Nat))), ((7 : Nat), TSh.at (Sh.ptr (3 : Nat) (0 : Nat))), ((9 : Nat), TSh.at (Sh.ptr (5 : Nat) (0 : Nat))), ((10 : Nat), TSh.at (Sh.sl (7 : Nat)))]
noncomputable def Z8d : LoopDef (Tup Z6H × OutD) := .rets Zh6 Zzi (Int × Int × List (Int × Int) × Int × Int × Int × Int × Int × List (Int × Int) × Int × Int × List (Int × Int) × List (List Int) × Int) ((Int × Int × Int) × (Int × Int × List (Int × Int)) × List (List Int)) (fun k x => Z5A k x.1.2.1.1 x.1.2.1.2.1 x.1.2.1.2.2.1 x.1.2.2.1.1 x.1.2.2.1.2.1 x.1.2.2.1.2.2.1 x.1.2.2.2.1.1 x.1.2.2.2.1.2.1 x.1.2.2.2.2.1 x.1.2.2.2.2.2.1.1 x.1.2.2.2.2.2.1.2.1 x.1.2.2.2.2.2.2.1 x.1.2.2.2.2.2.2.2.1 x.2.1 x.2.2.1 x.2.2.2.2.2.2.2.2.1 x.2.2.2.2.2.2.2.2.2.1) (fun z => (((), (z.1, z.2.1, z.2.2.1, ()), (z.2.2.2.1, z.2.2.2.2.1, z.2.2.2.2.2.1, ()), (z.2.2.2.2.2.2.1, z.2.2.2.2.2.2.2.1, (), ()), z.2.2.2.2.2.2.2.2.1, (z.2.2.2.2.2.2.2.2.2.1, z.2.2.2.2.2.2.2.2.2.2.1, (), ()), z.2.2.2.2.2.2.2.2.2.2.2.1, z.2.2.2.2.2.2.2.2.2.2.2.2.1, ()), (z.2.2.2.2.2.2.2.2.2.2.2.2.2, (), (), (), (), (), ()))) (fun y => (y.1.2.1.1, y.1.2.1.2.1, y.1.2.1.2.2.1, y.1.2.2.1.1, y.1.2.2.1.2.1, y.1.2.2.1.2.2.1, y.1.2.2.2.1.1, y.1.2.2.2.1.2.1, y.1.2.2.2.2.1, y.1.2.2.2.2.2.1.1, y.1.2.2.2.2.2.1.2.1, y.1.2.2.2.2.2.2.1, y.1.2.2.2.2.2.2.2.1, y.2.1)) (fun _ => rfl) ZjD Zk0 ZlS
noncomputable def Z7c : Nat → Int → Int → List (Int × Int) → Int → Int → Int → Int → Int → List (Int × Int) → Int → Int → List (Int × Int) → List (List Int) → Int → Option (Int × Int × Int × Int × Int × List (Int × Int) × List (List Int)) := fun k b1_0 b1_1 b1_2 b2_0 b2_1 b2_2 b3_0 b3_1 o4 b5_0 b5_1 o6 o7 v2 =>
    some ((1 : Int), b1_0, v2, b5_0, b5_1, o6, o7)
noncomputable def Zb9 : Nat → Int → Int → List (Int × Int) → Int → Int → Int → Int → Int → List (Int × Int) → Int → Int → List (Int × Int) → List (List Int) → Int → Option (List (Int × Int × Int × Int × Int × List (Int × Int) × List (List Int))) := fun k b1_0 b1_1 b1_2 b2_0 b2_1 b2_2 b3_0 b3_1 o4 b5_0 b5_1 o6 o7 v2 =>
    joinL (some [((1 : Int), b1_0, v2, b5_0, b5_1, o6, o7)]) (some [((1 : Int), b1_0, v2, b5_0, b5_1, o6, o7)])
noncomputable def Zkv : Spec := Spec.mk [OSh.ro, OSh.box (26 : Nat) [Sh.int .i64, Sh.int .i64, Sh.snap (0 : Nat) (Ty.pair (Ty.int .i64) (Ty.int .i64))], OSh.box (75 : Nat) [Sh.int .i64, Sh.int .i64, Sh.int .i64], OSh.box (26 : Nat) [Sh.int .i64, Sh.int .i64, Sh.sl (4 : Nat)], OSh.row true (71 : Nat) (Ty.pair (Ty.int .i64) (Ty.int .i64)), OSh.box (26 : Nat) [Sh.int .i64, Sh.int .i64, Sh.sl (6 : Nat)], OSh.row true (71 : Nat) (Ty.pair (Ty.int .i64) (Ty.int .i64)), OSh.row true (36 : Nat) (Ty.slice (3 : Nat) (Ty.int .i64))] [((2 : Nat), TSh.at (Sh.int .i64)), ((3 : Nat), TSh.at (Sh.ptr (1 : Nat) (0 : Nat))), ((6 : Nat), TSh.at (Sh.ptr (2 : Nat) (0 : Nat))), ((7 : Nat), TSh.at (Sh.ptr (3 : Nat) (0 : Nat))), ((9 : Nat), TSh.at (Sh.ptr (5 : Nat) (0 : Nat))), ((10 : Nat), TSh.at (Sh.sl (7 : Nat)))]
noncomputable def Zws : Spec := Spec.mk [OSh.ro, OSh.box (75 : Nat) [Sh.int .i64, Sh.int .i64, Sh.int .i64], OSh.box (26 : Nat) [Sh.int .i64, Sh.int .i64, Sh.sl (3 : Nat)], OSh.row true (71 : Nat) (Ty.pair (Ty.int .i64) (Ty.int .i64)), OSh.row true (36 : Nat) (Ty.slice (3 : Nat) (Ty.int .i64))] [((6 : Nat), TSh.at (Sh.ptr (1 : Nat) (0 : Nat))), ((7 : Nat), TSh.at (Sh.ptr (2 : Nat) (0 : Nat))), ((8 : Nat), TSh.at (Sh.sl (4 : Nat)))]
noncomputable def Z5U : LoopDef (Tup Z6H × OutD) := .plain Zkv Zws (Int × Int × Int × Int × Int × List (Int × Int) × List (List Int)) (fun k x => Z7c k x.1.2.1.1 x.1.2.1.2.1 x.1.2.1.2.2.1 x.1.2.2.1.1 x.1.2.2.1.2.1 x.1.2.2.1.2.2.1 x.1.2.2.2.1.1 x.1.2.2.2.1.2.1 x.1.2.2.2.2.1 x.1.2.2.2.2.2.1.1 x.1.2.2.2.2.2.1.2.1 x.1.2.2.2.2.2.2.1 x.1.2.2.2.2.2.2.2.1 x.2.1) (fun z => (((), (z.1, z.2.1, z.2.2.1, ()), (z.2.2.2.1, z.2.2.2.2.1, (), ()), z.2.2.2.2.2.1, z.2.2.2.2.2.2, ()), ((), (), (), ()))) (fun y => (y.1.2.1.1, y.1.2.1.2.1, y.1.2.1.2.2.1, y.1.2.2.1.1, y.1.2.2.1.2.1, y.1.2.2.2.1, y.1.2.2.2.2.1)) (fun _ => rfl)
theorem Zwt (k : Nat) (b1_0 : Int) (b1_1 : Int) (b1_2 : List (Int × Int)) (b2_0 : Int) (b2_1 : Int) (b2_2 : Int) (b3_0 : Int) (b3_1 : Int) (o4 : List (Int × Int)) (b5_0 : Int) (b5_1 : Int) (o6 : List (Int × Int)) (o7 : List (List Int)) (v2 : Int) : Zb9 k b1_0 b1_1 b1_2 b2_0 b2_1 b2_2 b3_0 b3_1 o4 b5_0 b5_1 o6 o7 v2 = repl 2 (Z7c k b1_0 b1_1 b1_2 b2_0 b2_1 b2_2 b3_0 b3_1 o4 b5_0 b5_1 o6 o7 v2) := by
 first
 | (simp only [Zb9, Z7c, Zi, Zt, Zk, Zj, Zl, Z3, if_true]; done)
 | (simp only [Zb9, Z7c, Zi, Zt, Zk, Zj, Zl, Z3, if_true]; simp only [Z1K, Z1L, Z3L, Z3]; simp only [Z5k]; exact Z2N ⟨fun h => by simp only [h, and_self], fun h => by simp only [h, and_self]⟩)
noncomputable def Z1d : Nat → Int × Int × List (Int × Int) → List Int → Int → Option ((Int × Int × Int) × (Int × Int × List (Int × Int)) × List (List Int))
 | 0, _, _, _ => none
 | k + 1, p0, p1, p2 =>
  Option.bind (Z58 k (Prod.fst p0, Prod.fst p0.2, Prod.snd p0.2)) fun z0 => Option.bind (Z5A k p0.1 p0.2.1 p0.2.2 (0 : Int) (0 : Int) (0 : Int) (0 : Int) (0 : Int) [] z0.1 z0.2.1 z0.2.2 [] p1 p2 (0 : Int) (0 : Int)) fun z7 => LR.on z7 (fun y7 => Option.bind (Z7c k y7.1 y7.2.1 y7.2.2.1 y7.2.2.2.1 y7.2.2.2.2.1 y7.2.2.2.2.2.1 y7.2.2.2.2.2.2.1 y7.2.2.2.2.2.2.2.1 y7.2.2.2.2.2.2.2.2.1 y7.2.2.2.2.2.2.2.2.2.1 y7.2.2.2.2.2.2.2.2.2.2.1 y7.2.2.2.2.2.2.2.2.2.2.2.1 y7.2.2.2.2.2.2.2.2.2.2.2.2.1 y7.2.2.2.2.2.2.2.2.2.2.2.2.2) fun z8 => some ((Prod.fst z8, Prod.fst z8.2, Prod.fst z8.2.2), (Prod.fst z8.2.2.2, Prod.fst z8.2.2.2.2, Prod.fst z8.2.2.2.2.2), Prod.snd z8.2.2.2.2.2)) fun r7 => some r7
noncomputable def Z6y : FnDef := .of Zw0 Z6H ((Int × Int × Int) × (Int × Int × List (Int × Int)) × List (List Int)) (fun k x => Z1d k x.1 x.2.1 x.2.2.1) ZjD Zk0 ZlS
noncomputable def Z9C : Code := Try.f93.body.getD .skip
noncomputable def Zo : Ctx (Tup Z6H × OutD) := { T := T, G := [(65, Z3m.E), (106, Z85.E), (107, Z5B.E), (108, Z5E.E), (94, Z3x.E)], mvs := [], no := 0, n := 75, res := resOf T Zw0 Z6H Try.f93.results.toList, loops := [(0, Z8d.E)], regs := [(10, Z63.E), (16, Z5V.E), (17, Z5U.E)], conds := [], cuts := [] }
theorem Ze2 (k : Nat) : EnvOK Try.prog k Zo.G := (EnvOK.cons (ZfO k) (EnvOK.cons (ZDr k) (EnvOK.cons (ZAT k) (EnvOK.cons (ZBw k) (EnvOK.cons (ZdX k) (EnvOK.nil mixed))))))
noncomputable def Zey : Array Oper := (findReg 10 Z9C).getD #[]
theorem Zxc (k : Nat) (x : ZjA.D) : execD Zo.T Zo.G Zo.mvs k Zey (Z63.inp.st Zo.n x) (outK Zo Z63) = Zba k x.1.2.1.1 x.1.2.1.2.1 x.1.2.1.2.2.1 x.1.2.2.1.1 x.1.2.2.1.2.1 x.1.2.2.2.1 x.1.2.2.2.2.1.1 x.1.2.2.2.2.1.2.1 x.1.2.2.2.2.2.1 x.1.2.2.2.2.2.2.1 x.2.1 x.2.2.2.2.2.2.1 := by kernel_rfl
theorem Zvn (k : Nat) : EOK Try.prog Zo k Z63.E (.region 10 Zey true) := Z7N (D := Z63) (m := 2) T_ok (Ze2 k) (fun x => (Zxc k x).trans (ZxP k x.1.2.1.1 x.1.2.1.2.1 x.1.2.1.2.2.1 x.1.2.2.1.1 x.1.2.2.1.2.1 x.1.2.2.2.1 x.1.2.2.2.2.1.1 x.1.2.2.2.2.1.2.1 x.1.2.2.2.2.2.1 x.1.2.2.2.2.2.2.1 x.2.1 x.2.2.2.2.2.2.1))
noncomputable def ZeH : Array Oper := (findReg 16 Z9C).getD #[]
theorem ZwF (k : Nat) (x : ZjL.D) : execD Zo.T Zo.G Zo.mvs k ZeH (Z5V.inp.st Zo.n x) (outK Zo Z5V) = Zbo k x.1.2.1.1 x.1.2.1.2.1 x.1.2.1.2.2.1 x.1.2.2.1.1 x.1.2.2.1.2.1 x.1.2.2.2.1 x.1.2.2.2.2.1.1 x.1.2.2.2.2.1.2.1 x.1.2.2.2.2.2.1 x.1.2.2.2.2.2.2.1 x.2.1 x.2.2.2.2.2.2.1 := by kernel_rfl
theorem ZuI (k : Nat) : EOK Try.prog Zo k Z5V.E (.region 16 ZeH true) := Z7N (D := Z5V) (m := 2) T_ok (Ze2 k) (fun x => (ZwF k x).trans (ZxM k x.1.2.1.1 x.1.2.1.2.1 x.1.2.1.2.2.1 x.1.2.2.1.1 x.1.2.2.1.2.1 x.1.2.2.2.1 x.1.2.2.2.2.1.1 x.1.2.2.2.2.1.2.1 x.1.2.2.2.2.2.1 x.1.2.2.2.2.2.2.1 x.2.1 x.2.2.2.2.2.2.1))
noncomputable def ZeO : Array Oper := (findReg 17 Z9C).getD #[]
theorem Zxj (k : Nat) (x : Zkv.D) : execD Zo.T Zo.G Zo.mvs k ZeO (Z5U.inp.st Zo.n x) (outK Zo Z5U) = Zb9 k x.1.2.1.1 x.1.2.1.2.1 x.1.2.1.2.2.1 x.1.2.2.1.1 x.1.2.2.1.2.1 x.1.2.2.1.2.2.1 x.1.2.2.2.1.1 x.1.2.2.2.1.2.1 x.1.2.2.2.2.1 x.1.2.2.2.2.2.1.1 x.1.2.2.2.2.2.1.2.1 x.1.2.2.2.2.2.2.1 x.1.2.2.2.2.2.2.2.1 x.2.1 := by kernel_rfl
theorem ZuM (k : Nat) : EOK Try.prog Zo k Z5U.E (.region 17 ZeO true) := Z7N (D := Z5U) (m := 2) T_ok (Ze2 k) (fun x => (Zxj k x).trans (Zwt k x.1.2.1.1 x.1.2.1.2.1 x.1.2.1.2.2.1 x.1.2.2.1.1 x.1.2.2.1.2.1 x.1.2.2.1.2.2.1 x.1.2.2.2.1.1 x.1.2.2.2.1.2.1 x.1.2.2.2.2.1 x.1.2.2.2.2.2.1.1 x.1.2.2.2.2.2.1.2.1 x.1.2.2.2.2.2.2.1 x.1.2.2.2.2.2.2.2.1 x.2.1))
noncomputable def Zd8 : Code := (findLoop 0 Z9C).getD .skip
theorem ZzN (k : Nat) (x : Zh6.D) : Z8d.lp (k + 1) x = loopK Zo Z8d 0 Zd8 k x := by kernel_rfl
theorem Zzg (k : Nat) : LOK Try.prog Zo k Zd8 := LOK.by [(Z63.E, .region 10 Zey true), (Z5V.E, .region 16 ZeH true)] (by kernel_rfl) (AllOK.cons (Zvn k) (AllOK.cons (ZuI k) AllOK.nil))
theorem ZzP (x : Zh6.D) : Z8d.lp 0 x = none := by kernel_rfl
theorem Zyv (k : Nat) : EOK Try.prog Zo k Z8d.E (.block 0 (.loop Zd8)) := Z5 T_ok Ze2 ZzP ZzN Zzg k
theorem ZDo (k : Nat) (x : Tup Z6y.ps) : Z6y.f (k + 1) x = fnK Z6y Zo Z9C k x := by kernel_rfl
theorem ZD7 (x : Tup Z6y.ps) : Z6y.f 0 x = none := by kernel_rfl
theorem ZDp (k : Nat) : LOK Try.prog Zo k Z9C := LOK.by [(Z8d.E, .block 0 (.loop Zd8)), (Z5U.E, .region 17 ZeO true)] (by kernel_rfl) (AllOK.cons (Zyv k) (AllOK.cons (ZuM k) AllOK.nil))
theorem Zwm (k : Nat) : SoundAt Try.prog k 93 Z6y.E := @Z1 Try.prog Z6y Zo 93 Try.f93 Z9C (by kernel_rfl) (by kernel_rfl) (by kernel_rfl) Try.func93 (by kernel_rfl) (by kernel_rfl) (by kernel_rfl) T_ok Ze2 ZDp ZD7 ZDo k
end
end Go.Proofs.Ytglkedenkcpcbaa.Vs
