/- The proof, part 6. -/
import Derived.Test.YtglkedenkcpcbaaqCm4
set_option maxRecDepth 100000
set_option maxHeartbeats 2000000
set_option linter.unusedVariables false
set_option linter.unusedSimpArgs false
namespace Go.Proofs.Ytglkedenkcpcbaa.Vs
open Go.RowKit
noncomputable section
noncomputable def Z4p : List PK := [PK.mk (Ty.int .i64) false none false none]
noncomputable def ZeG : List PK := [PK.mk (Ty.pair (Ty.slice (5 : Nat) (Ty.int .u8)) (Ty.pair (Ty.int .i64) (Ty.int .u64))) false none false (some (58 : Nat)), PK.mk (Ty.pair (Ty.int .i64) (Ty.pair (Ty.int .i64) (Ty.slice (71 : Nat) (Ty.pair (Ty.int .i64) (Ty.int .i64))))) true none false none]
noncomputable def Zd4 (r : Int × Int × Int) : Tup Z4p × OutD := ((r.1, ()), some ⟨Ty.pair (Ty.slice (5 : Nat) (Ty.int .u8)) (Ty.pair (Ty.int .i64) (Ty.int .u64)), [([], r.2)]⟩)
noncomputable def Z98 : Tup Z4p × OutD → Option (Int × Int × Int)
 | (a, some ⟨u, ys⟩) => if h : u = Ty.pair (Ty.slice (5 : Nat) (Ty.int .u8)) (Ty.pair (Ty.int .i64) (Ty.int .u64)) then (match castU h ys with
  | [([], y)] => some (a.1, y)
  | _ => none) else none
 | _ => none
theorem ZiJ : ∀ b r, Z98 b = some r → Zd4 r = b := by
 rintro ⟨a, o⟩ r h
 cases o with
 | none => cases h
 | some s =>
  obtain ⟨u, ys⟩ := s
  simp only [Z98] at h
  split at h
  ·rename_i hu
   subst hu
   match ys, h with
   | [], h => cases (show (none : Option _) = some r from h)
   | [([], y)], h => injection (show some _ = some r from h) with h; subst h; rfl
   | [(_ :: _, y)], h => cases (show (none : Option _) = some r from h)
   | (h1, _) :: _ :: _, h => cases h1 <;> cases (show (none : Option _) = some r from h)
  ·cases h
noncomputable def Z1o : Nat → List Int × Int × Int → Int × Int × List (Int × Int) → Option (Int × Int × Int)
 | 0, _, _ => none
 | k + 1, p0, p1 =>
  Option.bind (Zb1 k (1 : Int) p1.2.1) fun z0 => Option.bind (Z0 k (Prod.fst p0, Prod.fst p0.2, Prod.snd p0.2) (16 : Int)) fun z1 => Option.bind (Z0 k (Prod.fst p0, Prod.fst z1.2, Prod.snd z1.2) (wrap64 (z0 + wrap64 (Int.tdiv z1.1 (15 : Int))))) fun z2 => Option.bind (Z0 k (Prod.fst p0, Prod.fst z2.2, Prod.snd z2.2) (24 : Int)) fun z3 => some (wrap64 (Prod.fst z2 - wrap64 (Int.tdiv z3.1 (23 : Int))), Prod.fst z3.2, Prod.snd z3.2)
noncomputable def ZW : FnDef := .of ZeG Z4p (Int × Int × Int) (fun k x => Z1o k x.1 x.2.1) Zd4 Z98 ZiJ
noncomputable def Z9U : Code := Try.f38.body.getD .skip
noncomputable def Z6T : Ctx (Tup Z4p × OutD) := { T := T, G := [(59, Z5s.E), (57, Zc.E)], mvs := [], no := 2, n := 18, res := resOf T ZeG Z4p Try.f38.results.toList, loops := [], regs := [], conds := [], cuts := [] }
theorem ZmX (k : Nat) : EnvOK Try.prog k Z6T.G := (EnvOK.cons (Zz7 k) (EnvOK.cons (ZK k) (EnvOK.nil mixed)))
theorem ZmR (k : Nat) (x : Tup ZW.ps) : ZW.f (k + 1) x = fnK ZW Z6T Z9U k x := by kernel_rfl
theorem Zna (x : Tup ZW.ps) : ZW.f 0 x = none := by kernel_rfl
theorem ZnX (k : Nat) : LOK Try.prog Z6T k Z9U := LOK.by [] (by kernel_rfl) AllOK.nil
theorem ZeC (k : Nat) : SoundAt Try.prog k 38 ZW.E := @Z4 Try.prog ZW Z6T 38 Try.f38 Z9U (by kernel_rfl) (by kernel_rfl) (by kernel_rfl) Try.func38 (by kernel_rfl) (by kernel_rfl) (by kernel_rfl) T_ok ZmX ZnX Zna ZmR k
noncomputable def Zad : List PK := [PK.mk Ty.bool false none false none]
noncomputable def ZnA : List PK := [PK.mk (Ty.pair (Ty.int .i64) (Ty.pair (Ty.int .i64) (Ty.slice (71 : Nat) (Ty.pair (Ty.int .i64) (Ty.int .i64))))) true none false none]
noncomputable def Zl5 (r : Bool) : Tup Zad × OutD := ((r, ()), none)
noncomputable def Zld : Tup Zad × OutD → Option (Bool)
 | (a, none) => some (a.1)
 | _ => none
theorem ZrK : ∀ b r, Zld b = some r → Zl5 r = b := by
 rintro ⟨a, o⟩ r h
 cases o with
 | none => injection h with h; subst h; rfl
 | some _ => cases h
noncomputable def Z7U : Nat → Int × Int × List (Int × Int) → Option Bool
 | 0, _ => none
 | k + 1, p0 =>
  if decide (Prod.fst p0 ≥ (1 : Int)) = true then if decide (Prod.fst p0 ≤ (10 : Int)) = true then if decide (Prod.fst p0.2 ≥ (1 : Int)) = true then if decide (Prod.fst p0.2 ≤ (9 : Int)) = true then if decide ((↑(List.length p0.2.2) : Int) = wrap64 (Prod.fst p0 * Prod.fst p0.2)) = true then Option.bind (Z9r k p0.2.2) fun z0 => some z0 else some false else some false else some false else some false else some false
noncomputable def Z2D : FnDef := .of ZnA Zad (Bool) (fun k x => Z7U k x.1) Zl5 Zld ZrK
noncomputable def Zg2 : Code := Try.f51.body.getD .skip
noncomputable def Zco : Ctx (Tup Zad × OutD) := { T := T, G := [(85, Z2Q.E)], mvs := [], no := 0, n := 37, res := resOf T ZnA Zad Try.f51.results.toList, loops := [], regs := [], conds := [], cuts := [] }
theorem Zy5 (k : Nat) : EnvOK Try.prog k Zco.G := (EnvOK.cons (ZtF k) (EnvOK.nil mixed))
theorem Zyu (k : Nat) (x : Tup Z2D.ps) : Z2D.f (k + 1) x = fnK Z2D Zco Zg2 k x := by kernel_rfl
theorem Zyo (x : Tup Z2D.ps) : Z2D.f 0 x = none := by kernel_rfl
theorem Zya (k : Nat) : LOK Try.prog Zco k Zg2 := LOK.by [] (by kernel_rfl) AllOK.nil
theorem Zga (k : Nat) : SoundAt Try.prog k 51 Z2D.E := @Z4 Try.prog Z2D Zco 51 Try.f51 Zg2 (by kernel_rfl) (by kernel_rfl) (by kernel_rfl) Try.func51 (by kernel_rfl) (by kernel_rfl) (by kernel_rfl) T_ok Zy5 Zya Zyo Zyu k
noncomputable def Zbb : List PK := [PK.mk (Ty.pair (Ty.int .i64) (Ty.pair (Ty.int .i64) (Ty.int .i64))) true none false none, PK.mk (Ty.slice (3 : Nat) (Ty.int .i64)) false none false none]
noncomputable def Zuu : List PK := [PK.mk (Ty.pair (Ty.int .i64) (Ty.pair (Ty.int .i64) (Ty.slice (71 : Nat) (Ty.pair (Ty.int .i64) (Ty.int .i64))))) true (some ((2 : Nat), (71 : Nat), Ty.pair (Ty.int .i64) (Ty.int .i64))) false none, PK.mk (Ty.slice (3 : Nat) (Ty.int .i64)) false none false none, PK.mk (Ty.int .i64) false none false none]
noncomputable def ZjC (r : (Int × Int × Int) × List Int × List (Int × Int)) : Tup Zbb × OutD := ((r.1, r.2.1, ()), some ⟨Ty.pair (Ty.int .i64) (Ty.int .i64), r.2.2⟩)
noncomputable def Zfm : Tup Zbb × OutD → Option ((Int × Int × Int) × List Int × List (Int × Int))
 | (a, some ⟨u, ys⟩) => if h : u = Ty.pair (Ty.int .i64) (Ty.int .i64) then some (a.1, a.2.1, castU h ys) else none
 | _ => none
theorem ZkU : ∀ b r, Zfm b = some r → ZjC r = b := by
 rintro ⟨a, o⟩ r h
 cases o with
 | none => cases h
 | some s =>
  obtain ⟨u, ys⟩ := s
  simp only [Zfm] at h
  split at h
  ·rename_i hu; subst hu; injection h with h; subst h; rfl
  ·cases h
noncomputable def Z2x : Nat → List (Int × Int) → Int → Int → Int → Int → Int → List Int → List Int → Int → Int → Int → Option (LR (List (Int × Int) × Int × Int × Int × Int × Int × List Int × Int) ((Int × Int × Int) × List Int × List (Int × Int)))
 | 0, _, _, _, _, _, _, _, _, _, _, _ => none
 | k + 1, o1, b2_0, b2_1, b3_0, b3_1, b3_2, o4, v1, v2, v9, v10 =>
  if decide (v10 < b2_0) = true then if List.length o4 + List.length [wrap64 (wrap64 (v10 * b2_1) + v2)] ≤ (140737488355328 / 8 : Nat) then if (0 : Int) ≤ wrap64 (wrap64 (v10 * b2_1) + v2) then if wrap64 (wrap64 (v10 * b2_1) + v2) < (↑(List.length o1) : Int) then Option.bind (ZdS k (Prod.fst (List.getD o1 (Int.toNat (wrap64 (wrap64 (v10 * b2_1) + v2))) ((0 : Int), (0 : Int))), Prod.snd (List.getD o1 (Int.toNat (wrap64 (wrap64 (v10 * b2_1) + v2))) ((0 : Int), (0 : Int)))) v9) fun z0 => if (!Prod.snd z0) = true then some (LR.ret (((2 : Int), v10, v2), o4 ++ [wrap64 (wrap64 (v10 * b2_1) + v2)], o1)) else if decide (Prod.fst (List.getD o1 (Int.toNat (wrap64 (wrap64 (v10 * b2_1) + v2))) ((0 : Int), (0 : Int))) = (3 : Int)) = true then if (0 : Int) ≤ wrap64 (wrap64 (v10 * b2_1) + v2) then if wrap64 (wrap64 (v10 * b2_1) + v2) < (↑(List.length o1) : Int) then if decide (Prod.fst (List.getD o1 (Int.toNat (wrap64 (wrap64 (v10 * b2_1) + v2))) ((0 : Int), (0 : Int))) = (6 : Int)) = true then Option.bind (Z85 k (b2_0, b2_1, List.set o1 (Int.toNat (wrap64 (wrap64 (v10 * b2_1) + v2))) (Prod.fst (List.getD o1 (Int.toNat (wrap64 (wrap64 (v10 * b2_1) + v2))) ((0 : Int), (0 : Int))), wrap64 ((1 : Int) - Prod.snd (List.getD o1 (Int.toNat (wrap64 (wrap64 (v10 * b2_1) + v2))) ((0 : Int), (0 : Int)))))) v1 (wrap64 (wrap64 (v10 * b2_1) + v2))) fun z1 => if decide (wrap64 (v2 + Prod.fst z0) < (0 : Int)) = true then some (LR.ret (((3 : Int), v10, wrap64 (v2 + Prod.fst z0)), o4 ++ [wrap64 (wrap64 (v10 * b2_1) + v2)], z1)) else if decide (wrap64 (v2 + Prod.fst z0) ≥ b2_1) = true then some (LR.ret (((3 : Int), v10, wrap64 (v2 + Prod.fst z0)), o4 ++ [wrap64 (wrap64 (v10 * b2_1) + v2)], z1)) else Z2x k z1 b2_0 b2_1 b3_0 b3_1 b3_2 (o4 ++ [wrap64 (wrap64 (v10 * b2_1) + v2)]) v1 (wrap64 (v2 + Prod.fst z0)) (wrap64 ((0 : Int) - Prod.fst z0)) (wrap64 (v10 + (1 : Int))) else if decide (wrap64 (v2 + Prod.fst z0) < (0 : Int)) = true then some (LR.ret (((3 : Int), v10, wrap64 (v2 + Prod.fst z0)), o4 ++ [wrap64 (wrap64 (v10 * b2_1) + v2)], List.set o1 (Int.toNat (wrap64 (wrap64 (v10 * b2_1) + v2))) (Prod.fst (List.getD o1 (Int.toNat (wrap64 (wrap64 (v10 * b2_1) + v2))) ((0 : Int), (0 : Int))), wrap64 ((1 : Int) - Prod.snd (List.getD o1 (Int.toNat (wrap64 (wrap64 (v10 * b2_1) + v2))) ((0 : Int), (0 : Int))))))) else if decide (wrap64 (v2 + Prod.fst z0) ≥ b2_1) = true then some (LR.ret (((3 : Int), v10, wrap64 (v2 + Prod.fst z0)), o4 ++ [wrap64 (wrap64 (v10 * b2_1) + v2)], List.set o1 (Int.toNat (wrap64 (wrap64 (v10 * b2_1) + v2))) (Prod.fst (List.getD o1 (Int.toNat (wrap64 (wrap64 (v10 * b2_1) + v2))) ((0 : Int), (0 : Int))), wrap64 ((1 : Int) - Prod.snd (List.getD o1 (Int.toNat (wrap64 (wrap64 (v10 * b2_1) + v2))) ((0 : Int), (0 : Int))))))) else Z2x k (List.set o1 (Int.toNat (wrap64 (wrap64 (v10 * b2_1) + v2))) (Prod.fst (List.getD o1 (Int.toNat (wrap64 (wrap64 (v10 * b2_1) + v2))) ((0 : Int), (0 : Int))), wrap64 ((1 : Int) - Prod.snd (List.getD o1 (Int.toNat (wrap64 (wrap64 (v10 * b2_1) + v2))) ((0 : Int), (0 : Int)))))) b2_0 b2_1 b3_0 b3_1 b3_2 (o4 ++ [wrap64 (wrap64 (v10 * b2_1) + v2)]) v1 (wrap64 (v2 + Prod.fst z0)) (wrap64 ((0 : Int) - Prod.fst z0)) (wrap64 (v10 + (1 : Int))) else none else none else if decide (Prod.fst (List.getD o1 (Int.toNat (wrap64 (wrap64 (v10 * b2_1) + v2))) ((0 : Int), (0 : Int))) = (6 : Int)) = true then Option.bind (Z85 k (b2_0, b2_1, o1) v1 (wrap64 (wrap64 (v10 * b2_1) + v2))) fun z2 => if decide (wrap64 (v2 + Prod.fst z0) < (0 : Int)) = true then some (LR.ret (((3 : Int), v10, wrap64 (v2 + Prod.fst z0)), o4 ++ [wrap64 (wrap64 (v10 * b2_1) + v2)], z2)) else if decide (wrap64 (v2 + Prod.fst z0) ≥ b2_1) = true then some (LR.ret (((3 : Int), v10, wrap64 (v2 + Prod.fst z0)), o4 ++ [wrap64 (wrap64 (v10 * b2_1) + v2)], z2)) else Z2x k z2 b2_0 b2_1 b3_0 b3_1 b3_2 (o4 ++ [wrap64 (wrap64 (v10 * b2_1) + v2)]) v1 (wrap64 (v2 + Prod.fst z0)) (wrap64 ((0 : Int) - Prod.fst z0)) (wrap64 (v10 + (1 : Int))) else if decide (wrap64 (v2 + Prod.fst z0) < (0 : Int)) = true then some (LR.ret (((3 : Int), v10, wrap64 (v2 + Prod.fst z0)), o4 ++ [wrap64 (wrap64 (v10 * b2_1) + v2)], o1)) else if decide (wrap64 (v2 + Prod.fst z0) ≥ b2_1) = true then some (LR.ret (((3 : Int), v10, wrap64 (v2 + Prod.fst z0)), o4 ++ [wrap64 (wrap64 (v10 * b2_1) + v2)], o1)) else Z2x k o1 b2_0 b2_1 b3_0 b3_1 b3_2 (o4 ++ [wrap64 (wrap64 (v10 * b2_1) + v2)]) v1 (wrap64 (v2 + Prod.fst z0)) (wrap64 ((0 : Int) - Prod.fst z0)) (wrap64 (v10 + (1 : Int))) else none else none else none else some (LR.go (o1, b2_0, b2_1, b3_0, b3_1, b3_2, o4, v2))
noncomputable def Zgh : Spec := Spec.mk [OSh.ro, OSh.row false (71 : Nat) (Ty.pair (Ty.int .i64) (Ty.int .i64)), OSh.box (26 : Nat) [Sh.int .i64, Sh.int .i64, Sh.sl (1 : Nat)], OSh.box (75 : Nat) [Sh.int .i64, Sh.int .i64, Sh.int .i64], OSh.row true (3 : Nat) (Ty.int .i64)] [((1 : Nat), TSh.at (Sh.snap (0 : Nat) (Ty.int .i64))), ((2 : Nat), TSh.at (Sh.int .i64)), ((3 : Nat), TSh.at (Sh.ptr (2 : Nat) (0 : Nat))), ((6 : Nat), TSh.at (Sh.ptr (3 : Nat) (0 : Nat))), ((8 : Nat), TSh.at (Sh.sl (4 : Nat))), ((9 : Nat), TSh.at (Sh.int .i64)), ((10 : Nat), TSh.at (Sh.int .i64))]
noncomputable def Zy4 : Spec := Spec.mk [OSh.ro, OSh.row false (71 : Nat) (Ty.pair (Ty.int .i64) (Ty.int .i64)), OSh.box (26 : Nat) [Sh.int .i64, Sh.int .i64, Sh.sl (1 : Nat)], OSh.box (75 : Nat) [Sh.int .i64, Sh.int .i64, Sh.int .i64], OSh.row true (3 : Nat) (Ty.int .i64)] [((2 : Nat), TSh.at (Sh.int .i64)), ((3 : Nat), TSh.at (Sh.ptr (2 : Nat) (0 : Nat))), ((6 : Nat), TSh.at (Sh.ptr (3 : Nat) (0 : Nat))), ((8 : Nat), TSh.at (Sh.sl (4 : Nat)))]
noncomputable def Z7R : LoopDef (Tup Zbb × OutD) := .rets Zgh Zy4 (List (Int × Int) × Int × Int × Int × Int × Int × List Int × Int) ((Int × Int × Int) × List Int × List (Int × Int)) (fun k x => Z2x k x.1.2.1 x.1.2.2.1.1 x.1.2.2.1.2.1 x.1.2.2.2.1.1 x.1.2.2.2.1.2.1 x.1.2.2.2.1.2.2.1 x.1.2.2.2.2.1 x.2.1 x.2.2.1 x.2.2.2.2.2.2.1 x.2.2.2.2.2.2.2.1) (fun z => (((), z.1, (z.2.1, z.2.2.1, (), ()), (z.2.2.2.1, z.2.2.2.2.1, z.2.2.2.2.2.1, ()), z.2.2.2.2.2.2.1, ()), (z.2.2.2.2.2.2.2, (), (), (), ()))) (fun y => (y.1.2.1, y.1.2.2.1.1, y.1.2.2.1.2.1, y.1.2.2.2.1.1, y.1.2.2.2.1.2.1, y.1.2.2.2.1.2.2.1, y.1.2.2.2.2.1, y.2.1)) (fun _ => rfl) ZjC Zfm ZkU
noncomputable def Zdp : Nat → Int × Int × List (Int × Int) → List Int → Int → Option ((Int × Int × Int) × List Int × List (Int × Int))
 | 0, _, _, _ => none
 | k + 1, p0, p1, p2 =>
  Option.bind (Z2x k p0.2.2 p0.1 p0.2.1 (0 : Int) (0 : Int) (0 : Int) [] p1 p2 (0 : Int) (0 : Int)) fun z3 => LR.on z3 (fun y3 => some (((1 : Int), Prod.fst y3.2, Prod.snd y3.2.2.2.2.2.2), Prod.fst y3.2.2.2.2.2.2, Prod.fst y3)) fun r3 => some r3
noncomputable def Z6r : FnDef := .of Zuu Zbb ((Int × Int × Int) × List Int × List (Int × Int)) (fun k x => Zdp k x.1 x.2.1 x.2.2.1) ZjC Zfm ZkU
noncomputable def Zgq : Code := Try.f55.body.getD .skip
noncomputable def Z9d : Ctx (Tup Zbb × OutD) := { T := T, G := [(87, Z5t.E), (88, Z3n.E)], mvs := [], no := 1, n := 89, res := resOf T Zuu Zbb Try.f55.results.toList, loops := [(0, Z7R.E)], regs := [], conds := [], cuts := [] }
theorem Zuo (k : Nat) : EnvOK Try.prog k Z9d.G := (EnvOK.cons (ZAe k) (EnvOK.cons (Zv0 k) (EnvOK.nil mixed)))
noncomputable def Zcx : Code := (findLoop 0 Zgq).getD .skip
theorem Zy3 (k : Nat) (x : Zgh.D) : Z7R.lp (k + 1) x = loopK Z9d Z7R 0 Zcx k x := by kernel_rfl
theorem Zy8 (k : Nat) : LOK Try.prog Z9d k Zcx := LOK.by [] (by kernel_rfl) AllOK.nil
theorem ZxL (x : Zgh.D) : Z7R.lp 0 x = none := by kernel_rfl
theorem ZwD (k : Nat) : EOK Try.prog Z9d k Z7R.E (.block 0 (.loop Zcx)) := Z8 T_ok Zuo ZxL Zy3 Zy8 k
theorem ZBz (k : Nat) (x : Tup Z6r.ps) : Z6r.f (k + 1) x = fnK Z6r Z9d Zgq k x := by kernel_rfl
theorem ZBh (x : Tup Z6r.ps) : Z6r.f 0 x = none := by kernel_rfl
theorem ZBA (k : Nat) : LOK Try.prog Z9d k Zgq := LOK.by [(Z7R.E, .block 0 (.loop Zcx))] (by kernel_rfl) (AllOK.cons (ZwD k) AllOK.nil)
theorem ZuB (k : Nat) : SoundAt Try.prog k 55 Z6r.E := @Z4 Try.prog Z6r Z9d 55 Try.f55 Zgq (by kernel_rfl) (by kernel_rfl) (by kernel_rfl) Try.func55 (by kernel_rfl) (by kernel_rfl) (by kernel_rfl) T_ok Zuo ZBA ZBh ZBz k
noncomputable def Z81 : List PK := [PK.mk Ty.bool false none false none]
noncomputable def Zjq : List PK := [PK.mk (Ty.pair (Ty.slice (5 : Nat) (Ty.int .u8)) (Ty.pair (Ty.int .i64) (Ty.int .u64))) false none false (some (58 : Nat)), PK.mk (Ty.int .i64) false none false none]
noncomputable def ZhM (r : Bool × Int × Int) : Tup Z81 × OutD := ((r.1, ()), some ⟨Ty.pair (Ty.slice (5 : Nat) (Ty.int .u8)) (Ty.pair (Ty.int .i64) (Ty.int .u64)), [([], r.2)]⟩)
noncomputable def ZcO : Tup Z81 × OutD → Option (Bool × Int × Int)
 | (a, some ⟨u, ys⟩) => if h : u = Ty.pair (Ty.slice (5 : Nat) (Ty.int .u8)) (Ty.pair (Ty.int .i64) (Ty.int .u64)) then (match castU h ys with
  | [([], y)] => some (a.1, y)
  | _ => none) else none
 | _ => none
theorem ZoQ : ∀ b r, ZcO b = some r → ZhM r = b := by
 rintro ⟨a, o⟩ r h
 cases o with
 | none => cases h
 | some s =>
  obtain ⟨u, ys⟩ := s
  simp only [ZcO] at h
  split at h
  ·rename_i hu
   subst hu
   match ys, h with
   | [], h => cases (show (none : Option _) = some r from h)
   | [([], y)], h => injection (show some _ = some r from h) with h; subst h; rfl
   | [(_ :: _, y)], h => cases (show (none : Option _) = some r from h)
   | (h1, _) :: _ :: _, h => cases h1 <;> cases (show (none : Option _) = some r from h)
  ·cases h
noncomputable def Zm : Nat → List Int × Int × Int → Int → Option (Bool × Int × Int)
 | 0, _, _ => none
 | k + 1, p0, p1 =>
  Option.bind (Z0 k (Prod.fst p0, Prod.fst p0.2, Prod.snd p0.2) p1) fun z0 => some (decide (Prod.fst z0 = (0 : Int)), Prod.fst z0.2, Prod.snd z0.2)
noncomputable def ZJ : FnDef := .of Zjq Z81 (Bool × Int × Int) (fun k x => Zm k x.1 x.2.1) ZhM ZcO ZoQ
noncomputable def Ze9 : Code := Try.f58.body.getD .skip
noncomputable def Zai : Ctx (Tup Z81 × OutD) := { T := T, G := [(57, Zc.E)], mvs := [], no := 2, n := 9, res := resOf T Zjq Z81 Try.f58.results.toList, loops := [], regs := [], conds := [], cuts := [] }
theorem Zw3 (k : Nat) : EnvOK Try.prog k Zai.G := (EnvOK.cons (ZK k) (EnvOK.nil mixed))
theorem Zvo (k : Nat) (x : Tup ZJ.ps) : ZJ.f (k + 1) x = fnK ZJ Zai Ze9 k x := by kernel_rfl
theorem Zvc (x : Tup ZJ.ps) : ZJ.f 0 x = none := by kernel_rfl
theorem ZvK (k : Nat) : LOK Try.prog Zai k Ze9 := LOK.by [] (by kernel_rfl) AllOK.nil
theorem Z5I (k : Nat) : SoundAt Try.prog k 58 ZJ.E := @Z4 Try.prog ZJ Zai 58 Try.f58 Ze9 (by kernel_rfl) (by kernel_rfl) (by kernel_rfl) Try.func58 (by kernel_rfl) (by kernel_rfl) (by kernel_rfl) T_ok Zw3 ZvK Zvc Zvo k
noncomputable def Z6M : List PK := [PK.mk (Ty.int .i64) false none false none]
noncomputable def Zhc : List PK := [PK.mk (Ty.pair (Ty.slice (5 : Nat) (Ty.int .u8)) (Ty.pair (Ty.int .i64) (Ty.int .u64))) false none false (some (58 : Nat)), PK.mk (Ty.slice (3 : Nat) (Ty.int .i64)) false none false none]
noncomputable def ZfQ (r : Int × Int × Int) : Tup Z6M × OutD := ((r.1, ()), some ⟨Ty.pair (Ty.slice (5 : Nat) (Ty.int .u8)) (Ty.pair (Ty.int .i64) (Ty.int .u64)), [([], r.2)]⟩)
noncomputable def Zbi : Tup Z6M × OutD → Option (Int × Int × Int)
 | (a, some ⟨u, ys⟩) => if h : u = Ty.pair (Ty.slice (5 : Nat) (Ty.int .u8)) (Ty.pair (Ty.int .i64) (Ty.int .u64)) then (match castU h ys with
  | [([], y)] => some (a.1, y)
  | _ => none) else none
 | _ => none
theorem ZmB : ∀ b r, Zbi b = some r → ZfQ r = b := by
 rintro ⟨a, o⟩ r h
 cases o with
 | none => cases h
 | some s =>
  obtain ⟨u, ys⟩ := s
  simp only [Zbi] at h
  split at h
  ·rename_i hu
   subst hu
   match ys, h with
   | [], h => cases (show (none : Option _) = some r from h)
   | [([], y)], h => injection (show some _ = some r from h) with h; subst h; rfl
   | [(_ :: _, y)], h => cases (show (none : Option _) = some r from h)
   | (h1, _) :: _ :: _, h => cases h1 <;> cases (show (none : Option _) = some r from h)
  ·cases h
noncomputable def Zb : Nat → List Int × Int × Int → List Int → Option (Int × Int × Int)
 | 0, _, _ => none
 | k + 1, p0, p1 =>
  Option.bind (Z0 k (Prod.fst p0, Prod.fst p0.2, Prod.snd p0.2) (↑(List.length p1) : Int)) fun z0 => if (0 : Int) ≤ Prod.fst z0 then if Prod.fst z0 < (↑(List.length p1) : Int) then some (List.getD p1 (Int.toNat z0.1) (0 : Int), Prod.fst z0.2, Prod.snd z0.2) else none else none
noncomputable def Zv : FnDef := .of Zhc Z6M (Int × Int × Int) (fun k x => Zb k x.1 x.2.1) ZfQ Zbi ZmB
noncomputable def Zc0 : Code := Try.f60.body.getD .skip
noncomputable def Z8I : Ctx (Tup Z6M × OutD) := { T := T, G := [(57, Zc.E)], mvs := [], no := 2, n := 12, res := resOf T Zhc Z6M Try.f60.results.toList, loops := [], regs := [], conds := [], cuts := [] }
theorem Zrk (k : Nat) : EnvOK Try.prog k Z8I.G := (EnvOK.cons (ZK k) (EnvOK.nil mixed))
theorem ZrJ (k : Nat) (x : Tup Zv.ps) : Zv.f (k + 1) x = fnK Zv Z8I Zc0 k x := by kernel_rfl
theorem Zrg (x : Tup Zv.ps) : Zv.f 0 x = none := by kernel_rfl
theorem ZrN (k : Nat) : LOK Try.prog Z8I k Zc0 := LOK.by [] (by kernel_rfl) AllOK.nil
theorem Z4D (k : Nat) : SoundAt Try.prog k 60 Zv.E := @Z4 Try.prog Zv Z8I 60 Try.f60 Zc0 (by kernel_rfl) (by kernel_rfl) (by kernel_rfl) Try.func60 (by kernel_rfl) (by kernel_rfl) (by kernel_rfl) T_ok Zrk ZrN Zrg ZrJ k
noncomputable def Z7W : List PK := [PK.mk (Ty.slice (36 : Nat) (Ty.slice (3 : Nat) (Ty.int .i64))) false none false none]
noncomputable def ZmW : List PK := [PK.mk (Ty.pair (Ty.int .i64) (Ty.pair (Ty.int .i64) (Ty.slice (71 : Nat) (Ty.pair (Ty.int .i64) (Ty.int .i64))))) true none false none]
noncomputable def ZkV (r : List (List Int)) : Tup Z7W × OutD := ((r, ()), none)
noncomputable def ZkZ : Tup Z7W × OutD → Option (List (List Int))
 | (a, none) => some (a.1)
 | _ => none
theorem ZrV : ∀ b r, ZkZ b = some r → ZkV r = b := by
 rintro ⟨a, o⟩ r h
 cases o with
 | none => injection h with h; subst h; rfl
 | some _ => cases h
noncomputable def Z2u : Nat → List Int → List (List Int × Int) → List (List Int) → List (Int × Int) → Int → Int → Option (List (List Int))
 | 0, _, _, _, _, _, _ => none
 | k + 1, o1, o2, o3, v15, v16, v17 =>
  if decide (v17 < v16) = true then if (0 : Int) ≤ v17 then if v17 < (↑(List.length v15) : Int) then if decide (Prod.fst (List.getD v15 (Int.toNat v17) ((0 : Int), (0 : Int))) = (3 : Int)) = true then if List.length o3 + List.length [[v17]] ≤ (140737488355328 / 24 : Nat) then Z2u k o1 o2 (o3 ++ [[v17]]) v15 v16 (wrap64 (v17 + (1 : Int))) else none else if decide (Prod.fst (List.getD v15 (Int.toNat v17) ((0 : Int), (0 : Int))) = (6 : Int)) = true then if (0 : Int) ≤ v17 then if v17 < (↑(List.length o1) : Int) then if (!Option.isSome (findK [List.getD o1 (Int.toNat v17) (0 : Int)] o2)) = true then if (0 : Int) ≤ v17 then if v17 < (↑(List.length o1) : Int) then if List.length o3 + (1 : Nat) ≤ (140737488355328 / 24 : Nat) then if (↑(List.length o3) : Int) < (↑(List.length (o3 ++ [[]])) : Int) then if List.length (List.getD (o3 ++ [[]]) (Int.toNat (↑(List.length o3) : Int)) []) + List.length [v17] ≤ (140737488355328 / 8 : Nat) then if (↑(List.length o3) : Int) < (↑(List.length (o3 ++ [[]])) : Int) then if (↑(List.length o3) : Int) = (↑(List.length o3) : Int) then Z2u k o1 (putK [List.getD o1 (Int.toNat v17) (0 : Int)] (↑(List.length o3) : Int) o2) (List.set (o3 ++ [[]]) (Int.toNat (↑(List.length o3) : Int)) (List.getD (o3 ++ [[]]) (Int.toNat (↑(List.length o3) : Int)) [] ++ [v17])) v15 v16 (wrap64 (v17 + (1 : Int))) else none else none else none else none else none else none else none else if (0 : Int) ≤ Option.getD (findK [List.getD o1 (Int.toNat v17) (0 : Int)] o2) (0 : Int) then if Option.getD (findK [List.getD o1 (Int.toNat v17) (0 : Int)] o2) (0 : Int) < (↑(List.length o3) : Int) then if List.length (List.getD o3 (Int.toNat (Option.getD (findK [List.getD o1 (Int.toNat v17) (0 : Int)] o2) (0 : Int))) []) + List.length [v17] ≤ (140737488355328 / 8 : Nat) then if (0 : Int) ≤ Option.getD (findK [List.getD o1 (Int.toNat v17) (0 : Int)] o2) (0 : Int) then if Option.getD (findK [List.getD o1 (Int.toNat v17) (0 : Int)] o2) (0 : Int) < (↑(List.length o3) : Int) then if Option.getD (findK [List.getD o1 (Int.toNat v17) (0 : Int)] o2) (0 : Int) = Option.getD (findK [List.getD o1 (Int.toNat v17) (0 : Int)] o2) (0 : Int) then Z2u k o1 o2 (List.set o3 (Int.toNat (Option.getD (findK [List.getD o1 (Int.toNat v17) (0 : Int)] o2) (0 : Int))) (List.getD o3 (Int.toNat (Option.getD (findK [List.getD o1 (Int.toNat v17) (0 : Int)] o2) (0 : Int))) [] ++ [v17])) v15 v16 (wrap64 (v17 + (1 : Int))) else none else none else none else none else none else none else none else none else Z2u k o1 o2 o3 v15 v16 (wrap64 (v17 + (1 : Int))) else none else none else some o3
noncomputable def ZcW : Spec := Spec.mk [OSh.ro, OSh.row true (3 : Nat) (Ty.int .i64), OSh.mp (104 : Nat) false (1 : Nat) (Ty.int .i64), OSh.row true (36 : Nat) (Ty.slice (3 : Nat) (Ty.int .i64))] [((3 : Nat), TSh.at (Sh.sl (1 : Nat))), ((4 : Nat), TSh.at (Sh.mp (2 : Nat))), ((5 : Nat), TSh.at (Sh.sl (3 : Nat))), ((15 : Nat), TSh.at (Sh.snap (0 : Nat) (Ty.pair (Ty.int .i64) (Ty.int .i64)))), ((16 : Nat), TSh.at (Sh.int .i64)), ((17 : Nat), TSh.at (Sh.int .i64))]
noncomputable def ZsW : Spec := Spec.mk [OSh.ro, OSh.row true (36 : Nat) (Ty.slice (3 : Nat) (Ty.int .i64))] [((5 : Nat), TSh.at (Sh.sl (1 : Nat)))]
noncomputable def Z58 : LoopDef (Tup Z7W × OutD) := .plain ZcW ZsW (List (List Int)) (fun k x => Z2u k x.1.2.1 x.1.2.2.1 x.1.2.2.2.1 x.2.2.2.2.1 x.2.2.2.2.2.1 x.2.2.2.2.2.2.1) (fun z => (((), z, ()), ((), ()))) (fun y => (y.1.2.1)) (fun _ => rfl)
noncomputable def Z4i : Nat → Int × Int × List (Int × Int) → Option (List (List Int))
 | 0, _ => none
 | k + 1, p0 =>
  Option.bind (Z3X k (Prod.fst p0, Prod.fst p0.2, Prod.snd p0.2)) fun z0 => Option.bind (Z2u k z0 [] [] p0.2.2 (↑(List.length p0.2.2) : Int) (0 : Int)) fun z1 => some z1
noncomputable def Z1A : FnDef := .of ZmW Z7W (List (List Int)) (fun k x => Z4i k x.1) ZkV ZkZ ZrV
noncomputable def Zcv : Code := Try.f63.body.getD .skip
noncomputable def Z5Q : Ctx (Tup Z7W × OutD) := { T := T, G := [(56, ZX.E)], mvs := [], no := 0, n := 67, res := resOf T ZmW Z7W Try.f63.results.toList, loops := [(0, Z58.E)], regs := [], conds := [], cuts := [] }
theorem ZnO (k : Nat) : EnvOK Try.prog k Z5Q.G := (EnvOK.cons (Zbj k) (EnvOK.nil mixed))
noncomputable def Z9A : Code := (findLoop 0 Zcv).getD .skip
theorem ZsP (k : Nat) (x : ZcW.D) : Z58.lp (k + 1) x = loopK Z5Q Z58 0 Z9A k x := by kernel_rfl
theorem Zul (k : Nat) : LOK Try.prog Z5Q k Z9A := LOK.by [] (by kernel_rfl) AllOK.nil
theorem Zt0 (x : ZcW.D) : Z58.lp 0 x = none := by kernel_rfl
theorem ZrT (k : Nat) : EOK Try.prog Z5Q k Z58.E (.block 0 (.loop Z9A)) := Z8 T_ok ZnO Zt0 ZsP Zul k
theorem ZxQ (k : Nat) (x : Tup Z1A.ps) : Z1A.f (k + 1) x = fnK Z1A Z5Q Zcv k x := by kernel_rfl
theorem ZxT (x : Tup Z1A.ps) : Z1A.f 0 x = none := by kernel_rfl
theorem Zyj (k : Nat) : LOK Try.prog Z5Q k Zcv := LOK.by [(Z58.E, .block 0 (.loop Z9A))] (by kernel_rfl) (AllOK.cons (ZrT k) AllOK.nil)
theorem Za3 (k : Nat) : SoundAt Try.prog k 63 Z1A.E := @Z4 Try.prog Z1A Z5Q 63 Try.f63 Zcv (by kernel_rfl) (by kernel_rfl) (by kernel_rfl) Try.func63 (by kernel_rfl) (by kernel_rfl) (by kernel_rfl) T_ok ZnO Zyj ZxT ZxQ k
noncomputable def Z7r : List PK := [PK.mk (Ty.pair (Ty.int .i64) (Ty.int .i64)) true none false none]
noncomputable def ZhL : List PK := [PK.mk (Ty.pair (Ty.slice (5 : Nat) (Ty.int .u8)) (Ty.pair (Ty.int .i64) (Ty.int .u64))) false none false (some (58 : Nat))]
noncomputable def Zgz (r : (Int × Int) × Int × Int) : Tup Z7r × OutD := ((r.1, ()), some ⟨Ty.pair (Ty.slice (5 : Nat) (Ty.int .u8)) (Ty.pair (Ty.int .i64) (Ty.int .u64)), [([], r.2)]⟩)
noncomputable def ZbG : Tup Z7r × OutD → Option ((Int × Int) × Int × Int)
 | (a, some ⟨u, ys⟩) => if h : u = Ty.pair (Ty.slice (5 : Nat) (Ty.int .u8)) (Ty.pair (Ty.int .i64) (Ty.int .u64)) then (match castU h ys with
  | [([], y)] => some (a.1, y)
  | _ => none) else none
 | _ => none
theorem ZnW : ∀ b r, ZbG b = some r → Zgz r = b := by
 rintro ⟨a, o⟩ r h
 cases o with
 | none => cases h
 | some s =>
  obtain ⟨u, ys⟩ := s
  simp only [ZbG] at h
  split at h
  ·rename_i hu
   subst hu
   match ys, h with
   | [], h => cases (show (none : Option _) = some r from h)
   | [([], y)], h => injection (show some _ = some r from h) with h; subst h; rfl
   | [(_ :: _, y)], h => cases (show (none : Option _) = some r from h)
   | (h1, _) :: _ :: _, h => cases h1 <;> cases (show (none : Option _) = some r from h)
  ·cases h
noncomputable def ZL : Nat → List Int × Int × Int → Option ((Int × Int) × Int × Int)
 | 0, _ => none
 | k + 1, p0 =>
  Option.bind (Zfk k) fun z0 => Option.bind (Z0 k (Prod.fst p0, Prod.fst p0.2, Prod.snd p0.2) (↑(List.length z0) : Int)) fun z1 => if (0 : Int) ≤ Prod.fst z1 then if Prod.fst z1 < (↑(List.length z0) : Int) then some ((Prod.fst (List.getD z0 (Int.toNat z1.1) ((0 : Int), (0 : Int))), Prod.snd (List.getD z0 (Int.toNat z1.1) ((0 : Int), (0 : Int)))), Prod.fst z1.2, Prod.snd z1.2) else none else none
noncomputable def Z1q : FnDef := .of ZhL Z7r ((Int × Int) × Int × Int) (fun k x => ZL k x.1) Zgz ZbG ZnW
noncomputable def ZcG : Code := Try.f73.body.getD .skip
noncomputable def Z9B : Ctx (Tup Z7r × OutD) := { T := T, G := [(97, Z6L.E), (57, Zc.E)], mvs := [], no := 2, n := 12, res := resOf T ZhL Z7r Try.f73.results.toList, loops := [], regs := [], conds := [], cuts := [] }
theorem ZsX (k : Nat) : EnvOK Try.prog k Z9B.G := (EnvOK.cons (ZB0 k) (EnvOK.cons (ZK k) (EnvOK.nil mixed)))
theorem ZtK (k : Nat) (x : Tup Z1q.ps) : Z1q.f (k + 1) x = fnK Z1q Z9B ZcG k x := by kernel_rfl
theorem Zuf (x : Tup Z1q.ps) : Z1q.f 0 x = none := by kernel_rfl
theorem Zua (k : Nat) : LOK Try.prog Z9B k ZcG := LOK.by [] (by kernel_rfl) AllOK.nil
theorem ZcI (k : Nat) : SoundAt Try.prog k 73 Z1q.E := @Z4 Try.prog Z1q Z9B 73 Try.f73 ZcG (by kernel_rfl) (by kernel_rfl) (by kernel_rfl) Try.func73 (by kernel_rfl) (by kernel_rfl) (by kernel_rfl) T_ok ZsX Zua Zuf ZtK k
noncomputable def Z4y : List PK := [PK.mk (Ty.slice (36 : Nat) (Ty.slice (3 : Nat) (Ty.int .i64))) false none false none]
noncomputable def ZnZ : List PK := [PK.mk (Ty.pair (Ty.int .i64) (Ty.pair (Ty.int .i64) (Ty.slice (71 : Nat) (Ty.pair (Ty.int .i64) (Ty.int .i64))))) true none false none]
noncomputable def Zle (r : List (List Int)) : Tup Z4y × OutD := ((r, ()), none)
noncomputable def ZkS : Tup Z4y × OutD → Option (List (List Int))
 | (a, none) => some (a.1)
 | _ => none
theorem ZrS : ∀ b r, ZkS b = some r → Zle r = b := by
 rintro ⟨a, o⟩ r h
 cases o with
 | none => injection h with h; subst h; rfl
 | some _ => cases h
noncomputable def Z66 : Nat → Int → Int → List (Int × Int) → List Int → List Int → Int → Int → Option (Int × Int × List (Int × Int) × List Int × List Int)
 | 0, _, _, _, _, _, _, _ => none
 | k + 1, b1_0, b1_1, b1_2, o2, o3, v16, v17 =>
  if decide (v17 < v16) = true then if (0 : Int) ≤ v17 then if v17 < (↑(List.length o3) : Int) then Z66 k b1_0 b1_1 b1_2 o2 (List.set o3 (Int.toNat v17) (-1 : Int)) v16 (wrap64 (v17 + (1 : Int))) else none else none else some (b1_0, b1_1, b1_2, o2, o3)
noncomputable def ZcE : Spec := Spec.mk [OSh.ro, OSh.box (26 : Nat) [Sh.int .i64, Sh.int .i64, Sh.snap (0 : Nat) (Ty.pair (Ty.int .i64) (Ty.int .i64))], OSh.row true (3 : Nat) (Ty.int .i64), OSh.row true (3 : Nat) (Ty.int .i64)] [((1 : Nat), TSh.at (Sh.ptr (1 : Nat) (0 : Nat))), ((3 : Nat), TSh.at (Sh.sl (2 : Nat))), ((4 : Nat), TSh.at (Sh.sl (3 : Nat))), ((16 : Nat), TSh.at (Sh.int .i64)), ((17 : Nat), TSh.at (Sh.int .i64))]
noncomputable def ZsM : Spec := Spec.mk [OSh.ro, OSh.box (26 : Nat) [Sh.int .i64, Sh.int .i64, Sh.snap (0 : Nat) (Ty.pair (Ty.int .i64) (Ty.int .i64))], OSh.row true (3 : Nat) (Ty.int .i64), OSh.row true (3 : Nat) (Ty.int .i64)] [((1 : Nat), TSh.at (Sh.ptr (1 : Nat) (0 : Nat))), ((3 : Nat), TSh.at (Sh.sl (2 : Nat))), ((4 : Nat), TSh.at (Sh.sl (3 : Nat)))]
noncomputable def Z5i : LoopDef (Tup Z4y × OutD) := .plain ZcE ZsM (Int × Int × List (Int × Int) × List Int × List Int) (fun k x => Z66 k x.1.2.1.1 x.1.2.1.2.1 x.1.2.1.2.2.1 x.1.2.2.1 x.1.2.2.2.1 x.2.2.2.2.1 x.2.2.2.2.2.1) (fun z => (((), (z.1, z.2.1, z.2.2.1, ()), z.2.2.2.1, z.2.2.2.2, ()), ((), (), (), ()))) (fun y => (y.1.2.1.1, y.1.2.1.2.1, y.1.2.1.2.2.1, y.1.2.2.1, y.1.2.2.2.1)) (fun _ => rfl)
noncomputable def Z3m : Nat → List Int → List Int → List (List Int) → Int → List (Int × Int) → Int → Int → Option (List Int × List Int × List (List Int) × List (Int × Int) × Int × Int) := fun k o1 o2 o3 v7 v25 v26 v27 =>
    if (0 : Int) ≤ v7 then if v7 < (↑(List.length o1) : Int) then if (0 : Int) ≤ v7 then if v7 < (↑(List.length o1) : Int) then if (0 : Int) ≤ List.getD o1 (Int.toNat v7) (0 : Int) then if List.getD o1 (Int.toNat v7) (0 : Int) < (↑(List.length o2) : Int) then if (0 : Int) ≤ List.getD o2 (Int.toNat (List.getD o1 (Int.toNat v7) (0 : Int))) (0 : Int) then if List.getD o2 (Int.toNat (List.getD o1 (Int.toNat v7) (0 : Int))) (0 : Int) < (↑(List.length o3) : Int) then if (0 : Int) ≤ List.getD o1 (Int.toNat v7) (0 : Int) then if List.getD o1 (Int.toNat v7) (0 : Int) < (↑(List.length o2) : Int) then if List.length (List.getD o3 (Int.toNat (List.getD o2 (Int.toNat (List.getD o1 (Int.toNat v7) (0 : Int))) (0 : Int))) []) + List.length [v7] ≤ (140737488355328 / 8 : Nat) then if (0 : Int) ≤ List.getD o2 (Int.toNat (List.getD o1 (Int.toNat v7) (0 : Int))) (0 : Int) then if List.getD o2 (Int.toNat (List.getD o1 (Int.toNat v7) (0 : Int))) (0 : Int) < (↑(List.length o3) : Int) then if List.getD o2 (Int.toNat (List.getD o1 (Int.toNat v7) (0 : Int))) (0 : Int) = List.getD o2 (Int.toNat (List.getD o1 (Int.toNat v7) (0 : Int))) (0 : Int) then some (o1, o2, List.set o3 (Int.toNat (List.getD o2 (Int.toNat (List.getD o1 (Int.toNat v7) (0 : Int))) (0 : Int))) (List.getD o3 (Int.toNat (List.getD o2 (Int.toNat (List.getD o1 (Int.toNat v7) (0 : Int))) (0 : Int))) [] ++ [v7]), v25, v26, v27) else none else none else none else none else none else none else none else none else none else none else none else none else none else none
noncomputable def Z8i : Nat → List Int → List Int → List (List Int) → Int → List (Int × Int) → Int → Int → Option (List (List Int × List Int × List (List Int) × List (Int × Int) × Int × Int)) := fun k o1 o2 o3 v7 v25 v26 v27 =>
    if (0 : Int) ≤ v7 then if v7 < (↑(List.length o1) : Int) then if (0 : Int) ≤ v7 then if v7 < (↑(List.length o1) : Int) then if (0 : Int) ≤ List.getD o1 (Int.toNat v7) (0 : Int) then if List.getD o1 (Int.toNat v7) (0 : Int) < (↑(List.length o2) : Int) then if (0 : Int) ≤ List.getD o2 (Int.toNat (List.getD o1 (Int.toNat v7) (0 : Int))) (0 : Int) then if List.getD o2 (Int.toNat (List.getD o1 (Int.toNat v7) (0 : Int))) (0 : Int) < (↑(List.length o3) : Int) then joinL (if (0 : Int) ≤ List.getD o1 (Int.toNat v7) (0 : Int) then if List.getD o1 (Int.toNat v7) (0 : Int) < (↑(List.length o2) : Int) then joinL (if List.length (List.getD o3 (Int.toNat (List.getD o2 (Int.toNat (List.getD o1 (Int.toNat v7) (0 : Int))) (0 : Int))) []) + List.length [v7] ≤ (140737488355328 / 8 : Nat) then if (0 : Int) ≤ List.getD o2 (Int.toNat (List.getD o1 (Int.toNat v7) (0 : Int))) (0 : Int) then if List.getD o2 (Int.toNat (List.getD o1 (Int.toNat v7) (0 : Int))) (0 : Int) < (↑(List.length o3) : Int) then if List.getD o2 (Int.toNat (List.getD o1 (Int.toNat v7) (0 : Int))) (0 : Int) = List.getD o2 (Int.toNat (List.getD o1 (Int.toNat v7) (0 : Int))) (0 : Int) then some [(o1, o2, List.set o3 (Int.toNat (List.getD o2 (Int.toNat (List.getD o1 (Int.toNat v7) (0 : Int))) (0 : Int))) (List.getD o3 (Int.toNat (List.getD o2 (Int.toNat (List.getD o1 (Int.toNat v7) (0 : Int))) (0 : Int))) [] ++ [v7]), v25, v26, v27)] else none else none else none else none) (joinL (if List.length (List.getD o3 (Int.toNat (List.getD o2 (Int.toNat (List.getD o1 (Int.toNat v7) (0 : Int))) (0 : Int))) []) + List.length [v7] ≤ (140737488355328 / 8 : Nat) then if (0 : Int) ≤ List.getD o2 (Int.toNat (List.getD o1 (Int.toNat v7) (0 : Int))) (0 : Int) then if List.getD o2 (Int.toNat (List.getD o1 (Int.toNat v7) (0 : Int))) (0 : Int) < (↑(List.length o3) : Int) then if List.getD o2 (Int.toNat (List.getD o1 (Int.toNat v7) (0 : Int))) (0 : Int) = List.getD o2 (Int.toNat (List.getD o1 (Int.toNat v7) (0 : Int))) (0 : Int) then some [(o1, o2, List.set o3 (Int.toNat (List.getD o2 (Int.toNat (List.getD o1 (Int.toNat v7) (0 : Int))) (0 : Int))) (List.getD o3 (Int.toNat (List.getD o2 (Int.toNat (List.getD o1 (Int.toNat v7) (0 : Int))) (0 : Int))) [] ++ [v7]), v25, v26, v27)] else none else none else none else none) (if List.length (List.getD o3 (Int.toNat (List.getD o2 (Int.toNat (List.getD o1 (Int.toNat v7) (0 : Int))) (0 : Int))) []) + List.length [v7] ≤ (140737488355328 / 8 : Nat) then if (0 : Int) ≤ List.getD o2 (Int.toNat (List.getD o1 (Int.toNat v7) (0 : Int))) (0 : Int) then if List.getD o2 (Int.toNat (List.getD o1 (Int.toNat v7) (0 : Int))) (0 : Int) < (↑(List.length o3) : Int) then if List.getD o2 (Int.toNat (List.getD o1 (Int.toNat v7) (0 : Int))) (0 : Int) = List.getD o2 (Int.toNat (List.getD o1 (Int.toNat v7) (0 : Int))) (0 : Int) then some [(o1, o2, List.set o3 (Int.toNat (List.getD o2 (Int.toNat (List.getD o1 (Int.toNat v7) (0 : Int))) (0 : Int))) (List.getD o3 (Int.toNat (List.getD o2 (Int.toNat (List.getD o1 (Int.toNat v7) (0 : Int))) (0 : Int))) [] ++ [v7]), v25, v26, v27)] else none else none else none else none)) else none else none) (joinL (if (0 : Int) ≤ List.getD o1 (Int.toNat v7) (0 : Int) then if List.getD o1 (Int.toNat v7) (0 : Int) < (↑(List.length o2) : Int) then joinL (if List.length (List.getD o3 (Int.toNat (List.getD o2 (Int.toNat (List.getD o1 (Int.toNat v7) (0 : Int))) (0 : Int))) []) + List.length [v7] ≤ (140737488355328 / 8 : Nat) then if (0 : Int) ≤ List.getD o2 (Int.toNat (List.getD o1 (Int.toNat v7) (0 : Int))) (0 : Int) then if List.getD o2 (Int.toNat (List.getD o1 (Int.toNat v7) (0 : Int))) (0 : Int) < (↑(List.length o3) : Int) then if List.getD o2 (Int.toNat (List.getD o1 (Int.toNat v7) (0 : Int))) (0 : Int) = List.getD o2 (Int.toNat (List.getD o1 (Int.toNat v7) (0 : Int))) (0 : Int) then some [(o1, o2, List.set o3 (Int.toNat (List.getD o2 (Int.toNat (List.getD o1 (Int.toNat v7) (0 : Int))) (0 : Int))) (List.getD o3 (Int.toNat (List.getD o2 (Int.toNat (List.getD o1 (Int.toNat v7) (0 : Int))) (0 : Int))) [] ++ [v7]), v25, v26, v27)] else none else none else none else none) (if List.length (List.getD o3 (Int.toNat (List.getD o2 (Int.toNat (List.getD o1 (Int.toNat v7) (0 : Int))) (0 : Int))) []) + List.length [v7] ≤ (140737488355328 / 8 : Nat) then if (0 : Int) ≤ List.getD o2 (Int.toNat (List.getD o1 (Int.toNat v7) (0 : Int))) (0 : Int) then if List.getD o2 (Int.toNat (List.getD o1 (Int.toNat v7) (0 : Int))) (0 : Int) < (↑(List.length o3) : Int) then if List.getD o2 (Int.toNat (List.getD o1 (Int.toNat v7) (0 : Int))) (0 : Int) = List.getD o2 (Int.toNat (List.getD o1 (Int.toNat v7) (0 : Int))) (0 : Int) then some [(o1, o2, List.set o3 (Int.toNat (List.getD o2 (Int.toNat (List.getD o1 (Int.toNat v7) (0 : Int))) (0 : Int))) (List.getD o3 (Int.toNat (List.getD o2 (Int.toNat (List.getD o1 (Int.toNat v7) (0 : Int))) (0 : Int))) [] ++ [v7]), v25, v26, v27)] else none else none else none else none) else none else none) (if List.length (List.getD o3 (Int.toNat (List.getD o2 (Int.toNat (List.getD o1 (Int.toNat v7) (0 : Int))) (0 : Int))) []) + List.length [v7] ≤ (140737488355328 / 8 : Nat) then if (0 : Int) ≤ List.getD o1 (Int.toNat v7) (0 : Int) then if List.getD o1 (Int.toNat v7) (0 : Int) < (↑(List.length o2) : Int) then if (0 : Int) ≤ List.getD o2 (Int.toNat (List.getD o1 (Int.toNat v7) (0 : Int))) (0 : Int) then if List.getD o2 (Int.toNat (List.getD o1 (Int.toNat v7) (0 : Int))) (0 : Int) < (↑(List.length o3) : Int) then if List.getD o2 (Int.toNat (List.getD o1 (Int.toNat v7) (0 : Int))) (0 : Int) = List.getD o2 (Int.toNat (List.getD o1 (Int.toNat v7) (0 : Int))) (0 : Int) then some [(o1, o2, List.set o3 (Int.toNat (List.getD o2 (Int.toNat (List.getD o1 (Int.toNat v7) (0 : Int))) (0 : Int))) (List.getD o3 (Int.toNat (List.getD o2 (Int.toNat (List.getD o1 (Int.toNat v7) (0 : Int))) (0 : Int))) [] ++ [v7]), v25, v26, v27)] else none else none else none else none else none else none)) else none else none else none else none else none else none else none else none
noncomputable def ZfF : Spec := Spec.mk [OSh.ro, OSh.row true (3 : Nat) (Ty.int .i64), OSh.row true (3 : Nat) (Ty.int .i64), OSh.row true (36 : Nat) (Ty.slice (3 : Nat) (Ty.int .i64))] [((3 : Nat), TSh.at (Sh.sl (1 : Nat))), ((4 : Nat), TSh.at (Sh.sl (2 : Nat))), ((6 : Nat), TSh.at (Sh.sl (3 : Nat))), ((7 : Nat), TSh.at (Sh.int .i64)), ((25 : Nat), TSh.at (Sh.snap (0 : Nat) (Ty.pair (Ty.int .i64) (Ty.int .i64)))), ((26 : Nat), TSh.at (Sh.int .i64)), ((27 : Nat), TSh.at (Sh.int .i64))]
noncomputable def Zql : Spec := Spec.mk [OSh.ro, OSh.row true (3 : Nat) (Ty.int .i64), OSh.row true (3 : Nat) (Ty.int .i64), OSh.row true (36 : Nat) (Ty.slice (3 : Nat) (Ty.int .i64))] [((3 : Nat), TSh.at (Sh.sl (1 : Nat))), ((4 : Nat), TSh.at (Sh.sl (2 : Nat))), ((6 : Nat), TSh.at (Sh.sl (3 : Nat))), ((25 : Nat), TSh.at (Sh.snap (0 : Nat) (Ty.pair (Ty.int .i64) (Ty.int .i64)))), ((26 : Nat), TSh.at (Sh.int .i64)), ((27 : Nat), TSh.at (Sh.int .i64))]
noncomputable def Z3V : LoopDef (Tup Z4y × OutD) := .plain ZfF Zql (List Int × List Int × List (List Int) × List (Int × Int) × Int × Int) (fun k x => Z3m k x.1.2.1 x.1.2.2.1 x.1.2.2.2.1 x.2.2.2.2.1 x.2.2.2.2.2.1 x.2.2.2.2.2.2.1 x.2.2.2.2.2.2.2.1) (fun z => (((), z.1, z.2.1, z.2.2.1, ()), ((), (), (), z.2.2.2.1, z.2.2.2.2.1, z.2.2.2.2.2, ()))) (fun y => (y.1.2.1, y.1.2.2.1, y.1.2.2.2.1, y.2.2.2.2.1, y.2.2.2.2.2.1, y.2.2.2.2.2.2.1)) (fun _ => rfl)
theorem Zqo (k : Nat) (o1 : List Int) (o2 : List Int) (o3 : List (List Int)) (v7 : Int) (v25 : List (Int × Int)) (v26 : Int) (v27 : Int) : Z8i k o1 o2 o3 v7 v25 v26 v27 = repl 6 (Z3m k o1 o2 o3 v7 v25 v26 v27) := by
 first
 | (simp only [Z8i, Z3m, Zh, Zo, Zg, Zi, Ze, Z3, if_true]; done)
 | (simp only [Z8i, Z3m, Zh, Zo, Zg, Zi, Ze, Z3, if_true]; simp only [Z1E, Z1D, Z3k, Z3]; simp only [Z4r]; exact Z2g ⟨fun h => by simp only [h, and_self], fun h => by simp only [h, and_self]⟩)
noncomputable def Z1d : Nat → List Int → List Int → List (List Int) → List (Int × Int) → Int → Int → Option (List (List Int))
 | 0, _, _, _, _, _, _ => none
 | k + 1, o1, o2, o3, v25, v26, v27 =>
  if decide (v27 < v26) = true then if (0 : Int) ≤ v27 then if v27 < (↑(List.length v25) : Int) then if decide (Prod.fst (List.getD v25 (Int.toNat v27) ((0 : Int), (0 : Int))) = (3 : Int)) = true then if List.length o3 + List.length [[v27]] ≤ (140737488355328 / 24 : Nat) then Z1d k o1 o2 (o3 ++ [[v27]]) v25 v26 (wrap64 (v27 + (1 : Int))) else none else if decide (Prod.fst (List.getD v25 (Int.toNat v27) ((0 : Int), (0 : Int))) = (6 : Int)) = true then if (0 : Int) ≤ v27 then if v27 < (↑(List.length o1) : Int) then if (0 : Int) ≤ List.getD o1 (Int.toNat v27) (0 : Int) then if List.getD o1 (Int.toNat v27) (0 : Int) < (↑(List.length o2) : Int) then if decide (List.getD o2 (Int.toNat (List.getD o1 (Int.toNat v27) (0 : Int))) (0 : Int) < (0 : Int)) = true then if (0 : Int) ≤ v27 then if v27 < (↑(List.length o1) : Int) then if (0 : Int) ≤ List.getD o1 (Int.toNat v27) (0 : Int) then if List.getD o1 (Int.toNat v27) (0 : Int) < (↑(List.length o2) : Int) then if List.length o3 + List.length [[v27]] ≤ (140737488355328 / 24 : Nat) then Z1d k o1 (List.set o2 (Int.toNat (List.getD o1 (Int.toNat v27) (0 : Int))) (↑(List.length o3) : Int)) (o3 ++ [[v27]]) v25 v26 (wrap64 (v27 + (1 : Int))) else none else none else none else none else none else if decide (Prod.fst (List.getD v25 (Int.toNat v27) ((0 : Int), (0 : Int))) = (6 : Int)) = true then Option.bind (Z3m k o1 o2 o3 v27 v25 v26 v27) fun z2 => Z1d k z2.1 z2.2.1 z2.2.2.1 z2.2.2.2.1 z2.2.2.2.2.1 (wrap64 (Prod.snd z2.2.2.2.2 + (1 : Int))) else Z1d k o1 o2 o3 v25 v26 (wrap64 (v27 + (1 : Int))) else none else none else none else none else if decide (Prod.fst (List.getD v25 (Int.toNat v27) ((0 : Int), (0 : Int))) = (6 : Int)) = true then Option.bind (Z3m k o1 o2 o3 v27 v25 v26 v27) fun z3 => Z1d k z3.1 z3.2.1 z3.2.2.1 z3.2.2.2.1 z3.2.2.2.2.1 (wrap64 (Prod.snd z3.2.2.2.2 + (1 : Int))) else Z1d k o1 o2 o3 v25 v26 (wrap64 (v27 + (1 : Int))) else none else none else some o3
noncomputable def ZcR : Spec := Spec.mk [OSh.ro, OSh.row true (3 : Nat) (Ty.int .i64), OSh.row true (3 : Nat) (Ty.int .i64), OSh.row true (36 : Nat) (Ty.slice (3 : Nat) (Ty.int .i64))] [((3 : Nat), TSh.at (Sh.sl (1 : Nat))), ((4 : Nat), TSh.at (Sh.sl (2 : Nat))), ((6 : Nat), TSh.at (Sh.sl (3 : Nat))), ((25 : Nat), TSh.at (Sh.snap (0 : Nat) (Ty.pair (Ty.int .i64) (Ty.int .i64)))), ((26 : Nat), TSh.at (Sh.int .i64)), ((27 : Nat), TSh.at (Sh.int .i64))]
noncomputable def ZsR : Spec := Spec.mk [OSh.ro, OSh.row true (36 : Nat) (Ty.slice (3 : Nat) (Ty.int .i64))] [((6 : Nat), TSh.at (Sh.sl (1 : Nat)))]
noncomputable def Z5h : LoopDef (Tup Z4y × OutD) := .plain ZcR ZsR (List (List Int)) (fun k x => Z1d k x.1.2.1 x.1.2.2.1 x.1.2.2.2.1 x.2.2.2.2.1 x.2.2.2.2.2.1 x.2.2.2.2.2.2.1) (fun z => (((), z, ()), ((), ()))) (fun y => (y.1.2.1)) (fun _ => rfl)
noncomputable def Z2z : Nat → Int × Int × List (Int × Int) → Option (List (List Int))
 | 0, _ => none
 | k + 1, p0 =>
  Option.bind (Z2f k (Prod.fst p0, Prod.fst p0.2, Prod.snd p0.2)) fun z0 => if Int.toNat (↑(List.length p0.2.2) : Int) * (8 : Nat) ≤ (281474976710656 : Nat) then Option.bind (Z66 k p0.1 p0.2.1 p0.2.2 z0 (List.replicate (Int.toNat (↑(List.length p0.2.2) : Int)) (0 : Int)) (↑(List.length (List.replicate (Int.toNat (↑(List.length p0.2.2) : Int)) (0 : Int))) : Int) (0 : Int)) fun z1 => Option.bind (Z1d k z1.2.2.2.1 z1.2.2.2.2 [] z1.2.2.1 (↑(List.length z1.2.2.1) : Int) (0 : Int)) fun z4 => some z4 else none
noncomputable def ZV : FnDef := .of ZnZ Z4y (List (List Int)) (fun k x => Z2z k x.1) Zle ZkS ZrS
noncomputable def Z7Q : Code := Try.f81.body.getD .skip
noncomputable def ZE : Ctx (Tup Z4y × OutD) := { T := T, G := [(92, Z31.E)], mvs := [], no := 0, n := 96, res := resOf T ZnZ Z4y Try.f81.results.toList, loops := [(0, Z5i.E), (2, Z5h.E)], regs := [(18, Z3V.E)], conds := [], cuts := [] }
theorem Zcn (k : Nat) : EnvOK Try.prog k ZE.G := (EnvOK.cons (Zlq k) (EnvOK.nil mixed))
noncomputable def Zbe : Array Oper := (findReg 18 Z7Q).getD #[]
theorem Zqk (k : Nat) (x : ZfF.D) : execD ZE.T ZE.G ZE.mvs k Zbe (Z3V.inp.st ZE.n x) (outK ZE Z3V) = Z8i k x.1.2.1 x.1.2.2.1 x.1.2.2.2.1 x.2.2.2.2.1 x.2.2.2.2.2.1 x.2.2.2.2.2.2.1 x.2.2.2.2.2.2.2.1 := by kernel_rfl
theorem ZoZ (k : Nat) : EOK Try.prog ZE k Z3V.E (.region 18 Zbe true) := Z6K (D := Z3V) (m := 6) T_ok (Zcn k) (fun x => (Zqk k x).trans (Zqo k x.1.2.1 x.1.2.2.1 x.1.2.2.2.1 x.2.2.2.2.1 x.2.2.2.2.2.1 x.2.2.2.2.2.2.1 x.2.2.2.2.2.2.2.1))
noncomputable def Z9v : Code := (findLoop 0 Z7Q).getD .skip
theorem Zue (k : Nat) (x : ZcE.D) : Z5i.lp (k + 1) x = loopK ZE Z5i 0 Z9v k x := by kernel_rfl
theorem Zuj (k : Nat) : LOK Try.prog ZE k Z9v := LOK.by [] (by kernel_rfl) AllOK.nil
theorem ZsH (x : ZcE.D) : Z5i.lp 0 x = none := by kernel_rfl
theorem ZqY (k : Nat) : EOK Try.prog ZE k Z5i.E (.block 0 (.loop Z9v)) := Z8 T_ok Zcn ZsH Zue Zuj k
noncomputable def Z9y : Code := (findLoop 2 Z7Q).getD .skip
theorem Zug (k : Nat) (x : ZcR.D) : Z5h.lp (k + 1) x = loopK ZE Z5h 2 Z9y k x := by kernel_rfl
theorem Ztn (k : Nat) : LOK Try.prog ZE k Z9y := LOK.by [(Z3V.E, .region 18 Zbe true)] (by kernel_rfl) (AllOK.cons (ZoZ k) AllOK.nil)
theorem ZtJ (x : ZcR.D) : Z5h.lp 0 x = none := by kernel_rfl
theorem ZrM (k : Nat) : EOK Try.prog ZE k Z5h.E (.block 2 (.loop Z9y)) := Z8 T_ok Zcn ZtJ Zug Ztn k
theorem ZxM (k : Nat) (x : Tup ZV.ps) : ZV.f (k + 1) x = fnK ZV ZE Z7Q k x := by kernel_rfl
theorem ZxP (x : Tup ZV.ps) : ZV.f 0 x = none := by kernel_rfl
theorem ZxK (k : Nat) : LOK Try.prog ZE k Z7Q := LOK.by [(Z5i.E, .block 0 (.loop Z9v)), (Z5h.E, .block 2 (.loop Z9y))] (by kernel_rfl) (AllOK.cons (ZqY k) (AllOK.cons (ZrM k) AllOK.nil))
theorem Z5Z (k : Nat) : SoundAt Try.prog k 81 ZV.E := @Z4 Try.prog ZV ZE 81 Try.f81 Z7Q (by kernel_rfl) (by kernel_rfl) (by kernel_rfl) Try.func81 (by kernel_rfl) (by kernel_rfl) (by kernel_rfl) T_ok Zcn ZxK ZxP ZxM k
noncomputable def Z8D : List PK := [PK.mk Ty.bool false none false none]
noncomputable def Zpb : List PK := [PK.mk (Ty.pair (Ty.int .i64) (Ty.pair (Ty.int .i64) (Ty.slice (71 : Nat) (Ty.pair (Ty.int .i64) (Ty.int .i64))))) true none false none]
noncomputable def Zgi (r : Bool) : Tup Z8D × OutD := ((r, ()), none)
noncomputable def ZfW : Tup Z8D × OutD → Option (Bool)
 | (a, none) => some (a.1)
 | _ => none
theorem Zi2 : ∀ b r, ZfW b = some r → Zgi r = b := by
 rintro ⟨a, o⟩ r h
 cases o with
 | none => injection h with h; subst h; rfl
 | some _ => cases h
noncomputable def Z74 : Nat → List (Int × Int) → Int → Int → Option (LR Unit Bool)
 | 0, _, _, _ => none
 | k + 1, v27, v28, v29 =>
  if decide (v29 < v28) = true then if (0 : Int) ≤ v29 then if v29 < (↑(List.length v27) : Int) then Option.bind (ZdP k (Prod.fst (List.getD v27 (Int.toNat v29) ((0 : Int), (0 : Int))), Prod.snd (List.getD v27 (Int.toNat v29) ((0 : Int), (0 : Int))))) fun z2 => if (!z2) = true then some (LR.ret false) else Z74 k v27 v28 (wrap64 (v29 + (1 : Int))) else none else none else some (LR.go ())
noncomputable def Zee : Spec := Spec.mk [OSh.ro] [((27 : Nat), TSh.at (Sh.snap (0 : Nat) (Ty.pair (Ty.int .i64) (Ty.int .i64)))), ((28 : Nat), TSh.at (Sh.int .i64)), ((29 : Nat), TSh.at (Sh.int .i64))]
noncomputable def Zwl : Spec := Spec.mk [OSh.ro] []
noncomputable def Z5X : LoopDef (Tup Z8D × OutD) := .rets Zee Zwl (Unit) (Bool) (fun k x => Z74 k x.2.1 x.2.2.1 x.2.2.2.1) (fun z => (((), ()), (()))) (fun y => ()) (fun _ => rfl) Zgi ZfW Zi2
noncomputable def Z7f : Nat → Int × Int × List (Int × Int) → Option Bool
 | 0, _ => none
 | k + 1, p0 =>
  Option.bind (Z6g k p0.1 (1 : Int) (10 : Int)) fun z0 => if (!z0) = true then some false else Option.bind (Z6g k p0.2.1 (1 : Int) (9 : Int)) fun z1 => if (!z1) = true then some false else if decide ((↑(List.length p0.2.2) : Int) ≠ wrap64 (Prod.fst p0 * Prod.fst p0.2)) = true then some false else Option.bind (Z74 k p0.2.2 (↑(List.length p0.2.2) : Int) (0 : Int)) fun z3 => LR.on z3 (fun y3 => some true) fun r3 => some r3
noncomputable def Z3v : FnDef := .of Zpb Z8D (Bool) (fun k x => Z7f k x.1) Zgi ZfW Zi2
noncomputable def ZdF : Code := Try.f86.body.getD .skip
noncomputable def Z7d : Ctx (Tup Z8D × OutD) := { T := T, G := [(94, Z47.E), (103, Z5p.E)], mvs := [], no := 0, n := 37, res := resOf T Zpb Z8D Try.f86.results.toList, loops := [(0, Z5X.E)], regs := [], conds := [], cuts := [] }
theorem ZpF (k : Nat) : EnvOK Try.prog k Z7d.G := (EnvOK.cons (Zgo k) (EnvOK.cons (Zz2 k) (EnvOK.nil mixed)))
noncomputable def ZaH : Code := (findLoop 0 ZdF).getD .skip
theorem ZuU (k : Nat) (x : Zee.D) : Z5X.lp (k + 1) x = loopK Z7d Z5X 0 ZaH k x := by kernel_rfl
theorem ZvQ (k : Nat) : LOK Try.prog Z7d k ZaH := LOK.by [] (by kernel_rfl) AllOK.nil
theorem Zvt (x : Zee.D) : Z5X.lp 0 x = none := by kernel_rfl
theorem Ztg (k : Nat) : EOK Try.prog Z7d k Z5X.E (.block 0 (.loop ZaH)) := Z8 T_ok ZpF Zvt ZuU ZvQ k
theorem ZA8 (k : Nat) (x : Tup Z3v.ps) : Z3v.f (k + 1) x = fnK Z3v Z7d ZdF k x := by kernel_rfl
theorem Zzs (x : Tup Z3v.ps) : Z3v.f 0 x = none := by kernel_rfl
theorem Zzm (k : Nat) : LOK Try.prog Z7d k ZdF := LOK.by [(Z5X.E, .block 0 (.loop ZaH))] (by kernel_rfl) (AllOK.cons (Ztg k) AllOK.nil)
theorem Zhh (k : Nat) : SoundAt Try.prog k 86 Z3v.E := @Z4 Try.prog Z3v Z7d 86 Try.f86 ZdF (by kernel_rfl) (by kernel_rfl) (by kernel_rfl) Try.func86 (by kernel_rfl) (by kernel_rfl) (by kernel_rfl) T_ok ZpF Zzm Zzs ZA8 k
noncomputable def Z6i : List PK := [PK.mk (Ty.pair (Ty.int .i64) (Ty.pair (Ty.int .i64) (Ty.int .i64))) true none false none, PK.mk (Ty.pair (Ty.int .i64) (Ty.pair (Ty.int .i64) (Ty.slice (71 : Nat) (Ty.pair (Ty.int .i64) (Ty.int .i64))))) true none false none, PK.mk (Ty.slice (36 : Nat) (Ty.slice (3 : Nat) (Ty.int .i64))) false none false none]
noncomputable def ZuD : List PK := [PK.mk (Ty.pair (Ty.int .i64) (Ty.pair (Ty.int .i64) (Ty.slice (71 : Nat) (Ty.pair (Ty.int .i64) (Ty.int .i64))))) true none false none, PK.mk (Ty.slice (3 : Nat) (Ty.int .i64)) false none false none, PK.mk (Ty.int .i64) false none false none]
noncomputable def ZjU (r : (Int × Int × Int) × (Int × Int × List (Int × Int)) × List (List Int)) : Tup Z6i × OutD := ((r.1, r.2.1, r.2.2, ()), none)
noncomputable def ZiZ : Tup Z6i × OutD → Option ((Int × Int × Int) × (Int × Int × List (Int × Int)) × List (List Int))
 | (a, none) => some (a.1, a.2.1, a.2.2.1)
 | _ => none
theorem Zl7 : ∀ b r, ZiZ b = some r → ZjU r = b := by
 rintro ⟨a, o⟩ r h
 cases o with
 | none => injection h with h; subst h; rfl
 | some _ => cases h
noncomputable def Z4Z : Nat → Int → Int → Int → Int → Int → List (Int × Int) → Int → Int → List (Int × Int) → List (List Int) → Int → Int → Option (Int × Int × Int × Int × Int × List (Int × Int) × List (List Int)) := fun k b1_0 b1_1 b1_2 b2_0 b2_1 o3 b4_0 b4_1 o5 o6 v2 v12 =>
    some ((2 : Int), v12, v2, b4_0, b4_1, o5, o6)
noncomputable def Zaw : Nat → Int → Int → Int → Int → Int → List (Int × Int) → Int → Int → List (Int × Int) → List (List Int) → Int → Int → Option (List (Int × Int × Int × Int × Int × List (Int × Int) × List (List Int))) := fun k b1_0 b1_1 b1_2 b2_0 b2_1 o3 b4_0 b4_1 o5 o6 v2 v12 =>
    joinL (some [((2 : Int), v12, v2, b4_0, b4_1, o5, o6)]) (some [((2 : Int), v12, v2, b4_0, b4_1, o5, o6)])
noncomputable def Zj3 : Spec := Spec.mk [OSh.ro, OSh.box (75 : Nat) [Sh.int .i64, Sh.int .i64, Sh.int .i64], OSh.box (26 : Nat) [Sh.int .i64, Sh.int .i64, Sh.sl (3 : Nat)], OSh.row true (71 : Nat) (Ty.pair (Ty.int .i64) (Ty.int .i64)), OSh.box (26 : Nat) [Sh.int .i64, Sh.int .i64, Sh.sl (5 : Nat)], OSh.row true (71 : Nat) (Ty.pair (Ty.int .i64) (Ty.int .i64)), OSh.row true (36 : Nat) (Ty.slice (3 : Nat) (Ty.int .i64))] [((2 : Nat), TSh.at (Sh.int .i64)), ((6 : Nat), TSh.at (Sh.ptr (1 : Nat) (0 : Nat))), ((7 : Nat), TSh.at (Sh.ptr (2 : Nat) (0 : Nat))), ((9 : Nat), TSh.at (Sh.ptr (4 : Nat) (0 : Nat))), ((10 : Nat), TSh.at (Sh.sl (6 : Nat))), ((12 : Nat), TSh.at (Sh.int .i64))]
noncomputable def ZuX : Spec := Spec.mk [OSh.ro, OSh.box (75 : Nat) [Sh.int .i64, Sh.int .i64, Sh.int .i64], OSh.box (26 : Nat) [Sh.int .i64, Sh.int .i64, Sh.sl (3 : Nat)], OSh.row true (71 : Nat) (Ty.pair (Ty.int .i64) (Ty.int .i64)), OSh.row true (36 : Nat) (Ty.slice (3 : Nat) (Ty.int .i64))] [((6 : Nat), TSh.at (Sh.ptr (1 : Nat) (0 : Nat))), ((7 : Nat), TSh.at (Sh.ptr (2 : Nat) (0 : Nat))), ((8 : Nat), TSh.at (Sh.sl (4 : Nat)))]
noncomputable def Z6e : LoopDef (Tup Z6i × OutD) := .plain Zj3 ZuX (Int × Int × Int × Int × Int × List (Int × Int) × List (List Int)) (fun k x => Z4Z k x.1.2.1.1 x.1.2.1.2.1 x.1.2.1.2.2.1 x.1.2.2.1.1 x.1.2.2.1.2.1 x.1.2.2.2.1 x.1.2.2.2.2.1.1 x.1.2.2.2.2.1.2.1 x.1.2.2.2.2.2.1 x.1.2.2.2.2.2.2.1 x.2.1 x.2.2.2.2.2.2.1) (fun z => (((), (z.1, z.2.1, z.2.2.1, ()), (z.2.2.2.1, z.2.2.2.2.1, (), ()), z.2.2.2.2.2.1, z.2.2.2.2.2.2, ()), ((), (), (), ()))) (fun y => (y.1.2.1.1, y.1.2.1.2.1, y.1.2.1.2.2.1, y.1.2.2.1.1, y.1.2.2.1.2.1, y.1.2.2.2.1, y.1.2.2.2.2.1)) (fun _ => rfl)
theorem Zwh (k : Nat) (b1_0 : Int) (b1_1 : Int) (b1_2 : Int) (b2_0 : Int) (b2_1 : Int) (o3 : List (Int × Int)) (b4_0 : Int) (b4_1 : Int) (o5 : List (Int × Int)) (o6 : List (List Int)) (v2 : Int) (v12 : Int) : Zaw k b1_0 b1_1 b1_2 b2_0 b2_1 o3 b4_0 b4_1 o5 o6 v2 v12 = repl 2 (Z4Z k b1_0 b1_1 b1_2 b2_0 b2_1 o3 b4_0 b4_1 o5 o6 v2 v12) := by
 first
 | (simp only [Zaw, Z4Z, Zh, Zo, Zg, Zi, Ze, Z3, if_true]; done)
 | (simp only [Zaw, Z4Z, Zh, Zo, Zg, Zi, Ze, Z3, if_true]; simp only [Z1E, Z1D, Z3k, Z3]; simp only [Z4r]; exact Z2g ⟨fun h => by simp only [h, and_self], fun h => by simp only [h, and_self]⟩)
noncomputable def Z54 : Nat → Int → Int → Int → Int → Int → List (Int × Int) → Int → Int → List (Int × Int) → List (List Int) → Int → Int → Option (Int × Int × Int × Int × Int × List (Int × Int) × List (List Int)) := fun k b1_0 b1_1 b1_2 b2_0 b2_1 o3 b4_0 b4_1 o5 o6 v2 v12 =>
    some ((3 : Int), v12, v2, b4_0, b4_1, o5, o6)
noncomputable def ZaG : Nat → Int → Int → Int → Int → Int → List (Int × Int) → Int → Int → List (Int × Int) → List (List Int) → Int → Int → Option (List (Int × Int × Int × Int × Int × List (Int × Int) × List (List Int))) := fun k b1_0 b1_1 b1_2 b2_0 b2_1 o3 b4_0 b4_1 o5 o6 v2 v12 =>
    joinL (some [((3 : Int), v12, v2, b4_0, b4_1, o5, o6)]) (some [((3 : Int), v12, v2, b4_0, b4_1, o5, o6)])
noncomputable def Zjv : Spec := Spec.mk [OSh.ro, OSh.box (75 : Nat) [Sh.int .i64, Sh.int .i64, Sh.int .i64], OSh.box (26 : Nat) [Sh.int .i64, Sh.int .i64, Sh.sl (3 : Nat)], OSh.row true (71 : Nat) (Ty.pair (Ty.int .i64) (Ty.int .i64)), OSh.box (26 : Nat) [Sh.int .i64, Sh.int .i64, Sh.sl (5 : Nat)], OSh.row true (71 : Nat) (Ty.pair (Ty.int .i64) (Ty.int .i64)), OSh.row true (36 : Nat) (Ty.slice (3 : Nat) (Ty.int .i64))] [((2 : Nat), TSh.at (Sh.int .i64)), ((6 : Nat), TSh.at (Sh.ptr (1 : Nat) (0 : Nat))), ((7 : Nat), TSh.at (Sh.ptr (2 : Nat) (0 : Nat))), ((9 : Nat), TSh.at (Sh.ptr (4 : Nat) (0 : Nat))), ((10 : Nat), TSh.at (Sh.sl (6 : Nat))), ((12 : Nat), TSh.at (Sh.int .i64))]
noncomputable def Zw9 : Spec := Spec.mk [OSh.ro, OSh.box (75 : Nat) [Sh.int .i64, Sh.int .i64, Sh.int .i64], OSh.box (26 : Nat) [Sh.int .i64, Sh.int .i64, Sh.sl (3 : Nat)], OSh.row true (71 : Nat) (Ty.pair (Ty.int .i64) (Ty.int .i64)), OSh.row true (36 : Nat) (Ty.slice (3 : Nat) (Ty.int .i64))] [((6 : Nat), TSh.at (Sh.ptr (1 : Nat) (0 : Nat))), ((7 : Nat), TSh.at (Sh.ptr (2 : Nat) (0 : Nat))), ((8 : Nat), TSh.at (Sh.sl (4 : Nat)))]
noncomputable def Z65 : LoopDef (Tup Z6i × OutD) := .plain Zjv Zw9 (Int × Int × Int × Int × Int × List (Int × Int) × List (List Int)) (fun k x => Z54 k x.1.2.1.1 x.1.2.1.2.1 x.1.2.1.2.2.1 x.1.2.2.1.1 x.1.2.2.1.2.1 x.1.2.2.2.1 x.1.2.2.2.2.1.1 x.1.2.2.2.2.1.2.1 x.1.2.2.2.2.2.1 x.1.2.2.2.2.2.2.1 x.2.1 x.2.2.2.2.2.2.1) (fun z => (((), (z.1, z.2.1, z.2.2.1, ()), (z.2.2.2.1, z.2.2.2.2.1, (), ()), z.2.2.2.2.2.1, z.2.2.2.2.2.2, ()), ((), (), (), ()))) (fun y => (y.1.2.1.1, y.1.2.1.2.1, y.1.2.1.2.2.1, y.1.2.2.1.1, y.1.2.2.1.2.1, y.1.2.2.2.1, y.1.2.2.2.2.1)) (fun _ => rfl)
theorem ZuV (k : Nat) (b1_0 : Int) (b1_1 : Int) (b1_2 : Int) (b2_0 : Int) (b2_1 : Int) (o3 : List (Int × Int)) (b4_0 : Int) (b4_1 : Int) (o5 : List (Int × Int)) (o6 : List (List Int)) (v2 : Int) (v12 : Int) : ZaG k b1_0 b1_1 b1_2 b2_0 b2_1 o3 b4_0 b4_1 o5 o6 v2 v12 = repl 2 (Z54 k b1_0 b1_1 b1_2 b2_0 b2_1 o3 b4_0 b4_1 o5 o6 v2 v12) := by
 first
 | (simp only [ZaG, Z54, Zh, Zo, Zg, Zi, Ze, Z3, if_true]; done)
 | (simp only [ZaG, Z54, Zh, Zo, Zg, Zi, Ze, Z3, if_true]; simp only [Z1E, Z1D, Z3k, Z3]; simp only [Z4r]; exact Z2g ⟨fun h => by simp only [h, and_self], fun h => by simp only [h, and_self]⟩)
noncomputable def Z5u : Nat → Int → Int → List (Int × Int) → Int → Int → Int → Int → Int → List (Int × Int) → Int → Int → List (Int × Int) → List (List Int) → List Int → Int → Int → Int → Option (LR (Int × Int × List (Int × Int) × Int × Int × Int × Int × Int × List (Int × Int) × Int × Int × List (Int × Int) × List (List Int) × Int) ((Int × Int × Int) × (Int × Int × List (Int × Int)) × List (List Int)))
 | 0, _, _, _, _, _, _, _, _, _, _, _, _, _, _, _, _, _ => none
 | k + 1, b1_0, b1_1, b1_2, b2_0, b2_1, b2_2, b3_0, b3_1, o4, b5_0, b5_1, o6, o7, v1, v2, v11, v12 =>
  if decide (v12 < b1_0) = true then if List.length o7 + List.length [[v12, v2]] ≤ (140737488355328 / 24 : Nat) then Option.bind (Zgn k (b5_0, b5_1, o6) v12 v2) fun z1 => if decide (Prod.fst z1 = (5 : Int)) = true then Option.bind (Z4Z k b2_0 b2_1 b2_2 b3_0 b3_1 o4 b5_0 b5_1 o6 (o7 ++ [[v12, v2]]) v2 v12) fun z2 => some (LR.ret ((Prod.fst z2, Prod.fst z2.2, Prod.fst z2.2.2), (Prod.fst z2.2.2.2, Prod.fst z2.2.2.2.2, Prod.fst z2.2.2.2.2.2), Prod.snd z2.2.2.2.2.2)) else Option.bind (Zb5 k (Prod.fst z1, Prod.snd z1) v11) fun z3 => Option.bind (Zb4 k (b5_0, b5_1, o6) v1 (wrap64 (wrap64 (v12 * b1_1) + v2))) fun z4 => Option.bind (Z6g k (wrap64 (v2 + z3)) (0 : Int) (wrap64 (b1_1 - (1 : Int)))) fun z5 => if (!z5) = true then Option.bind (Z54 k b2_0 b2_1 b2_2 b3_0 b3_1 o4 b5_0 b5_1 z4 (o7 ++ [[v12, v2]]) (wrap64 (v2 + z3)) v12) fun z6 => some (LR.ret ((Prod.fst z6, Prod.fst z6.2, Prod.fst z6.2.2), (Prod.fst z6.2.2.2, Prod.fst z6.2.2.2.2, Prod.fst z6.2.2.2.2.2), Prod.snd z6.2.2.2.2.2)) else Z5u k b1_0 b1_1 b1_2 b2_0 b2_1 b2_2 b3_0 b3_1 o4 b5_0 b5_1 z4 (o7 ++ [[v12, v2]]) v1 (wrap64 (v2 + z3)) (wrap64 ((0 : Int) - z3)) (wrap64 (v12 + (1 : Int))) else none else some (LR.go (b1_0, b1_1, b1_2, b2_0, b2_1, b2_2, b3_0, b3_1, o4, b5_0, b5_1, o6, o7, v2))
noncomputable def Zge : Spec := Spec.mk [OSh.ro, OSh.box (26 : Nat) [Sh.int .i64, Sh.int .i64, Sh.snap (0 : Nat) (Ty.pair (Ty.int .i64) (Ty.int .i64))], OSh.box (75 : Nat) [Sh.int .i64, Sh.int .i64, Sh.int .i64], OSh.box (26 : Nat) [Sh.int .i64, Sh.int .i64, Sh.sl (4 : Nat)], OSh.row true (71 : Nat) (Ty.pair (Ty.int .i64) (Ty.int .i64)), OSh.box (26 : Nat) [Sh.int .i64, Sh.int .i64, Sh.sl (6 : Nat)], OSh.row true (71 : Nat) (Ty.pair (Ty.int .i64) (Ty.int .i64)), OSh.row true (36 : Nat) (Ty.slice (3 : Nat) (Ty.int .i64))] [((1 : Nat), TSh.at (Sh.snap (0 : Nat) (Ty.int .i64))), ((2 : Nat), TSh.at (Sh.int .i64)), ((3 : Nat), TSh.at (Sh.ptr (1 : Nat) (0 : Nat))), ((6 : Nat), TSh.at (Sh.ptr (2 : Nat) (0 : Nat))), ((7 : Nat), TSh.at (Sh.ptr (3 : Nat) (0 : Nat))), ((9 : Nat), TSh.at (Sh.ptr (5 : Nat) (0 : Nat))), ((10 : Nat), TSh.at (Sh.sl (7 : Nat))), ((11 : Nat), TSh.at (Sh.int .i64)), ((12 : Nat), TSh.at (Sh.int .i64))]
noncomputable def Zy2 : Spec := Spec.mk [OSh.ro, OSh.box (26 : Nat) [Sh.int .i64, Sh.int .i64, Sh.snap (0 : Nat) (Ty.pair (Ty.int .i64) (Ty.int .i64))], OSh.box (75 : Nat) [Sh.int .i64, Sh.int .i64, Sh.int .i64], OSh.box (26 : Nat) [Sh.int .i64, Sh.int .i64, Sh.sl (4 : Nat)], OSh.row true (71 : Nat) (Ty.pair (Ty.int .i64) (Ty.int .i64)), OSh.box (26 : Nat) [Sh.int .i64, Sh.int .i64, Sh.sl (6 : Nat)], OSh.row true (71 : Nat) (Ty.pair (Ty.int .i64) (Ty.int .i64)), OSh.row true (36 : Nat) (Ty.slice (3 : Nat) (Ty.int .i64))] [((2 : Nat), TSh.at (Sh.int .i64)), ((3 : Nat), TSh.at (Sh.ptr (1 : Nat) (0 : Nat))), ((6 : Nat), TSh.at (Sh.ptr (2 : Nat) (0 : Nat))), ((7 : Nat), TSh.at (Sh.ptr (3 : Nat) (0 : Nat))), ((9 : Nat), TSh.at (Sh.ptr (5 : Nat) (0 : Nat))), ((10 : Nat), TSh.at (Sh.sl (7 : Nat)))]
noncomputable def Z7X : LoopDef (Tup Z6i × OutD) := .rets Zge Zy2 (Int × Int × List (Int × Int) × Int × Int × Int × Int × Int × List (Int × Int) × Int × Int × List (Int × Int) × List (List Int) × Int) ((Int × Int × Int) × (Int × Int × List (Int × Int)) × List (List Int)) (fun k x => Z5u k x.1.2.1.1 x.1.2.1.2.1 x.1.2.1.2.2.1 x.1.2.2.1.1 x.1.2.2.1.2.1 x.1.2.2.1.2.2.1 x.1.2.2.2.1.1 x.1.2.2.2.1.2.1 x.1.2.2.2.2.1 x.1.2.2.2.2.2.1.1 x.1.2.2.2.2.2.1.2.1 x.1.2.2.2.2.2.2.1 x.1.2.2.2.2.2.2.2.1 x.2.1 x.2.2.1 x.2.2.2.2.2.2.2.2.1 x.2.2.2.2.2.2.2.2.2.1) (fun z => (((), (z.1, z.2.1, z.2.2.1, ()), (z.2.2.2.1, z.2.2.2.2.1, z.2.2.2.2.2.1, ()), (z.2.2.2.2.2.2.1, z.2.2.2.2.2.2.2.1, (), ()), z.2.2.2.2.2.2.2.2.1, (z.2.2.2.2.2.2.2.2.2.1, z.2.2.2.2.2.2.2.2.2.2.1, (), ()), z.2.2.2.2.2.2.2.2.2.2.2.1, z.2.2.2.2.2.2.2.2.2.2.2.2.1, ()), (z.2.2.2.2.2.2.2.2.2.2.2.2.2, (), (), (), (), (), ()))) (fun y => (y.1.2.1.1, y.1.2.1.2.1, y.1.2.1.2.2.1, y.1.2.2.1.1, y.1.2.2.1.2.1, y.1.2.2.1.2.2.1, y.1.2.2.2.1.1, y.1.2.2.2.1.2.1, y.1.2.2.2.2.1, y.1.2.2.2.2.2.1.1, y.1.2.2.2.2.2.1.2.1, y.1.2.2.2.2.2.2.1, y.1.2.2.2.2.2.2.2.1, y.2.1)) (fun _ => rfl) ZjU ZiZ Zl7
noncomputable def Z6Z : Nat → Int → Int → List (Int × Int) → Int → Int → Int → Int → Int → List (Int × Int) → Int → Int → List (Int × Int) → List (List Int) → Int → Option (Int × Int × Int × Int × Int × List (Int × Int) × List (List Int)) := fun k b1_0 b1_1 b1_2 b2_0 b2_1 b2_2 b3_0 b3_1 o4 b5_0 b5_1 o6 o7 v2 =>
    some ((1 : Int), b1_0, v2, b5_0, b5_1, o6, o7)
noncomputable def Zaz : Nat → Int → Int → List (Int × Int) → Int → Int → Int → Int → Int → List (Int × Int) → Int → Int → List (Int × Int) → List (List Int) → Int → Option (List (Int × Int × Int × Int × Int × List (Int × Int) × List (List Int))) := fun k b1_0 b1_1 b1_2 b2_0 b2_1 b2_2 b3_0 b3_1 o4 b5_0 b5_1 o6 o7 v2 =>
    joinL (some [((1 : Int), b1_0, v2, b5_0, b5_1, o6, o7)]) (some [((1 : Int), b1_0, v2, b5_0, b5_1, o6, o7)])
noncomputable def ZiU : Spec := Spec.mk [OSh.ro, OSh.box (26 : Nat) [Sh.int .i64, Sh.int .i64, Sh.snap (0 : Nat) (Ty.pair (Ty.int .i64) (Ty.int .i64))], OSh.box (75 : Nat) [Sh.int .i64, Sh.int .i64, Sh.int .i64], OSh.box (26 : Nat) [Sh.int .i64, Sh.int .i64, Sh.sl (4 : Nat)], OSh.row true (71 : Nat) (Ty.pair (Ty.int .i64) (Ty.int .i64)), OSh.box (26 : Nat) [Sh.int .i64, Sh.int .i64, Sh.sl (6 : Nat)], OSh.row true (71 : Nat) (Ty.pair (Ty.int .i64) (Ty.int .i64)), OSh.row true (36 : Nat) (Ty.slice (3 : Nat) (Ty.int .i64))] [((2 : Nat), TSh.at (Sh.int .i64)), ((3 : Nat), TSh.at (Sh.ptr (1 : Nat) (0 : Nat))), ((6 : Nat), TSh.at (Sh.ptr (2 : Nat) (0 : Nat))), ((7 : Nat), TSh.at (Sh.ptr (3 : Nat) (0 : Nat))), ((9 : Nat), TSh.at (Sh.ptr (5 : Nat) (0 : Nat))), ((10 : Nat), TSh.at (Sh.sl (7 : Nat)))]
noncomputable def ZuZ : Spec := Spec.mk [OSh.ro, OSh.box (75 : Nat) [Sh.int .i64, Sh.int .i64, Sh.int .i64], OSh.box (26 : Nat) [Sh.int .i64, Sh.int .i64, Sh.sl (3 : Nat)], OSh.row true (71 : Nat) (Ty.pair (Ty.int .i64) (Ty.int .i64)), OSh.row true (36 : Nat) (Ty.slice (3 : Nat) (Ty.int .i64))] [((6 : Nat), TSh.at (Sh.ptr (1 : Nat) (0 : Nat))), ((7 : Nat), TSh.at (Sh.ptr (2 : Nat) (0 : Nat))), ((8 : Nat), TSh.at (Sh.sl (4 : Nat)))]
noncomputable def Z5T : LoopDef (Tup Z6i × OutD) := .plain ZiU ZuZ (Int × Int × Int × Int × Int × List (Int × Int) × List (List Int)) (fun k x => Z6Z k x.1.2.1.1 x.1.2.1.2.1 x.1.2.1.2.2.1 x.1.2.2.1.1 x.1.2.2.1.2.1 x.1.2.2.1.2.2.1 x.1.2.2.2.1.1 x.1.2.2.2.1.2.1 x.1.2.2.2.2.1 x.1.2.2.2.2.2.1.1 x.1.2.2.2.2.2.1.2.1 x.1.2.2.2.2.2.2.1 x.1.2.2.2.2.2.2.2.1 x.2.1) (fun z => (((), (z.1, z.2.1, z.2.2.1, ()), (z.2.2.2.1, z.2.2.2.2.1, (), ()), z.2.2.2.2.2.1, z.2.2.2.2.2.2, ()), ((), (), (), ()))) (fun y => (y.1.2.1.1, y.1.2.1.2.1, y.1.2.1.2.2.1, y.1.2.2.1.1, y.1.2.2.1.2.1, y.1.2.2.2.1, y.1.2.2.2.2.1)) (fun _ => rfl)
theorem Zwp (k : Nat) (b1_0 : Int) (b1_1 : Int) (b1_2 : List (Int × Int)) (b2_0 : Int) (b2_1 : Int) (b2_2 : Int) (b3_0 : Int) (b3_1 : Int) (o4 : List (Int × Int)) (b5_0 : Int) (b5_1 : Int) (o6 : List (Int × Int)) (o7 : List (List Int)) (v2 : Int) : Zaz k b1_0 b1_1 b1_2 b2_0 b2_1 b2_2 b3_0 b3_1 o4 b5_0 b5_1 o6 o7 v2 = repl 2 (Z6Z k b1_0 b1_1 b1_2 b2_0 b2_1 b2_2 b3_0 b3_1 o4 b5_0 b5_1 o6 o7 v2) := by
 first
 | (simp only [Zaz, Z6Z, Zh, Zo, Zg, Zi, Ze, Z3, if_true]; done)
 | (simp only [Zaz, Z6Z, Zh, Zo, Zg, Zi, Ze, Z3, if_true]; simp only [Z1E, Z1D, Z3k, Z3]; simp only [Z4r]; exact Z2g ⟨fun h => by simp only [h, and_self], fun h => by simp only [h, and_self]⟩)
noncomputable def Z1R : Nat → Int × Int × List (Int × Int) → List Int → Int → Option ((Int × Int × Int) × (Int × Int × List (Int × Int)) × List (List Int))
 | 0, _, _, _ => none
 | k + 1, p0, p1, p2 =>
  Option.bind (Z84 k (Prod.fst p0, Prod.fst p0.2, Prod.snd p0.2)) fun z0 => Option.bind (Z5u k p0.1 p0.2.1 p0.2.2 (0 : Int) (0 : Int) (0 : Int) (0 : Int) (0 : Int) [] z0.1 z0.2.1 z0.2.2 [] p1 p2 (0 : Int) (0 : Int)) fun z7 => LR.on z7 (fun y7 => Option.bind (Z6Z k y7.1 y7.2.1 y7.2.2.1 y7.2.2.2.1 y7.2.2.2.2.1 y7.2.2.2.2.2.1 y7.2.2.2.2.2.2.1 y7.2.2.2.2.2.2.2.1 y7.2.2.2.2.2.2.2.2.1 y7.2.2.2.2.2.2.2.2.2.1 y7.2.2.2.2.2.2.2.2.2.2.1 y7.2.2.2.2.2.2.2.2.2.2.2.1 y7.2.2.2.2.2.2.2.2.2.2.2.2.1 y7.2.2.2.2.2.2.2.2.2.2.2.2.2) fun z8 => some ((Prod.fst z8, Prod.fst z8.2, Prod.fst z8.2.2), (Prod.fst z8.2.2.2, Prod.fst z8.2.2.2.2, Prod.fst z8.2.2.2.2.2), Prod.snd z8.2.2.2.2.2)) fun r7 => some r7
noncomputable def Z7N : FnDef := .of ZuD Z6i ((Int × Int × Int) × (Int × Int × List (Int × Int)) × List (List Int)) (fun k x => Z1R k x.1 x.2.1 x.2.2.1) ZjU ZiZ Zl7
noncomputable def Z9f : Code := Try.f93.body.getD .skip
noncomputable def Zn : Ctx (Tup Z6i × OutD) := { T := T, G := [(65, Z3l.E), (106, Z7M.E), (107, Z5v.E), (108, Z5l.E), (94, Z47.E)], mvs := [], no := 0, n := 75, res := resOf T ZuD Z6i Try.f93.results.toList, loops := [(0, Z7X.E)], regs := [(10, Z6e.E), (16, Z65.E), (17, Z5T.E)], conds := [], cuts := [] }
theorem Zd3 (k : Nat) : EnvOK Try.prog k Zn.G := (EnvOK.cons (Zfh k) (EnvOK.cons (ZBv k) (EnvOK.cons (ZAb k) (EnvOK.cons (ZzF k) (EnvOK.cons (Zgo k) (EnvOK.nil mixed))))))
noncomputable def Ze2 : Array Oper := (findReg 10 Z9f).getD #[]
theorem Zvb (k : Nat) (x : Zj3.D) : execD Zn.T Zn.G Zn.mvs k Ze2 (Z6e.inp.st Zn.n x) (outK Zn Z6e) = Zaw k x.1.2.1.1 x.1.2.1.2.1 x.1.2.1.2.2.1 x.1.2.2.1.1 x.1.2.2.1.2.1 x.1.2.2.2.1 x.1.2.2.2.2.1.1 x.1.2.2.2.2.1.2.1 x.1.2.2.2.2.2.1 x.1.2.2.2.2.2.2.1 x.2.1 x.2.2.2.2.2.2.1 := by kernel_rfl
theorem Zu1 (k : Nat) : EOK Try.prog Zn k Z6e.E (.region 10 Ze2 true) := Z6K (D := Z6e) (m := 2) T_ok (Zd3 k) (fun x => (Zvb k x).trans (Zwh k x.1.2.1.1 x.1.2.1.2.1 x.1.2.1.2.2.1 x.1.2.2.1.1 x.1.2.2.1.2.1 x.1.2.2.2.1 x.1.2.2.2.2.1.1 x.1.2.2.2.2.1.2.1 x.1.2.2.2.2.2.1 x.1.2.2.2.2.2.2.1 x.2.1 x.2.2.2.2.2.2.1))
noncomputable def Ze4 : Array Oper := (findReg 16 Z9f).getD #[]
theorem Zwq (k : Nat) (x : Zjv.D) : execD Zn.T Zn.G Zn.mvs k Ze4 (Z65.inp.st Zn.n x) (outK Zn Z65) = ZaG k x.1.2.1.1 x.1.2.1.2.1 x.1.2.1.2.2.1 x.1.2.2.1.1 x.1.2.2.1.2.1 x.1.2.2.2.1 x.1.2.2.2.2.1.1 x.1.2.2.2.2.1.2.1 x.1.2.2.2.2.2.1 x.1.2.2.2.2.2.2.1 x.2.1 x.2.2.2.2.2.2.1 := by kernel_rfl
theorem Zu7 (k : Nat) : EOK Try.prog Zn k Z65.E (.region 16 Ze4 true) := Z6K (D := Z65) (m := 2) T_ok (Zd3 k) (fun x => (Zwq k x).trans (ZuV k x.1.2.1.1 x.1.2.1.2.1 x.1.2.1.2.2.1 x.1.2.2.1.1 x.1.2.2.1.2.1 x.1.2.2.2.1 x.1.2.2.2.2.1.1 x.1.2.2.2.2.1.2.1 x.1.2.2.2.2.2.1 x.1.2.2.2.2.2.2.1 x.2.1 x.2.2.2.2.2.2.1))
noncomputable def Ze6 : Array Oper := (findReg 17 Z9f).getD #[]
theorem Zwn (k : Nat) (x : ZiU.D) : execD Zn.T Zn.G Zn.mvs k Ze6 (Z5T.inp.st Zn.n x) (outK Zn Z5T) = Zaz k x.1.2.1.1 x.1.2.1.2.1 x.1.2.1.2.2.1 x.1.2.2.1.1 x.1.2.2.1.2.1 x.1.2.2.1.2.2.1 x.1.2.2.2.1.1 x.1.2.2.2.1.2.1 x.1.2.2.2.2.1 x.1.2.2.2.2.2.1.1 x.1.2.2.2.2.2.1.2.1 x.1.2.2.2.2.2.2.1 x.1.2.2.2.2.2.2.2.1 x.2.1 := by kernel_rfl
theorem Ztl (k : Nat) : EOK Try.prog Zn k Z5T.E (.region 17 Ze6 true) := Z6K (D := Z5T) (m := 2) T_ok (Zd3 k) (fun x => (Zwn k x).trans (Zwp k x.1.2.1.1 x.1.2.1.2.1 x.1.2.1.2.2.1 x.1.2.2.1.1 x.1.2.2.1.2.1 x.1.2.2.1.2.2.1 x.1.2.2.2.1.1 x.1.2.2.2.1.2.1 x.1.2.2.2.2.1 x.1.2.2.2.2.2.1.1 x.1.2.2.2.2.2.1.2.1 x.1.2.2.2.2.2.2.1 x.1.2.2.2.2.2.2.2.1 x.2.1))
noncomputable def Zcm : Code := (findLoop 0 Z9f).getD .skip
theorem ZxZ (k : Nat) (x : Zge.D) : Z7X.lp (k + 1) x = loopK Zn Z7X 0 Zcm k x := by kernel_rfl
theorem ZxX (k : Nat) : LOK Try.prog Zn k Zcm := LOK.by [(Z6e.E, .region 10 Ze2 true), (Z65.E, .region 16 Ze4 true)] (by kernel_rfl) (AllOK.cons (Zu1 k) (AllOK.cons (Zu7 k) AllOK.nil))
theorem ZxY (x : Zge.D) : Z7X.lp 0 x = none := by kernel_rfl
theorem Zxn (k : Nat) : EOK Try.prog Zn k Z7X.E (.block 0 (.loop Zcm)) := Z8 T_ok Zd3 ZxY ZxZ ZxX k
theorem ZBc (k : Nat) (x : Tup Z7N.ps) : Z7N.f (k + 1) x = fnK Z7N Zn Z9f k x := by kernel_rfl
theorem ZB5 (x : Tup Z7N.ps) : Z7N.f 0 x = none := by kernel_rfl
theorem ZBr (k : Nat) : LOK Try.prog Zn k Z9f := LOK.by [(Z7X.E, .block 0 (.loop Zcm)), (Z5T.E, .region 17 Ze6 true)] (by kernel_rfl) (AllOK.cons (Zxn k) (AllOK.cons (Ztl k) AllOK.nil))
theorem ZBK (k : Nat) : SoundAt Try.prog k 93 Z7N.E := @Z4 Try.prog Z7N Zn 93 Try.f93 Z9f (by kernel_rfl) (by kernel_rfl) (by kernel_rfl) Try.func93 (by kernel_rfl) (by kernel_rfl) (by kernel_rfl) T_ok Zd3 ZBr ZB5 ZBc k
end
end Go.Proofs.Ytglkedenkcpcbaa.Vs
