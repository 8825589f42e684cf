/- The proof, part 8. -/
import Derived.Test.Ytkbikniinjalbaaqltm6
set_option maxRecDepth 100000
set_option maxHeartbeats 2000000
set_option linter.unusedVariables false
set_option linter.unusedSimpArgs false
namespace Go.Proofs.Ytkbikniinjalbaa.Vs
open Go.RowKit
section
noncomputable section
noncomputable def ZbK : List PK := [PK.mk .bool false none false none]
noncomputable def Zrf : List PK := [PK.mk (.pair I6 (.pair I6 (.slice 73 P6))) true none false none, PK.mk (.slice 28 (.slice 3 I6)) false none false none]
noncomputable def Zoo (r : Bool) : Tup ZbK × OutD := ((r, ()), none)
noncomputable def Zom : Tup ZbK × OutD → Option (Bool)
 | (a, none) => some (a.1)
 | _ => none
theorem Zve : ∀ b r, Zom b = some r → Zoo r = b := by
 rintro ⟨a, _ | _⟩ r h <;> cases h; rfl
noncomputable def Z5q : Nat → Int × Int × List (Int × Int) → List (List Int) → Option Bool
 | 0, _, _ => none
 | k + 1, p0, p1 =>
  Option.bind (Zfj k (p0.1, p0.2.1, p0.2.2)) fun z0 => if z0 = true then Option.bind (Zeg k (p0.1, p0.2.1, p0.2.2) p1) fun z1 => some z1 else some false
noncomputable def Z1P : FnDef := .of Zrf ZbK (Bool) (fun k x => Z5q k x.1 x.2.1) Zoo Zom Zve
noncomputable def Zi4 : Code := Try.f32.body.getD .skip
noncomputable def Zel : Ctx (Tup ZbK × OutD) := { T := T, G := [(56, Z6y.E), (57, Z5e.E)], mvs := [], no := 0, n := 12, res := resOf T Zrf ZbK Try.f32.results.toList, loops := [], regs := [], conds := [], cuts := [] }
theorem ZDw (k : Nat) : EnvOK Try.prog k Zel.G := (EnvOK.cons (ZE4 k) (EnvOK.cons (ZDl k) (EnvOK.nil mixed)))
theorem ZDp (k : Nat) (x : Tup Z1P.ps) : Z1P.f (k + 1) x = fnK Z1P Zel Zi4 k x := by kernel_rfl
theorem ZCC (x : Tup Z1P.ps) : Z1P.f 0 x = none := by kernel_rfl
theorem ZDv (k : Nat) : LOK Try.prog Zel k Zi4 := LOK.by [] (by kernel_rfl) AllOK.nil
theorem ZbJ (k : Nat) : SoundAt Try.prog k 32 Z1P.E := @Z5 Try.prog Z1P Zel 32 Try.f32 Zi4 (by kernel_rfl) (by kernel_rfl) (by kernel_rfl) Try.func32 (by kernel_rfl) (by kernel_rfl) (by kernel_rfl) T_ok ZDw ZDv ZCC ZDp k
noncomputable def Z8a : List PK := [PK.mk .bool false none false none]
noncomputable def ZnR : List PK := [PK.mk (.pair I6 (.pair I6 (.slice 73 P6))) true none false none, PK.mk (.slice 28 (.slice 3 I6)) false none false none]
noncomputable def ZfV (r : Bool) : Tup Z8a × OutD := ((r, ()), none)
noncomputable def Zg1 : Tup Z8a × OutD → Option (Bool)
 | (a, none) => some (a.1)
 | _ => none
theorem ZhO : ∀ b r, Zg1 b = some r → ZfV r = b := by
 rintro ⟨a, _ | _⟩ r h <;> cases h; rfl
noncomputable def Z6a : Nat → Int → Int → List (Int × Int) → List (List Int) → Int → Int → Option (LR Unit Bool)
 | 0, _, _, _, _, _, _ => none
 | k + 1, b1_0, b1_1, b1_2, v21, v22, v23 =>
  if decide (v23 < v22) = true then if (0 : Int) ≤ v23 then if v23 < (↑(List.length v21) : Int) then if decide ((↑(List.length (List.getD v21 (Int.toNat v23) [])) : Int) > 8) = true then some (LR.ret false) else Option.bind (Z9X k (b1_0, b1_1, b1_2) (List.getD v21 (Int.toNat v23) [])) fun z1 => if (!z1) = true then some (LR.ret false) else Z6a k b1_0 b1_1 b1_2 v21 v22 (wrap64 (v23 + 1)) else none else none else some (LR.go ())
noncomputable def ZdJ : Spec := Spec.mk [.ro, O1] [(2, .at (.ptr 1 0)), (21, .at (.snap 0 (.slice 3 I6))), (22, .at (.int .i64)), (23, .at (.int .i64))]
noncomputable def Zwt : Spec := Spec.mk [.ro] []
noncomputable def Z5d : LoopDef (Tup Z8a × OutD) := .rets ZdJ Zwt (Unit) (Bool) (fun k x => Z6a k x.1.2.1.1 x.1.2.1.2.1 x.1.2.1.2.2.1 x.2.2.1 x.2.2.2.1 x.2.2.2.2.1) (fun z => (((), ()), (()))) (fun y => ()) (fun _ => rfl) ZfV Zg1 ZhO
noncomputable def Z4l : Nat → Int × Int × List (Int × Int) → List (List Int) → Option Bool
 | 0, _, _ => none
 | k + 1, p0, p1 =>
  Option.bind (ZbR k (p0.1, p0.2.1, p0.2.2)) fun z0 => if (!z0) = true then some false else if decide ((↑(List.length p0.2.2) : Int) > 30) = true then some false else if decide ((↑(List.length p1) : Int) > 10) = true then some false else Option.bind (Z6a k p0.1 p0.2.1 p0.2.2 p1 (↑(List.length p1) : Int) (0 : Int)) fun z2 => LR.on z2 (fun y2 => some true) fun r2 => some r2
noncomputable def Z1n : FnDef := .of ZnR Z8a (Bool) (fun k x => Z4l k x.1 x.2.1) ZfV Zg1 ZhO
noncomputable def Zdt : Code := Try.f41.body.getD .skip
noncomputable def Z5O : Ctx (Tup Z8a × OutD) := { T := T, G := [(61, Z3X.E), (62, Z2b.E)], mvs := [], no := 0, n := 37, res := resOf T ZnR Z8a Try.f41.results.toList, loops := [(0, Z5d.E)], regs := [], conds := [], cuts := [] }
theorem ZnK (k : Nat) : EnvOK Try.prog k Z5O.G := (EnvOK.cons (ZqS k) (EnvOK.cons (Zv1 k) (EnvOK.nil mixed)))
noncomputable def Zay : Code := (findLoop 0 Zdt).getD .skip
theorem ZwI (k : Nat) (x : ZdJ.D) : Z5d.lp (k + 1) x = loopK Z5O Z5d 0 Zay k x := by kernel_rfl
theorem ZvR (k : Nat) : LOK Try.prog Z5O k Zay := LOK.by [] (by kernel_rfl) AllOK.nil
theorem Zx5 (x : ZdJ.D) : Z5d.lp 0 x = none := by kernel_rfl
theorem Zur (k : Nat) : EOK Try.prog Z5O k Z5d.E (.block 0 (.loop Zay)) := Z4 T_ok ZnK Zx5 ZwI ZvR k
theorem ZBe (k : Nat) (x : Tup Z1n.ps) : Z1n.f (k + 1) x = fnK Z1n Z5O Zdt k x := by kernel_rfl
theorem ZBT (x : Tup Z1n.ps) : Z1n.f 0 x = none := by kernel_rfl
theorem ZBW (k : Nat) : LOK Try.prog Z5O k Zdt := LOK.by [(Z5d.E, .block 0 (.loop Zay))] (by kernel_rfl) (AllOK.cons (Zur k) AllOK.nil)
theorem ZaH (k : Nat) : SoundAt Try.prog k 41 Z1n.E := @Z5 Try.prog Z1n Z5O 41 Try.f41 Zdt (by kernel_rfl) (by kernel_rfl) (by kernel_rfl) Try.func41 (by kernel_rfl) (by kernel_rfl) (by kernel_rfl) T_ok ZnK ZBW ZBT ZBe k
noncomputable def Z7R : List PK := [PK.mk (.slice 71 (.slice 94 T6)) false none false none]
noncomputable def ZnX : List PK := [PK.mk (.pair I6 (.pair I6 (.slice 73 P6))) true none false none, PK.mk (.slice 81 T6) false none false none, PK.mk (.slice 28 (.slice 3 I6)) false none false none]
noncomputable def ZlO (r : List (List (Int × Int × Int))) : Tup Z7R × OutD := ((r, ()), none)
noncomputable def Zlb : Tup Z7R × OutD → Option (List (List (Int × Int × Int)))
 | (a, none) => some (a.1)
 | _ => none
theorem ZuJ : ∀ b r, Zlb b = some r → ZlO r = b := by
 rintro ⟨a, _ | _⟩ r h <;> cases h; rfl
noncomputable def Z6c : Nat → Int → Int → List (Int × Int) → List (List (Int × Int × Int)) → List (Int × Int × Int) → List (List Int) → Int → Int → Option (List (List (Int × Int × Int)))
 | 0, _, _, _, _, _, _, _, _ => none
 | k + 1, b1_0, b1_1, b1_2, o2, v1, v13, v14, v15 =>
  if decide (v15 < v14) = true then if (0 : Int) ≤ v15 then if v15 < (↑(List.length v13) : Int) then Option.bind (Zat k (b1_0, b1_1, b1_2) v1 (List.getD v13 (Int.toNat v15) [])) fun z0 => if List.length o2 + List.length [z0.1] ≤ (140737488355328 / 24 : Nat) then Z6c k b1_0 b1_1 b1_2 (o2 ++ [z0.1]) v1 v13 v14 (wrap64 (v15 + 1)) else none else none else none else some o2
noncomputable def ZdM : Spec := Spec.mk [.ro, O1, Ok] [(1, .at (.snap 0 T6)), (3, .at (.ptr 1 0)), (7, .at (.sl 2)), (13, .at (.snap 0 (.slice 3 I6))), (14, .at (.int .i64)), (15, .at (.int .i64))]
noncomputable def ZvO : Spec := Spec.mk [.ro, Ok] [(7, .at (.sl 1))]
noncomputable def Z5f : LoopDef (Tup Z7R × OutD) := .plain ZdM ZvO (List (List (Int × Int × Int))) (fun k x => Z6c k x.1.2.1.1 x.1.2.1.2.1 x.1.2.1.2.2.1 x.1.2.2.1 x.2.1 x.2.2.2.2.1 x.2.2.2.2.2.1 x.2.2.2.2.2.2.1) (fun z => (((), z, ()), ((), ()))) (fun y => (y.1.2.1)) (fun _ => rfl)
noncomputable def ZaP : Nat → Int × Int × List (Int × Int) → List (Int × Int × Int) → List (List Int) → Option (List (List (Int × Int × Int)))
 | 0, _, _, _ => none
 | k + 1, p0, p1, p2 =>
  Option.bind (Z6c k p0.1 p0.2.1 p0.2.2 [] p1 p2 (↑(List.length p2) : Int) (0 : Int)) fun z1 => some z1
noncomputable def Z4k : FnDef := .of ZnX Z7R (List (List (Int × Int × Int))) (fun k x => ZaP k x.1 x.2.1 x.2.2.1) ZlO Zlb ZuJ
noncomputable def Zdp : Code := Try.f63.body.getD .skip
noncomputable def Z5E : Ctx (Tup Z7R × OutD) := { T := T, G := [(76, Z2C.E)], mvs := [], no := 0, n := 32, res := resOf T ZnX Z7R Try.f63.results.toList, loops := [(0, Z5f.E)], regs := [], conds := [], cuts := [] }
theorem Zo9 (k : Nat) : EnvOK Try.prog k Z5E.G := (EnvOK.cons (ZvI k) (EnvOK.nil mixed))
noncomputable def ZaK : Code := (findLoop 0 Zdp).getD .skip
theorem Zwa (k : Nat) (x : ZdM.D) : Z5f.lp (k + 1) x = loopK Z5E Z5f 0 ZaK k x := by kernel_rfl
theorem ZwO (k : Nat) : LOK Try.prog Z5E k ZaK := LOK.by [] (by kernel_rfl) AllOK.nil
theorem Zx1 (x : ZdM.D) : Z5f.lp 0 x = none := by kernel_rfl
theorem ZuV (k : Nat) : EOK Try.prog Z5E k Z5f.E (.block 0 (.loop ZaK)) := Z4 T_ok Zo9 Zx1 Zwa ZwO k
theorem ZCk (k : Nat) (x : Tup Z4k.ps) : Z4k.f (k + 1) x = fnK Z4k Z5E Zdp k x := by kernel_rfl
theorem ZCi (x : Tup Z4k.ps) : Z4k.f 0 x = none := by kernel_rfl
theorem ZBQ (k : Nat) : LOK Try.prog Z5E k Zdp := LOK.by [(Z5f.E, .block 0 (.loop ZaK))] (by kernel_rfl) (AllOK.cons (ZuV k) AllOK.nil)
theorem ZB1 (k : Nat) : SoundAt Try.prog k 63 Z4k.E := @Z5 Try.prog Z4k Z5E 63 Try.f63 Zdp (by kernel_rfl) (by kernel_rfl) (by kernel_rfl) Try.func63 (by kernel_rfl) (by kernel_rfl) (by kernel_rfl) T_ok Zo9 ZBQ ZCi ZCk k
noncomputable def Zao : List PK := [PK.mk (.slice 71 (.slice 94 T6)) false none false none]
noncomputable def ZtE : List PK := [PK.mk (.pair I6 (.pair I6 (.slice 73 P6))) true none false none, PK.mk (.slice 81 T6) false none false none, PK.mk (.slice 28 (.slice 3 I6)) false none false none]
noncomputable def ZpL (r : List (List (Int × Int × Int))) : Tup Zao × OutD := ((r, ()), none)
noncomputable def Zq3 : Tup Zao × OutD → Option (List (List (Int × Int × Int)))
 | (a, none) => some (a.1)
 | _ => none
theorem Zy8 : ∀ b r, Zq3 b = some r → ZpL r = b := by
 rintro ⟨a, _ | _⟩ r h <;> cases h; rfl
noncomputable def Z81 : Nat → Int → Int → List (Int × Int) → List (List (Int × Int × Int)) → List (Int × Int × Int) → List (List Int) → Int → Int → Option (List (List (Int × Int × Int)))
 | 0, _, _, _, _, _, _, _, _ => none
 | k + 1, b1_0, b1_1, b1_2, o2, v1, v12, v13, v14 =>
  if decide (v14 < v13) = true then if (0 : Int) ≤ v14 then if v14 < (↑(List.length v12) : Int) then Option.bind (ZgG k (b1_0, b1_1, b1_2) v1 (List.getD v12 (Int.toNat v14) [])) fun z0 => if List.length o2 + List.length [z0.1] ≤ (140737488355328 / 24 : Nat) then Z81 k b1_0 b1_1 b1_2 (o2 ++ [z0.1]) v1 v12 v13 (wrap64 (v14 + 1)) else none else none else none else some o2
noncomputable def ZfT : Spec := Spec.mk [.ro, O1, Ok] [(1, .at (.snap 0 T6)), (3, .at (.ptr 1 0)), (7, .at (.sl 2)), (12, .at (.snap 0 (.slice 3 I6))), (13, .at (.int .i64)), (14, .at (.int .i64))]
noncomputable def ZAh : Spec := Spec.mk [.ro, Ok] [(7, .at (.sl 1))]
noncomputable def Z7a : LoopDef (Tup Zao × OutD) := .plain ZfT ZAh (List (List (Int × Int × Int))) (fun k x => Z81 k x.1.2.1.1 x.1.2.1.2.1 x.1.2.1.2.2.1 x.1.2.2.1 x.2.1 x.2.2.2.2.1 x.2.2.2.2.2.1 x.2.2.2.2.2.2.1) (fun z => (((), z, ()), ((), ()))) (fun y => (y.1.2.1)) (fun _ => rfl)
noncomputable def ZcK : Nat → Int × Int × List (Int × Int) → List (Int × Int × Int) → List (List Int) → Option (List (List (Int × Int × Int)))
 | 0, _, _, _ => none
 | k + 1, p0, p1, p2 =>
  Option.bind (Z81 k p0.1 p0.2.1 p0.2.2 [] p1 p2 (↑(List.length p2) : Int) (0 : Int)) fun z1 => some z1
noncomputable def Z6o : FnDef := .of ZtE Zao (List (List (Int × Int × Int))) (fun k x => ZcK k x.1 x.2.1 x.2.2.1) ZpL Zq3 Zy8
noncomputable def Zfy : Code := Try.f73.body.getD .skip
noncomputable def Z8p : Ctx (Tup Zao × OutD) := { T := T, G := [(87, Z7M.E)], mvs := [], no := 0, n := 31, res := resOf T ZtE Zao Try.f73.results.toList, loops := [(0, Z7a.E)], regs := [], conds := [], cuts := [] }
theorem Ztl (k : Nat) : EnvOK Try.prog k Z8p.G := (EnvOK.cons (ZFB k) (EnvOK.nil mixed))
noncomputable def Zcz : Code := (findLoop 0 Zfy).getD .skip
theorem Zzj (k : Nat) (x : ZfT.D) : Z7a.lp (k + 1) x = loopK Z8p Z7a 0 Zcz k x := by kernel_rfl
theorem ZAa (k : Nat) : LOK Try.prog Z8p k Zcz := LOK.by [] (by kernel_rfl) AllOK.nil
theorem ZAE (x : ZfT.D) : Z7a.lp 0 x = none := by kernel_rfl
theorem Zxy (k : Nat) : EOK Try.prog Z8p k Z7a.E (.block 0 (.loop Zcz)) := Z4 T_ok Ztl ZAE Zzj ZAa k
theorem ZEL (k : Nat) (x : Tup Z6o.ps) : Z6o.f (k + 1) x = fnK Z6o Z8p Zfy k x := by kernel_rfl
theorem ZEz (x : Tup Z6o.ps) : Z6o.f 0 x = none := by kernel_rfl
theorem ZEW (k : Nat) : LOK Try.prog Z8p k Zfy := LOK.by [(Z7a.E, .block 0 (.loop Zcz))] (by kernel_rfl) (AllOK.cons (Zxy k) AllOK.nil)
theorem ZF3 (k : Nat) : SoundAt Try.prog k 73 Z6o.E := @Z5 Try.prog Z6o Z8p 73 Try.f73 Zfy (by kernel_rfl) (by kernel_rfl) (by kernel_rfl) Try.func73 (by kernel_rfl) (by kernel_rfl) (by kernel_rfl) T_ok Ztl ZEW ZEz ZEL k
noncomputable def Z7I : List PK := [PK.mk (.pair I6 (.pair I6 (.slice 73 P6))) true none false none]
noncomputable def ZiK : List PK := [PK.mk (.pair (.slice 5 (.int .u8)) (.pair I6 (.int .u64))) false none false (some 89)]
noncomputable def ZhM (r : (Int × Int × List (Int × Int)) × Int × Int) : Tup Z7I × OutD := ((r.1, ()), some ⟨Ty.pair (Ty.slice (5 : Nat) (Ty.int .u8)) (Ty.pair (Ty.int .i64) (Ty.int .u64)), [([], r.2)]⟩)
noncomputable def Zd5 : Tup Z7I × OutD → Option ((Int × Int × List (Int × Int)) × Int × Int)
 | (a, some ⟨u, ys⟩) => if h : u = Ty.pair (Ty.slice (5 : Nat) (Ty.int .u8)) (Ty.pair (Ty.int .i64) (Ty.int .u64)) then (match castU h ys with
  | [([], y)] => some (a.1, y)
  | _ => none) else none
 | _ => none
theorem ZoO : ∀ b r, Zd5 b = some r → ZhM r = b := by
 rintro ⟨a, o⟩ r h
 cases o with
 | none => cases h
 | some s =>
  obtain ⟨u, ys⟩ := s
  simp only [Zd5] at h
  split at h
  ·rename_i hu
   subst hu
   match ys, h with
   | [], h => cases (show (none : Option _) = some r from h)
   | [([], y)], h => injection (show some _ = some r from h) with h; subst h; rfl
   | [(_ :: _, y)], h => cases (show (none : Option _) = some r from h)
   | (h1, _) :: _ :: _, h => cases h1 <;> cases (show (none : Option _) = some r from h)
  ·cases h
noncomputable def Z7J : Nat → List Int × Int × Int → Option ((Int × Int × List (Int × Int)) × Int × Int)
 | 0, _ => none
 | k + 1, p0 =>
  Option.bind (ZC k (p0.1, p0.2.1, p0.2.2) (20 : Int)) fun z0 => if z0.1 = true then Option.bind (Zb k (p0.1, z0.2.1, z0.2.2) [(1 : Int), (10 : Int)]) fun z1 => Option.bind (Zb k (p0.1, z1.2.1, z1.2.2) [(1 : Int), (9 : Int)]) fun z2 => Option.bind (Z1g k (p0.1, z2.2.1, z2.2.2) z1.1 z2.1) fun z3 => some ((z3.1.1, z3.1.2.1, z3.1.2.2), z3.2.1, z3.2.2) else Option.bind (Z1 k (p0.1, z0.2.1, z0.2.2) (5 : Int)) fun z4 => Option.bind (Z1 k (p0.1, z4.2.1, z4.2.2) (5 : Int)) fun z5 => Option.bind (Z1g k (p0.1, z5.2.1, z5.2.2) (wrap64 ((1 : Int) + z4.1)) (wrap64 ((1 : Int) + z5.1))) fun z6 => some ((z6.1.1, z6.1.2.1, z6.1.2.2), z6.2.1, z6.2.2)
noncomputable def Z2D : FnDef := .of ZiK Z7I ((Int × Int × List (Int × Int)) × Int × Int) (fun k x => Z7J k x.1) ZhM Zd5 ZoO
noncomputable def ZdT : Code := Try.f98.body.getD .skip
noncomputable def ZaE : Ctx (Tup Z7I × OutD) := { T := T, G := [(83, Z1r.E), (84, ZI.E), (82, Z16.E), (80, Zk.E)], mvs := [], no := 2, n := 21, res := resOf T ZiK Z7I Try.f98.results.toList, loops := [], regs := [], conds := [], cuts := [] }
theorem Zw7 (k : Nat) : EnvOK Try.prog k ZaE.G := (EnvOK.cons (Zcq k) (EnvOK.cons (Z57 k) (EnvOK.cons (Zcg k) (EnvOK.cons (Z2n k) (EnvOK.nil mixed)))))
theorem ZvJ (k : Nat) (x : Tup Z2D.ps) : Z2D.f (k + 1) x = fnK Z2D ZaE ZdT k x := by kernel_rfl
theorem ZwS (x : Tup Z2D.ps) : Z2D.f 0 x = none := by kernel_rfl
theorem Zwu (k : Nat) : LOK Try.prog ZaE k ZdT := LOK.by [] (by kernel_rfl) AllOK.nil
theorem Zwr (k : Nat) : SoundAt Try.prog k 98 Z2D.E := @Z5 Try.prog Z2D ZaE 98 Try.f98 ZdT (by kernel_rfl) (by kernel_rfl) (by kernel_rfl) Try.func98 (by kernel_rfl) (by kernel_rfl) (by kernel_rfl) T_ok Zw7 Zwu ZwS ZvJ k
end
end
section
noncomputable section
noncomputable def Z8d : List PK := [PK.mk (.slice 69 (.slice 71 (.slice 94 T6))) false none false none]
noncomputable def ZnI : List PK := [PK.mk (.pair I6 (.pair I6 (.slice 73 P6))) true none false none, PK.mk (.slice 28 (.slice 3 I6)) false none false none]
noncomputable def ZlF (r : List (List (List (Int × Int × Int)))) : Tup Z8d × OutD := ((r, ()), none)
noncomputable def ZlL : Tup Z8d × OutD → Option (List (List (List (Int × Int × Int))))
 | (a, none) => some (a.1)
 | _ => none
theorem Zu5 : ∀ b r, ZlL b = some r → ZlF r = b := by
 rintro ⟨a, _ | _⟩ r h <;> cases h; rfl
noncomputable def Z6h : Nat → Int → Int → List (Int × Int) → List (List (List (Int × Int × Int))) → List (Int × Int × Int) → List (List Int) → Int → Int → Option (List (List (List (Int × Int × Int))))
 | 0, _, _, _, _, _, _, _, _ => none
 | k + 1, b1_0, b1_1, b1_2, o2, o3, v1, v14, v15 =>
  if decide (v15 < v14) = true then if (0 : Int) ≤ v15 then if v15 < (↑(List.length o3) : Int) then Option.bind (ZaP k (b1_0, b1_1, b1_2) [(Prod.fst (List.getD o3 (Int.toNat v15) ((0 : Int), (0 : Int), (0 : Int))), Prod.fst (Prod.snd (List.getD o3 (Int.toNat v15) ((0 : Int), (0 : Int), (0 : Int)))), Prod.snd (Prod.snd (List.getD o3 (Int.toNat v15) ((0 : Int), (0 : Int), (0 : Int)))))] v1) fun z2 => if List.length o2 + List.length [z2] ≤ (140737488355328 / 24 : Nat) then Z6h k b1_0 b1_1 b1_2 (o2 ++ [z2]) o3 v1 v14 (wrap64 (v15 + 1)) else none else none else none else some o2
noncomputable def ZdQ : Spec := Spec.mk [.ro, O1, Oa, Of] [(1, .at (.snap 0 (.slice 3 I6))), (2, .at (.ptr 1 0)), (5, .at (.sl 2)), (13, .at (.sl 3)), (14, .at (.int .i64)), (15, .at (.int .i64))]
noncomputable def ZwC : Spec := Spec.mk [.ro, Oa] [(5, .at (.sl 1))]
noncomputable def Z4Z : LoopDef (Tup Z8d × OutD) := .plain ZdQ ZwC (List (List (List (Int × Int × Int)))) (fun k x => Z6h k x.1.2.1.1 x.1.2.1.2.1 x.1.2.1.2.2.1 x.1.2.2.1 x.1.2.2.2.1 x.2.1 x.2.2.2.2.2.1 x.2.2.2.2.2.2.1) (fun z => (((), z, ()), ((), ()))) (fun y => (y.1.2.1)) (fun _ => rfl)
noncomputable def Z4n : Nat → Int × Int × List (Int × Int) → List (List Int) → Option (List (List (List (Int × Int × Int))))
 | 0, _, _ => none
 | k + 1, p0, p1 =>
  Option.bind (ZaP k (p0.1, p0.2.1, p0.2.2) [] p1) fun z0 => Option.bind (Z8k k (p0.1, p0.2.1, p0.2.2)) fun z1 => Option.bind (Z6h k p0.1 p0.2.1 p0.2.2 [z0] z1 p1 (↑(List.length z1) : Int) (0 : Int)) fun z3 => some z3
noncomputable def Z1m : FnDef := .of ZnI Z8d (List (List (List (Int × Int × Int)))) (fun k x => Z4n k x.1 x.2.1) ZlF ZlL Zu5
noncomputable def Zdm : Code := Try.f42.body.getD .skip
noncomputable def Z5N : Ctx (Tup Z8d × OutD) := { T := T, G := [(63, Z4k.E), (64, Z1C.E)], mvs := [], no := 0, n := 29, res := resOf T ZnI Z8d Try.f42.results.toList, loops := [(0, Z4Z.E)], regs := [], conds := [], cuts := [] }
theorem Zof (k : Nat) : EnvOK Try.prog k Z5N.G := (EnvOK.cons (ZB1 k) (EnvOK.cons (ZpN k) (EnvOK.nil mixed)))
noncomputable def ZaG : Code := (findLoop 0 Zdm).getD .skip
theorem ZwX (k : Nat) (x : ZdQ.D) : Z4Z.lp (k + 1) x = loopK Z5N Z4Z 0 ZaG k x := by kernel_rfl
theorem Zwd (k : Nat) : LOK Try.prog Z5N k ZaG := LOK.by [] (by kernel_rfl) AllOK.nil
theorem Zwb (x : ZdQ.D) : Z4Z.lp 0 x = none := by kernel_rfl
theorem Zui (k : Nat) : EOK Try.prog Z5N k Z4Z.E (.block 0 (.loop ZaG)) := Z4 T_ok Zof Zwb ZwX Zwd k
theorem ZCv (k : Nat) (x : Tup Z1m.ps) : Z1m.f (k + 1) x = fnK Z1m Z5N Zdm k x := by kernel_rfl
theorem ZBy (x : Tup Z1m.ps) : Z1m.f 0 x = none := by kernel_rfl
theorem ZB6 (k : Nat) : LOK Try.prog Z5N k Zdm := LOK.by [(Z4Z.E, .block 0 (.loop ZaG))] (by kernel_rfl) (AllOK.cons (Zui k) AllOK.nil)
theorem ZaD (k : Nat) : SoundAt Try.prog k 42 Z1m.E := @Z5 Try.prog Z1m Z5N 42 Try.f42 Zdm (by kernel_rfl) (by kernel_rfl) (by kernel_rfl) Try.func42 (by kernel_rfl) (by kernel_rfl) (by kernel_rfl) T_ok Zof ZB6 ZBy ZCv k
noncomputable def Z95 : List PK := [PK.mk (.slice 69 (.slice 71 (.slice 94 T6))) false none false none]
noncomputable def Zrn : List PK := [PK.mk (.pair I6 (.pair I6 (.slice 73 P6))) true none false none, PK.mk (.slice 28 (.slice 3 I6)) false none false none]
noncomputable def ZnE (r : List (List (List (Int × Int × Int)))) : Tup Z95 × OutD := ((r, ()), none)
noncomputable def Zo2 : Tup Z95 × OutD → Option (List (List (List (Int × Int × Int))))
 | (a, none) => some (a.1)
 | _ => none
theorem ZwG : ∀ b r, Zo2 b = some r → ZnE r = b := by
 rintro ⟨a, _ | _⟩ r h <;> cases h; rfl
noncomputable def Z6O : Nat → Int → Int → List (Int × Int) → List (List (List (Int × Int × Int))) → List (Int × Int × Int) → List (List Int) → Int → Int → Option (List (List (List (Int × Int × Int))))
 | 0, _, _, _, _, _, _, _, _ => none
 | k + 1, b1_0, b1_1, b1_2, o2, o3, v1, v14, v15 =>
  if decide (v15 < v14) = true then if (0 : Int) ≤ v15 then if v15 < (↑(List.length o3) : Int) then Option.bind (ZcK k (b1_0, b1_1, b1_2) [(Prod.fst (List.getD o3 (Int.toNat v15) ((0 : Int), (0 : Int), (0 : Int))), Prod.fst (Prod.snd (List.getD o3 (Int.toNat v15) ((0 : Int), (0 : Int), (0 : Int)))), Prod.snd (Prod.snd (List.getD o3 (Int.toNat v15) ((0 : Int), (0 : Int), (0 : Int)))))] v1) fun z2 => if List.length o2 + List.length [z2] ≤ (140737488355328 / 24 : Nat) then Z6O k b1_0 b1_1 b1_2 (o2 ++ [z2]) o3 v1 v14 (wrap64 (v15 + 1)) else none else none else none else some o2
noncomputable def ZeV : Spec := Spec.mk [.ro, O1, Oa, Of] [(1, .at (.snap 0 (.slice 3 I6))), (2, .at (.ptr 1 0)), (5, .at (.sl 2)), (13, .at (.sl 3)), (14, .at (.int .i64)), (15, .at (.int .i64))]
noncomputable def ZxT : Spec := Spec.mk [.ro, Oa] [(5, .at (.sl 1))]
noncomputable def Z67 : LoopDef (Tup Z95 × OutD) := .plain ZeV ZxT (List (List (List (Int × Int × Int)))) (fun k x => Z6O k x.1.2.1.1 x.1.2.1.2.1 x.1.2.1.2.2.1 x.1.2.2.1 x.1.2.2.2.1 x.2.1 x.2.2.2.2.2.1 x.2.2.2.2.2.2.1) (fun z => (((), z, ()), ((), ()))) (fun y => (y.1.2.1)) (fun _ => rfl)
noncomputable def Zej : Nat → Int × Int × List (Int × Int) → List (List Int) → Option (List (List (List (Int × Int × Int))))
 | 0, _, _ => none
 | k + 1, p0, p1 =>
  Option.bind (ZcK k (p0.1, p0.2.1, p0.2.2) [] p1) fun z0 => Option.bind (Zbu k (p0.1, p0.2.1, p0.2.2)) fun z1 => Option.bind (Z6O k p0.1 p0.2.1 p0.2.2 [z0] z1 p1 (↑(List.length z1) : Int) (0 : Int)) fun z3 => some z3
noncomputable def Z5p : FnDef := .of Zrn Z95 (List (List (List (Int × Int × Int)))) (fun k x => Zej k x.1 x.2.1) ZnE Zo2 ZwG
noncomputable def Zek : Code := Try.f58.body.getD .skip
noncomputable def Z6N : Ctx (Tup Z95 × OutD) := { T := T, G := [(73, Z6o.E), (74, Z3a.E)], mvs := [], no := 0, n := 29, res := resOf T Zrn Z95 Try.f58.results.toList, loops := [(0, Z67.E)], regs := [], conds := [], cuts := [] }
theorem ZqP (k : Nat) : EnvOK Try.prog k Z6N.G := (EnvOK.cons (ZF3 k) (EnvOK.cons (ZxW k) (EnvOK.nil mixed)))
noncomputable def Zbv : Code := (findLoop 0 Zek).getD .skip
theorem ZxQ (k : Nat) (x : ZeV.D) : Z67.lp (k + 1) x = loopK Z6N Z67 0 Zbv k x := by kernel_rfl
theorem ZxP (k : Nat) : LOK Try.prog Z6N k Zbv := LOK.by [] (by kernel_rfl) AllOK.nil
theorem ZxA (x : ZeV.D) : Z67.lp 0 x = none := by kernel_rfl
theorem ZwB (k : Nat) : EOK Try.prog Z6N k Z67.E (.block 0 (.loop Zbv)) := Z4 T_ok ZqP ZxA ZxQ ZxP k
theorem ZCz (k : Nat) (x : Tup Z5p.ps) : Z5p.f (k + 1) x = fnK Z5p Z6N Zek k x := by kernel_rfl
theorem ZCK (x : Tup Z5p.ps) : Z5p.f 0 x = none := by kernel_rfl
theorem ZCN (k : Nat) : LOK Try.prog Z6N k Zek := LOK.by [(Z67.E, .block 0 (.loop Zbv))] (by kernel_rfl) (AllOK.cons (ZwB k) AllOK.nil)
theorem ZCM (k : Nat) : SoundAt Try.prog k 58 Z5p.E := @Z5 Try.prog Z5p Z6N 58 Try.f58 Zek (by kernel_rfl) (by kernel_rfl) (by kernel_rfl) Try.func58 (by kernel_rfl) (by kernel_rfl) (by kernel_rfl) T_ok ZqP ZCN ZCK ZCz k
noncomputable def Z3v : List PK := [PK.mk (.pair I6 (.pair I6 (.slice 73 P6))) true none false none]
noncomputable def Zgo : List PK := [PK.mk (.pair (.slice 5 (.int .u8)) (.pair I6 (.int .u64))) false none false (some 89)]
noncomputable def Zfa (r : (Int × Int × List (Int × Int)) × Int × Int) : Tup Z3v × OutD := ((r.1, ()), some ⟨Ty.pair (Ty.slice (5 : Nat) (Ty.int .u8)) (Ty.pair (Ty.int .i64) (Ty.int .u64)), [([], r.2)]⟩)
noncomputable def ZaV : Tup Z3v × OutD → Option ((Int × Int × List (Int × Int)) × Int × Int)
 | (a, some ⟨u, ys⟩) => if h : u = Ty.pair (Ty.slice (5 : Nat) (Ty.int .u8)) (Ty.pair (Ty.int .i64) (Ty.int .u64)) then (match castU h ys with
  | [([], y)] => some (a.1, y)
  | _ => none) else none
 | _ => none
theorem Zkq : ∀ b r, ZaV b = some r → Zfa r = b := by
 rintro ⟨a, o⟩ r h
 cases o with
 | none => cases h
 | some s =>
  obtain ⟨u, ys⟩ := s
  simp only [ZaV] at h
  split at h
  ·rename_i hu
   subst hu
   match ys, h with
   | [], h => cases (show (none : Option _) = some r from h)
   | [([], y)], h => injection (show some _ = some r from h) with h; subst h; rfl
   | [(_ :: _, y)], h => cases (show (none : Option _) = some r from h)
   | (h1, _) :: _ :: _, h => cases h1 <;> cases (show (none : Option _) = some r from h)
  ·cases h
noncomputable def Z1u : Nat → Int → Int → List Int → Int → Int → List (Int × Int) → Int → Int → List (Int × Int) → Option (Int × Int × List Int × Int × Int × List (Int × Int) × Int × Int × List (Int × Int)) := fun k b1_1 b1_2 o2 b3_0 b3_1 o4 b5_0 b5_1 o6 =>
    Option.bind (Z1 k (o2, b1_1, b1_2) (↑(List.length o6) : Int)) fun z4 => Option.bind (Z1f k (o2, z4.2.1, z4.2.2)) fun z5 => if (0 : Int) ≤ z4.1 then if z4.1 < (↑(List.length o6) : Int) then some (z5.2.1, z5.2.2, o2, b3_0, b3_1, o4, b5_0, b5_1, List.set o6 (Int.toNat z4.1) (z5.1.1, z5.1.2)) else none else none
noncomputable def Z5r : Nat → Int → Int → List Int → Int → Int → List (Int × Int) → Int → Int → List (Int × Int) → Option (List (Int × Int × List Int × Int × Int × List (Int × Int) × Int × Int × List (Int × Int))) := fun k b1_1 b1_2 o2 b3_0 b3_1 o4 b5_0 b5_1 o6 =>
    joinL (Option.bind (Z1 k (o2, b1_1, b1_2) (↑(List.length o6) : Int)) fun z6 => Option.bind (Z1f k (o2, z6.2.1, z6.2.2)) fun z7 => if (0 : Int) ≤ z6.1 then if z6.1 < (↑(List.length o6) : Int) then some [(z7.2.1, z7.2.2, o2, b3_0, b3_1, o4, b5_0, b5_1, List.set o6 (Int.toNat z6.1) (z7.1.1, z7.1.2))] else none else none) (Option.bind (Z1 k (o2, b1_1, b1_2) (↑(List.length o6) : Int)) fun z8 => joinL (Option.bind (Z1f k (o2, z8.2.1, z8.2.2)) fun z9 => if (0 : Int) ≤ z8.1 then if z8.1 < (↑(List.length o6) : Int) then some [(z9.2.1, z9.2.2, o2, b3_0, b3_1, o4, b5_0, b5_1, List.set o6 (Int.toNat z8.1) (z9.1.1, z9.1.2))] else none else none) (Option.bind (Z1f k (o2, z8.2.1, z8.2.2)) fun z10 => if (0 : Int) ≤ z8.1 then if z8.1 < (↑(List.length o6) : Int) then some [(z10.2.1, z10.2.2, o2, b3_0, b3_1, o4, b5_0, b5_1, List.set o6 (Int.toNat z8.1) (z10.1.1, z10.1.2))] else none else none))
noncomputable def Zdj : Spec := Spec.mk [.ro, O6, Obq, O2, O0, O4, O0] [(0, .at (.ptr 1 0)), (2, .at (.ptr 3 0)), (3, .at (.ptr 5 0))]
noncomputable def ZkN : Spec := Spec.mk [.ro, O6, Obq, O2, O0, O4, O0] [(2, .at (.ptr 3 0)), (3, .at (.ptr 5 0))]
noncomputable def Z23 : LoopDef (Tup Z3v × OutD) := .plain Zdj ZkN (Int × Int × List Int × Int × Int × List (Int × Int) × Int × Int × List (Int × Int)) (fun k x => Z1u k x.1.2.1.2.1 x.1.2.1.2.2.1 x.1.2.2.1 x.1.2.2.2.1.1 x.1.2.2.2.1.2.1 x.1.2.2.2.2.1 x.1.2.2.2.2.2.1.1 x.1.2.2.2.2.2.1.2.1 x.1.2.2.2.2.2.2.1) (fun z => (((), ((), z.1, z.2.1, ()), z.2.2.1, (z.2.2.2.1, z.2.2.2.2.1, (), ()), z.2.2.2.2.2.1, (z.2.2.2.2.2.2.1, z.2.2.2.2.2.2.2.1, (), ()), z.2.2.2.2.2.2.2.2, ()), ((), (), ()))) (fun y => (y.1.2.1.2.1, y.1.2.1.2.2.1, y.1.2.2.1, y.1.2.2.2.1.1, y.1.2.2.2.1.2.1, y.1.2.2.2.2.1, y.1.2.2.2.2.2.1.1, y.1.2.2.2.2.2.1.2.1, y.1.2.2.2.2.2.2.1)) (fun _ => rfl)
theorem ZkH (k : Nat) (b1_1 : Int) (b1_2 : Int) (o2 : List Int) (b3_0 : Int) (b3_1 : Int) (o4 : List (Int × Int)) (b5_0 : Int) (b5_1 : Int) (o6 : List (Int × Int)) : Z5r k b1_1 b1_2 o2 b3_0 b3_1 o4 b5_0 b5_1 o6 = repl 3 (Z1u k b1_1 b1_2 o2 b3_0 b3_1 o4 b5_0 b5_1 o6) := by
 first
 | (simp only [Z5r, Z1u, Zy, ZV, Zz, ZA, Zx, Z9, if_true]; done)
 | (simp only [Z5r, Z1u, Zy, ZV, Zz, ZA, Zx, Z9, if_true]; simp only [Z4Q, Z4K, Z8t, Z9]; simp only [Zai]; exact Z6s ⟨fun h => by simp only [h, and_self], fun h => by simp only [h, and_self]⟩)
noncomputable def Zs : Nat → List Int × Int × Int → Option ((Int × Int × List (Int × Int)) × Int × Int)
 | 0, _ => none
 | k + 1, p0 =>
  Option.bind (Z7J k (p0.1, p0.2.1, p0.2.2)) fun z0 => Option.bind (Z1 k (p0.1, z0.2.1, z0.2.2) (36 : Int)) fun z1 => if decide (z1.1 = 0) = true then Option.bind (Zb k (p0.1, z1.2.1, z1.2.2) [(0 : Int), wrap64 (z0.1.1 + 1), (10 : Int), (11 : Int)]) fun z2 => some ((z2.1, z0.1.2.1, z0.1.2.2), z2.2.1, z2.2.2) else if decide (z1.1 = 1) = true then Option.bind (Zb k (p0.1, z1.2.1, z1.2.2) [(0 : Int), wrap64 (z0.1.2.1 + 1), (9 : Int), (10 : Int)]) fun z3 => some ((z0.1.1, z3.1, z0.1.2.2), z3.2.1, z3.2.2) else if decide (z1.1 = 2) = true then Option.bind (Z1u k z1.2.1 z1.2.2 p0.1 (0 : Int) (0 : Int) [] z0.1.1 z0.1.2.1 z0.1.2.2) fun z11 => some ((z11.2.2.2.2.2.2.1, z11.2.2.2.2.2.2.2.1, z11.2.2.2.2.2.2.2.2), z11.1, z11.2.1) else if decide (z1.1 = 3) = true then if (1 : Int) ≤ (↑(List.length z0.1.2.2) : Int) then if (↑(List.length z0.1.2.2) : Int) ≤ (↑(List.length z0.1.2.2) : Int) then some ((z0.1.1, z0.1.2.1, List.drop (Int.toNat (1 : Int)) z0.1.2.2), z1.2.1, z1.2.2) else none else none else if decide (z1.1 = 4) = true then some (((11 : Int), (2 : Int), List.replicate (Int.toNat (22 : Int)) ((0 : Int), (0 : Int))), z1.2.1, z1.2.2) else if decide (z1.1 = 5) = true then some (((2 : Int), (10 : Int), List.replicate (Int.toNat (20 : Int)) ((0 : Int), (0 : Int))), z1.2.1, z1.2.2) else some ((z0.1.1, z0.1.2.1, z0.1.2.2), z1.2.1, z1.2.2)
noncomputable def Z17 : FnDef := .of Zgo Z3v ((Int × Int × List (Int × Int)) × Int × Int) (fun k x => Zs k x.1) Zfa ZaV Zkq
noncomputable def Z89 : Code := Try.f81.body.getD .skip
noncomputable def ZX : Ctx (Tup Z3v × OutD) := { T := T, G := [(98, Z2D.E), (80, Zk.E), (84, ZI.E), (99, Z1U.E)], mvs := [42], no := 2, n := 53, res := resOf T Zgo Z3v Try.f81.results.toList, loops := [], regs := [(8, Z23.E)], conds := [], cuts := [] }
theorem Zgs (k : Nat) : EnvOK Try.prog k ZX.G := (EnvOK.cons (Zwr k) (EnvOK.cons (Z2n k) (EnvOK.cons (Z57 k) (EnvOK.cons (ZsA k) (EnvOK.nil mixed)))))
noncomputable def Z8G : Array Oper := (findReg 8 Z89).getD #[]
theorem Zkz (k : Nat) (x : Zdj.D) : execD ZX.T ZX.G ZX.mvs k Z8G (Z23.inp.st ZX.n x) (outK ZX Z23) = Z5r k x.1.2.1.2.1 x.1.2.1.2.2.1 x.1.2.2.1 x.1.2.2.2.1.1 x.1.2.2.2.1.2.1 x.1.2.2.2.2.1 x.1.2.2.2.2.2.1.1 x.1.2.2.2.2.2.1.2.1 x.1.2.2.2.2.2.2.1 := by kernel_rfl
theorem Zjd (k : Nat) : EOK Try.prog ZX k Z23.E (.region 8 Z8G true) := Z8y (D := Z23) (m := 3) T_ok (Zgs k) (fun x => (Zkz k x).trans (ZkH k x.1.2.1.2.1 x.1.2.1.2.2.1 x.1.2.2.1 x.1.2.2.2.1.1 x.1.2.2.2.1.2.1 x.1.2.2.2.2.1 x.1.2.2.2.2.2.1.1 x.1.2.2.2.2.2.1.2.1 x.1.2.2.2.2.2.2.1))
theorem Zr1 (k : Nat) (x : Tup Z17.ps) : Z17.f (k + 1) x = fnK Z17 ZX Z89 k x := by kernel_rfl
theorem Zq7 (x : Tup Z17.ps) : Z17.f 0 x = none := by kernel_rfl
theorem ZqL (k : Nat) : LOK Try.prog ZX k Z89 := LOK.by [(Z23.E, .region 8 Z8G true)] (by kernel_rfl) (AllOK.cons (Zjd k) AllOK.nil)
theorem Zgl (k : Nat) : SoundAt Try.prog k 81 Z17.E := @Z5 Try.prog Z17 ZX 81 Try.f81 Z89 (by kernel_rfl) (by kernel_rfl) (by kernel_rfl) Try.func81 (by kernel_rfl) (by kernel_rfl) (by kernel_rfl) T_ok Zgs ZqL Zq7 Zr1 k
end
end
section
noncomputable section
noncomputable def Z2O : List PK := [PK.mk I6 false none false none, PK.mk I6 false none false none, PK.mk .bool false none false none]
noncomputable def ZgJ : List PK := [PK.mk (.pair I6 (.pair I6 (.slice 73 P6))) true none false none, PK.mk (.slice 28 (.slice 3 I6)) false none false none]
noncomputable def Zgt (r : Int × Int × Bool) : Tup Z2O × OutD := ((r.1, r.2.1, r.2.2, ()), none)
noncomputable def Zg9 : Tup Z2O × OutD → Option (Int × Int × Bool)
 | (a, none) => some (a.1, a.2.1, a.2.2.1)
 | _ => none
theorem ZlC : ∀ b r, Zg9 b = some r → Zgt r = b := by
 rintro ⟨a, _ | _⟩ r h <;> cases h; rfl
noncomputable def Z37 : Nat → List (List (List (Int × Int × Int))) → List (List Int) → Int → Int → Int → Int → Int → Int → Int → Int → Option (List (List (List (Int × Int × Int))) × Int × Int × Int × Int × Int × Int)
 | 0, _, _, _, _, _, _, _, _, _, _ => none
 | k + 1, o1, o2, v8, v9, v10, v11, v27, v28, v35, v36 =>
  if decide (v36 < v35) = true then if (0 : Int) ≤ v36 then if v36 < (↑(List.length o2) : Int) then Z37 k o1 o2 v8 v9 v10 (maxS v11 (↑(List.length (List.getD o2 (Int.toNat v36) [])) : Int)) v27 v28 v35 (wrap64 (v36 + 1)) else none else none else some (o1, v8, v9, v10, v11, v27, v28)
noncomputable def Zac : Spec := Spec.mk [.ro, Oa, O5] [(7, .at (.sl 1)), (8, .at (.int .i64)), (9, .at (.int .i64)), (10, .at (.int .i64)), (11, .at (.int .i64)), (27, .at (.int .i64)), (28, .at (.int .i64)), (34, .at (.sl 2)), (35, .at (.int .i64)), (36, .at (.int .i64))]
noncomputable def Znz : Spec := Spec.mk [.ro, Oa] [(7, .at (.sl 1)), (8, .at (.int .i64)), (9, .at (.int .i64)), (10, .at (.int .i64)), (11, .at (.int .i64)), (27, .at (.int .i64)), (28, .at (.int .i64))]
noncomputable def Z2K : LoopDef (Tup Z2O × OutD) := .plain Zac Znz (List (List (List (Int × Int × Int))) × Int × Int × Int × Int × Int × Int) (fun k x => Z37 k x.1.2.1 x.1.2.2.1 x.2.2.1 x.2.2.2.1 x.2.2.2.2.1 x.2.2.2.2.2.1 x.2.2.2.2.2.2.1 x.2.2.2.2.2.2.2.1 x.2.2.2.2.2.2.2.2.2.1 x.2.2.2.2.2.2.2.2.2.2.1) (fun z => (((), z.1, ()), ((), z.2.1, z.2.2.1, z.2.2.2.1, z.2.2.2.2.1, z.2.2.2.2.2.1, z.2.2.2.2.2.2, ()))) (fun y => (y.1.2.1, y.2.2.1, y.2.2.2.1, y.2.2.2.2.1, y.2.2.2.2.2.1, y.2.2.2.2.2.2.1, y.2.2.2.2.2.2.2.1)) (fun _ => rfl)
noncomputable def Z1k : Nat → List (List (List (Int × Int × Int))) → Int → Int → Int → Int → Option (Int × Int)
 | 0, _, _, _, _, _ => none
 | k + 1, o1, v8, v9, v27, v28 =>
  if decide (v28 < v27) = true then Option.bind (Z20 k o1 [v28]) fun z2 => Option.bind (Z37 k o1 z2 v8 v9 v28 (0 : Int) v27 v28 (↑(List.length z2) : Int) (0 : Int)) fun z3 => if decide (z3.2.2.1 < 0) = true then Z1k k z3.1 z3.2.2.2.1 z3.2.2.2.2.1 z3.2.2.2.2.2.1 (wrap64 (z3.2.2.2.2.2.2 + 1)) else if decide (z3.2.2.2.2.1 < z3.2.2.1) = true then Z1k k z3.1 z3.2.2.2.1 z3.2.2.2.2.1 z3.2.2.2.2.2.1 (wrap64 (z3.2.2.2.2.2.2 + 1)) else Z1k k z3.1 z3.2.1 z3.2.2.1 z3.2.2.2.2.2.1 (wrap64 (z3.2.2.2.2.2.2 + 1)) else some (v8, v9)
noncomputable def Za9 : Spec := Spec.mk [.ro, Oa] [(7, .at (.sl 1)), (8, .at (.int .i64)), (9, .at (.int .i64)), (27, .at (.int .i64)), (28, .at (.int .i64))]
noncomputable def ZmU : Spec := Spec.mk [.ro] [(8, .at (.int .i64)), (9, .at (.int .i64))]
noncomputable def Z2G : LoopDef (Tup Z2O × OutD) := .plain Za9 ZmU (Int × Int) (fun k x => Z1k k x.1.2.1 x.2.2.1 x.2.2.2.1 x.2.2.2.2.1 x.2.2.2.2.2.1) (fun z => (((), ()), (z.1, z.2, ()))) (fun y => (y.2.1, y.2.2.1)) (fun _ => rfl)
noncomputable def Z8Y : Nat → Int × Int × List (Int × Int) → List (List Int) → Option (Int × Int × Bool)
 | 0, _, _ => none
 | k + 1, p0, p1 =>
  Option.bind (Z4l k (p0.1, p0.2.1, p0.2.2) p1) fun z0 => if (!z0) = true then some ((0 : Int), (0 : Int), false) else if decide ((↑(List.length p1) : Int) = 0) = true then some ((0 : Int), (0 : Int), false) else Option.bind (Z4n k (p0.1, p0.2.1, p0.2.2) p1) fun z1 => Option.bind (Z1k k z1 (0 : Int) (-1 : Int) (↑(List.length p1) : Int) (0 : Int)) fun z4 => some (z4.1, z4.2, true)
noncomputable def Z1T : FnDef := .of ZgJ Z2O (Int × Int × Bool) (fun k x => Z8Y k x.1 x.2.1) Zgt Zg9 ZlC
noncomputable def Z5w : Code := Try.f22.body.getD .skip
noncomputable def Z15 : Ctx (Tup Z2O × OutD) := { T := T, G := [(41, Z1n.E), (42, Z1m.E), (43, Z1p.E)], mvs := [], no := 0, n := 57, res := resOf T ZgJ Z2O Try.f22.results.toList, loops := [(2, Z2K.E), (0, Z2G.E)], regs := [], conds := [], cuts := [] }
theorem ZcA (k : Nat) : EnvOK Try.prog k Z15.G := (EnvOK.cons (ZaH k) (EnvOK.cons (ZaD k) (EnvOK.cons (Zcu k) (EnvOK.nil mixed))))
noncomputable def Z6A : Code := (findLoop 2 Z5w).getD .skip
theorem Znn (k : Nat) (x : Zac.D) : Z2K.lp (k + 1) x = loopK Z15 Z2K 2 Z6A k x := by kernel_rfl
theorem Znj (k : Nat) : LOK Try.prog Z15 k Z6A := LOK.by [] (by kernel_rfl) AllOK.nil
theorem Znh (x : Zac.D) : Z2K.lp 0 x = none := by kernel_rfl
theorem Zly (k : Nat) : EOK Try.prog Z15 k Z2K.E (.block 2 (.loop Z6A)) := Z4 T_ok ZcA Znh Znn Znj k
noncomputable def Z6D : Code := (findLoop 0 Z5w).getD .skip
theorem Zn9 (k : Nat) (x : Za9.D) : Z2G.lp (k + 1) x = loopK Z15 Z2G 0 Z6D k x := by kernel_rfl
theorem Zni (k : Nat) : LOK Try.prog Z15 k Z6D := LOK.by [(Z2K.E, .block 2 (.loop Z6A))] (by kernel_rfl) (AllOK.cons (Zly k) AllOK.nil)
theorem Znd (x : Za9.D) : Z2G.lp 0 x = none := by kernel_rfl
theorem Zmy (k : Nat) : EOK Try.prog Z15 k Z2G.E (.block 0 (.loop Z6D)) := Z4 T_ok ZcA Znd Zn9 Zni k
theorem Zsf (k : Nat) (x : Tup Z1T.ps) : Z1T.f (k + 1) x = fnK Z1T Z15 Z5w k x := by kernel_rfl
theorem Zs3 (x : Tup Z1T.ps) : Z1T.f 0 x = none := by kernel_rfl
theorem Zsz (k : Nat) : LOK Try.prog Z15 k Z5w := LOK.by [(Z2G.E, .block 0 (.loop Z6D))] (by kernel_rfl) (AllOK.cons (Zmy k) AllOK.nil)
theorem Zrw (k : Nat) : SoundAt Try.prog k 22 Z1T.E := @Z5 Try.prog Z1T Z15 22 Try.f22 Z5w (by kernel_rfl) (by kernel_rfl) (by kernel_rfl) Try.func22 (by kernel_rfl) (by kernel_rfl) (by kernel_rfl) T_ok ZcA Zsz Zs3 Zsf k
noncomputable def Z6M : List PK := [PK.mk (.slice 28 (.slice 3 I6)) false none false none, PK.mk .bool false none false none]
noncomputable def ZhK : List PK := [PK.mk (.pair I6 (.pair I6 (.slice 73 P6))) true none false none, PK.mk (.slice 28 (.slice 3 I6)) false none false none]
noncomputable def ZgC (r : List (List Int) × Bool) : Tup Z6M × OutD := ((r.1, r.2, ()), none)
noncomputable def Zhy : Tup Z6M × OutD → Option (List (List Int) × Bool)
 | (a, none) => some (a.1, a.2.1)
 | _ => none
theorem ZmO : ∀ b r, Zhy b = some r → ZgC r = b := by
 rintro ⟨a, _ | _⟩ r h <;> cases h; rfl
noncomputable def Z4q : Nat → Int × Int × List (Int × Int) → List (List Int) → Option (List (List Int) × Bool)
 | 0, _, _ => none
 | k + 1, p0, p1 =>
  Option.bind (Z4l k (p0.1, p0.2.1, p0.2.2) p1) fun z0 => if (!z0) = true then some ([], false) else Option.bind (Z4n k (p0.1, p0.2.1, p0.2.2) p1) fun z1 => Option.bind (Z1s k p1) fun z2 => Option.bind (Z20 k z1 z2) fun z3 => some (z3, true)
noncomputable def Z2c : FnDef := .of ZhK Z6M (List (List Int) × Bool) (fun k x => Z4q k x.1 x.2.1) ZgC Zhy ZmO
noncomputable def Zda : Code := Try.f27.body.getD .skip
noncomputable def Z9T : Ctx (Tup Z6M × OutD) := { T := T, G := [(41, Z1n.E), (42, Z1m.E), (44, Z1v.E), (43, Z1p.E)], mvs := [], no := 0, n := 16, res := resOf T ZhK Z6M Try.f27.results.toList, loops := [], regs := [], conds := [], cuts := [] }
theorem ZuS (k : Nat) : EnvOK Try.prog k Z9T.G := (EnvOK.cons (ZaH k) (EnvOK.cons (ZaD k) (EnvOK.cons (Zct k) (EnvOK.cons (Zcu k) (EnvOK.nil mixed)))))
theorem Zu6 (k : Nat) (x : Tup Z2c.ps) : Z2c.f (k + 1) x = fnK Z2c Z9T Zda k x := by kernel_rfl
theorem ZtM (x : Tup Z2c.ps) : Z2c.f 0 x = none := by kernel_rfl
theorem ZuN (k : Nat) : LOK Try.prog Z9T k Zda := LOK.by [] (by kernel_rfl) AllOK.nil
theorem Zuq (k : Nat) : SoundAt Try.prog k 27 Z2c.E := @Z5 Try.prog Z2c Z9T 27 Try.f27 Zda (by kernel_rfl) (by kernel_rfl) (by kernel_rfl) Try.func27 (by kernel_rfl) (by kernel_rfl) (by kernel_rfl) T_ok ZuS ZuN ZtM Zu6 k
noncomputable def Z58 : List PK := [PK.mk (.slice 3 I6) false none false none, PK.mk .bool false none false none]
noncomputable def Zgr : List PK := [PK.mk (.pair I6 (.pair I6 (.slice 73 P6))) true none false none, PK.mk (.slice 28 (.slice 3 I6)) false none false none]
noncomputable def ZeY (r : List Int × Bool) : Tup Z58 × OutD := ((r.1, r.2, ()), none)
noncomputable def Zfc : Tup Z58 × OutD → Option (List Int × Bool)
 | (a, none) => some (a.1, a.2.1)
 | _ => none
theorem ZkJ : ∀ b r, Zfc b = some r → ZeY r = b := by
 rintro ⟨a, _ | _⟩ r h <;> cases h; rfl
noncomputable def Z5i : Nat → Int × Int × List (Int × Int) → List (List Int) → Option (List Int × Bool)
 | 0, _, _ => none
 | k + 1, p0, p1 =>
  Option.bind (Z4l k (p0.1, p0.2.1, p0.2.2) p1) fun z0 => if (!z0) = true then some ([], false) else Option.bind (Z4n k (p0.1, p0.2.1, p0.2.2) p1) fun z1 => Option.bind (Z1s k p1) fun z2 => Option.bind (Z2j k z1 z2) fun z3 => some (z3, true)
noncomputable def Z1E : FnDef := .of Zgr Z58 (List Int × Bool) (fun k x => Z5i k x.1 x.2.1) ZeY Zfc ZkJ
noncomputable def Zbz : Code := Try.f29.body.getD .skip
noncomputable def Z80 : Ctx (Tup Z58 × OutD) := { T := T, G := [(41, Z1n.E), (42, Z1m.E), (44, Z1v.E), (50, Z1H.E)], mvs := [], no := 0, n := 16, res := resOf T Zgr Z58 Try.f29.results.toList, loops := [], regs := [], conds := [], cuts := [] }
theorem Zqo (k : Nat) : EnvOK Try.prog k Z80.G := (EnvOK.cons (ZaH k) (EnvOK.cons (ZaD k) (EnvOK.cons (Zct k) (EnvOK.cons (ZeQ k) (EnvOK.nil mixed)))))
theorem Zrb (k : Nat) (x : Tup Z1E.ps) : Z1E.f (k + 1) x = fnK Z1E Z80 Zbz k x := by kernel_rfl
theorem Zqz (x : Tup Z1E.ps) : Z1E.f 0 x = none := by kernel_rfl
theorem ZqY (k : Nat) : LOK Try.prog Z80 k Zbz := LOK.by [] (by kernel_rfl) AllOK.nil
theorem Zqp (k : Nat) : SoundAt Try.prog k 29 Z1E.E := @Z5 Try.prog Z1E Z80 29 Try.f29 Zbz (by kernel_rfl) (by kernel_rfl) (by kernel_rfl) Try.func29 (by kernel_rfl) (by kernel_rfl) (by kernel_rfl) T_ok Zqo ZqY Zqz Zrb k
noncomputable def Z56 : List PK := [PK.mk (.slice 28 (.slice 3 I6)) false none false none]
noncomputable def Zqa : List PK := [PK.mk (.pair I6 (.pair I6 (.slice 73 P6))) true none false none, PK.mk (.slice 28 (.slice 3 I6)) false none false none]
noncomputable def ZnY (r : List (List Int)) : Tup Z56 × OutD := ((r, ()), none)
noncomputable def ZnP : Tup Z56 × OutD → Option (List (List Int))
 | (a, none) => some (a.1)
 | _ => none
theorem ZvF : ∀ b r, ZnP b = some r → ZnY r = b := by
 rintro ⟨a, _ | _⟩ r h <;> cases h; rfl
noncomputable def Z70 : Nat → List (List (List (Int × Int × Int))) → List (List Int) → List Int → List (List Int) → Int → Int → Int → Int → Int → Int → Int → Int → Option (List (List (List (Int × Int × Int))) × List (List Int) × List Int × List (List Int) × Int × Int × Int × Int × Int × Int × Int)
 | 0, _, _, _, _, _, _, _, _, _, _, _, _ => none
 | k + 1, o1, o2, o3, v1, v7, v8, v10, v11, v16, v17, v23, v24 =>
  if decide (v11 < v7) = true then if (0 : Int) ≤ v10 then if v10 < (↑(List.length (List.getD o1 (Int.toNat v8) [])) : Int) then if (0 : Int) ≤ v11 then if v11 < (↑(List.length o1) : Int) then if (0 : Int) ≤ v10 then if v10 < (↑(List.length (List.getD o1 (Int.toNat v11) [])) : Int) then Option.bind (ZfF k (List.getD (List.getD o1 (Int.toNat v8) []) (Int.toNat v10) []) (List.getD (List.getD o1 (Int.toNat v11) []) (Int.toNat v10) [])) fun z1 => if decide (z1 ≥ 0) = true then Z70 k o1 o2 o3 v1 v7 v8 v10 (wrap64 (v11 + 1)) v16 v17 v23 v24 else some (o1, o2, o3, v1, v7, v8, v11, v16, v17, v23, v24) else none else none else none else none else none else none else some (o1, o2, o3, v1, v7, v8, v11, v16, v17, v23, v24)
noncomputable def ZeI : Spec := Spec.mk [.ro, Oa, O5, O3] [(1, .at (.snap 0 (.slice 3 I6))), (5, .at (.sl 1)), (6, .at (.sl 2)), (7, .at (.int .i64)), (8, .at (.inn 1)), (9, .at (.sl 3)), (10, .at (.int .i64)), (11, .at (.int .i64)), (15, .at (.sl 1)), (16, .at (.int .i64)), (17, .at (.int .i64)), (23, .at (.int .i64)), (24, .at (.int .i64))]
noncomputable def Zyy : Spec := Spec.mk [.ro, Oa, O5, O3] [(1, .at (.snap 0 (.slice 3 I6))), (5, .at (.sl 1)), (6, .at (.sl 2)), (7, .at (.int .i64)), (8, .at (.inn 1)), (9, .at (.sl 3)), (11, .at (.int .i64)), (15, .at (.sl 1)), (16, .at (.int .i64)), (17, .at (.int .i64)), (23, .at (.int .i64)), (24, .at (.int .i64))]
noncomputable def Z68 : LoopDef (Tup Z56 × OutD) := .plain ZeI Zyy (List (List (List (Int × Int × Int))) × List (List Int) × List Int × List (List Int) × Int × Int × Int × Int × Int × Int × Int) (fun k x => Z70 k x.1.2.1 x.1.2.2.1 x.1.2.2.2.1 x.2.1 x.2.2.2.2.1 x.2.2.2.2.2.1 x.2.2.2.2.2.2.2.1 x.2.2.2.2.2.2.2.2.1 x.2.2.2.2.2.2.2.2.2.2.1 x.2.2.2.2.2.2.2.2.2.2.2.1 x.2.2.2.2.2.2.2.2.2.2.2.2.1 x.2.2.2.2.2.2.2.2.2.2.2.2.2.1) (fun z => (((), z.1, z.2.1, z.2.2.1, ()), (z.2.2.2.1, (), (), z.2.2.2.2.1, z.2.2.2.2.2.1, (), z.2.2.2.2.2.2.1, (), z.2.2.2.2.2.2.2.1, z.2.2.2.2.2.2.2.2.1, z.2.2.2.2.2.2.2.2.2.1, z.2.2.2.2.2.2.2.2.2.2, ()))) (fun y => (y.1.2.1, y.1.2.2.1, y.1.2.2.2.1, y.2.1, y.2.2.2.2.1, y.2.2.2.2.2.1, y.2.2.2.2.2.2.2.1, y.2.2.2.2.2.2.2.2.2.1, y.2.2.2.2.2.2.2.2.2.2.1, y.2.2.2.2.2.2.2.2.2.2.2.1, y.2.2.2.2.2.2.2.2.2.2.2.2.1)) (fun _ => rfl)
noncomputable def Z6Y : Nat → List (List (List (Int × Int × Int))) → List (List Int) → List Int → List (List Int) → Int → Int → Int → Int → Int → Int → Option (List (List (List (Int × Int × Int))) × List (List Int) × List Int × List (List Int) × Int × Int)
 | 0, _, _, _, _, _, _, _, _, _, _ => none
 | k + 1, o1, o2, o3, v1, v7, v8, v16, v17, v23, v24 =>
  if decide (v24 < v23) = true then Option.bind (Z70 k o1 o2 o3 v1 v7 v8 v24 (0 : Int) v16 v17 v23 v24) fun z2 => if List.length z2.2.2.1 + List.length [z2.2.2.2.2.2.2.1] ≤ (140737488355328 / 8 : Nat) then Z6Y k z2.1 z2.2.1 (z2.2.2.1 ++ [z2.2.2.2.2.2.2.1]) z2.2.2.2.1 z2.2.2.2.2.1 z2.2.2.2.2.2.1 z2.2.2.2.2.2.2.2.1 z2.2.2.2.2.2.2.2.2.1 z2.2.2.2.2.2.2.2.2.2.1 (wrap64 (z2.2.2.2.2.2.2.2.2.2.2 + 1)) else none else some (o1, o2, o3, v1, v16, v17)
noncomputable def Zex : Spec := Spec.mk [.ro, Oa, O5, O3] [(1, .at (.snap 0 (.slice 3 I6))), (5, .at (.sl 1)), (6, .at (.sl 2)), (7, .at (.int .i64)), (8, .at (.inn 1)), (9, .at (.sl 3)), (15, .at (.sl 1)), (16, .at (.int .i64)), (17, .at (.int .i64)), (23, .at (.int .i64)), (24, .at (.int .i64))]
noncomputable def Zxk : Spec := Spec.mk [.ro, Oa, O5, O3] [(1, .at (.snap 0 (.slice 3 I6))), (5, .at (.sl 1)), (6, .at (.sl 2)), (9, .at (.sl 3)), (15, .at (.sl 1)), (16, .at (.int .i64)), (17, .at (.int .i64))]
noncomputable def Z69 : LoopDef (Tup Z56 × OutD) := .plain Zex Zxk (List (List (List (Int × Int × Int))) × List (List Int) × List Int × List (List Int) × Int × Int) (fun k x => Z6Y k x.1.2.1 x.1.2.2.1 x.1.2.2.2.1 x.2.1 x.2.2.2.2.1 x.2.2.2.2.2.1 x.2.2.2.2.2.2.2.2.1 x.2.2.2.2.2.2.2.2.2.1 x.2.2.2.2.2.2.2.2.2.2.1 x.2.2.2.2.2.2.2.2.2.2.2.1) (fun z => (((), z.1, z.2.1, z.2.2.1, ()), (z.2.2.2.1, (), (), (), (), z.2.2.2.2.1, z.2.2.2.2.2, ()))) (fun y => (y.1.2.1, y.1.2.2.1, y.1.2.2.2.1, y.2.1, y.2.2.2.2.2.2.1, y.2.2.2.2.2.2.2.1)) (fun _ => rfl)
noncomputable def Z75 : Nat → List (List (List (Int × Int × Int))) → List (List Int) → List (List Int) → Int → Int → Option (List (List Int))
 | 0, _, _, _, _, _ => none
 | k + 1, o1, o2, v1, v16, v17 =>
  if decide (v17 < v16) = true then if (0 : Int) ≤ v17 then if v17 < (↑(List.length o1) : Int) then Option.bind (Z6Y k o1 o2 [] v1 v17 v17 v16 v17 (↑(List.length v1) : Int) (0 : Int)) fun z3 => if List.length z3.2.1 + List.length [z3.2.2.1] ≤ (140737488355328 / 24 : Nat) then Z75 k z3.1 (z3.2.1 ++ [z3.2.2.1]) z3.2.2.2.1 z3.2.2.2.2.1 (wrap64 (z3.2.2.2.2.2 + 1)) else none else none else none else some o2
noncomputable def ZeJ : Spec := Spec.mk [.ro, Oa, O5] [(1, .at (.snap 0 (.slice 3 I6))), (5, .at (.sl 1)), (6, .at (.sl 2)), (15, .at (.sl 1)), (16, .at (.int .i64)), (17, .at (.int .i64))]
noncomputable def Zxt : Spec := Spec.mk [.ro, O5] [(6, .at (.sl 1))]
noncomputable def Z6g : LoopDef (Tup Z56 × OutD) := .plain ZeJ Zxt (List (List Int)) (fun k x => Z75 k x.1.2.1 x.1.2.2.1 x.2.1 x.2.2.2.2.2.1 x.2.2.2.2.2.2.1) (fun z => (((), z, ()), ((), ()))) (fun y => (y.1.2.1)) (fun _ => rfl)
noncomputable def Z5j : Nat → Int × Int × List (Int × Int) → List (List Int) → Option (List (List Int))
 | 0, _, _ => none
 | k + 1, p0, p1 =>
  Option.bind (Zej k (p0.1, p0.2.1, p0.2.2) p1) fun z0 => Option.bind (Z75 k z0 [] p1 (↑(List.length z0) : Int) (0 : Int)) fun z4 => some z4
noncomputable def Z1R : FnDef := .of Zqa Z56 (List (List Int)) (fun k x => Z5j k x.1 x.2.1) ZnY ZnP ZvF
noncomputable def Z9e : Code := Try.f33.body.getD .skip
noncomputable def Z1l : Ctx (Tup Z56 × OutD) := { T := T, G := [(58, Z5p.E), (59, Z6u.E)], mvs := [], no := 0, n := 58, res := resOf T Zqa Z56 Try.f33.results.toList, loops := [(4, Z68.E), (2, Z69.E), (0, Z6g.E)], regs := [], conds := [], cuts := [] }
theorem Zee (k : Nat) : EnvOK Try.prog k Z1l.G := (EnvOK.cons (ZCM k) (EnvOK.cons (ZEQ k) (EnvOK.nil mixed)))
noncomputable def Zbj : Code := (findLoop 4 Z9e).getD .skip
theorem Zya (k : Nat) (x : ZeI.D) : Z68.lp (k + 1) x = loopK Z1l Z68 4 Zbj k x := by kernel_rfl
theorem Zxq (k : Nat) : LOK Try.prog Z1l k Zbj := LOK.by [] (by kernel_rfl) AllOK.nil
theorem ZxK (x : ZeI.D) : Z68.lp 0 x = none := by kernel_rfl
theorem ZvK (k : Nat) : EOK Try.prog Z1l k Z68.E (.block 4 (.loop Zbj)) := Z4 T_ok Zee ZxK Zya Zxq k
noncomputable def Zbk : Code := (findLoop 2 Z9e).getD .skip
theorem ZxL (k : Nat) (x : Zex.D) : Z69.lp (k + 1) x = loopK Z1l Z69 2 Zbk k x := by kernel_rfl
theorem Zxv (k : Nat) : LOK Try.prog Z1l k Zbk := LOK.by [(Z68.E, .block 4 (.loop Zbj))] (by kernel_rfl) (AllOK.cons (ZvK k) AllOK.nil)
theorem ZxD (x : Zex.D) : Z69.lp 0 x = none := by kernel_rfl
theorem ZwV (k : Nat) : EOK Try.prog Z1l k Z69.E (.block 2 (.loop Zbk)) := Z4 T_ok Zee ZxD ZxL Zxv k
noncomputable def Zbh : Code := (findLoop 0 Z9e).getD .skip
theorem Zxz (k : Nat) (x : ZeJ.D) : Z6g.lp (k + 1) x = loopK Z1l Z6g 0 Zbh k x := by kernel_rfl
theorem Zxp (k : Nat) : LOK Try.prog Z1l k Zbh := LOK.by [(Z69.E, .block 2 (.loop Zbk))] (by kernel_rfl) (AllOK.cons (ZwV k) AllOK.nil)
theorem Zyl (x : ZeJ.D) : Z6g.lp 0 x = none := by kernel_rfl
theorem Zvk (k : Nat) : EOK Try.prog Z1l k Z6g.E (.block 0 (.loop Zbh)) := Z4 T_ok Zee Zyl Zxz Zxp k
theorem ZD1 (k : Nat) (x : Tup Z1R.ps) : Z1R.f (k + 1) x = fnK Z1R Z1l Z9e k x := by kernel_rfl
theorem ZCR (x : Tup Z1R.ps) : Z1R.f 0 x = none := by kernel_rfl
theorem ZDa (k : Nat) : LOK Try.prog Z1l k Z9e := LOK.by [(Z6g.E, .block 0 (.loop Zbh))] (by kernel_rfl) (AllOK.cons (Zvk k) AllOK.nil)
theorem ZbO (k : Nat) : SoundAt Try.prog k 33 Z1R.E := @Z5 Try.prog Z1R Z1l 33 Try.f33 Z9e (by kernel_rfl) (by kernel_rfl) (by kernel_rfl) Try.func33 (by kernel_rfl) (by kernel_rfl) (by kernel_rfl) T_ok Zee ZDa ZCR ZD1 k
noncomputable def ZF : List PK := [PK.mk (.pair I6 (.pair I6 (.slice 73 P6))) true none false none]
noncomputable def Zgz : List PK := [PK.mk (.pair (.slice 5 (.int .u8)) (.pair I6 (.int .u64))) false none false (some 89)]
noncomputable def Zf9 (r : (Int × Int × List (Int × Int)) × Int × Int) : Tup ZF × OutD := ((r.1, ()), some ⟨Ty.pair (Ty.slice (5 : Nat) (Ty.int .u8)) (Ty.pair (Ty.int .i64) (Ty.int .u64)), [([], r.2)]⟩)
noncomputable def ZaW : Tup ZF × OutD → Option ((Int × Int × List (Int × Int)) × Int × Int)
 | (a, some ⟨u, ys⟩) => if h : u = Ty.pair (Ty.slice (5 : Nat) (Ty.int .u8)) (Ty.pair (Ty.int .i64) (Ty.int .u64)) then (match castU h ys with
  | [([], y)] => some (a.1, y)
  | _ => none) else none
 | _ => none
theorem ZkS : ∀ b r, ZaW b = some r → Zf9 r = b := by
 rintro ⟨a, o⟩ r h
 cases o with
 | none => cases h
 | some s =>
  obtain ⟨u, ys⟩ := s
  simp only [ZaW] at h
  split at h
  ·rename_i hu
   subst hu
   match ys, h with
   | [], h => cases (show (none : Option _) = some r from h)
   | [([], y)], h => injection (show some _ = some r from h) with h; subst h; rfl
   | [(_ :: _, y)], h => cases (show (none : Option _) = some r from h)
   | (h1, _) :: _ :: _, h => cases h1 <;> cases (show (none : Option _) = some r from h)
  ·cases h
noncomputable def Z21 : Nat → Int → Int → List Int → Int → Int → List (Int × Int) → Int → Int → List (Int × Int) → Int → Int → Int → Option (Int × Int × List Int × Int × Int × List (Int × Int) × Int × Int × List (Int × Int) × Int × Int) := fun k b1_1 b1_2 o2 b3_0 b3_1 o4 b5_0 b5_1 o6 v5 v34 v35 =>
    Option.bind (Z1 k (o2, b1_1, b1_2) (2 : Int)) fun z5 => if (0 : Int) ≤ v5 then if v5 < (↑(List.length o6) : Int) then some (z5.2.1, z5.2.2, o2, b3_0, b3_1, o4, b5_0, b5_1, List.set o6 (Int.toNat v5) ((3 : Int), z5.1), v34, v35) else none else none
noncomputable def Z4J : Nat → Int → Int → List Int → Int → Int → List (Int × Int) → Int → Int → List (Int × Int) → Int → Int → Int → Option (List (Int × Int × List Int × Int × Int × List (Int × Int) × Int × Int × List (Int × Int) × Int × Int)) := fun k b1_1 b1_2 o2 b3_0 b3_1 o4 b5_0 b5_1 o6 v5 v34 v35 =>
    joinL (Option.bind (Z1 k (o2, b1_1, b1_2) (2 : Int)) fun z6 => if (0 : Int) ≤ v5 then if v5 < (↑(List.length o6) : Int) then some [(z6.2.1, z6.2.2, o2, b3_0, b3_1, o4, b5_0, b5_1, List.set o6 (Int.toNat v5) ((3 : Int), z6.1), v34, v35)] else none else none) (Option.bind (Z1 k (o2, b1_1, b1_2) (2 : Int)) fun z7 => if (0 : Int) ≤ v5 then if v5 < (↑(List.length o6) : Int) then some [(z7.2.1, z7.2.2, o2, b3_0, b3_1, o4, b5_0, b5_1, List.set o6 (Int.toNat v5) ((3 : Int), z7.1), v34, v35)] else none else none)
noncomputable def ZcQ : Spec := Spec.mk [.ro, O6, Obq, O2, O0, O4, O0] [(0, .at (.ptr 1 0)), (2, .at (.ptr 3 0)), (4, .at (.ptr 5 0)), (5, .at (.int .i64)), (34, .at (.int .i64)), (35, .at (.int .i64))]
noncomputable def Zjm : Spec := Spec.mk [.ro, O6, Obq, O2, O0, O4, O0] [(0, .at (.ptr 1 0)), (2, .at (.ptr 3 0)), (4, .at (.ptr 5 0)), (34, .at (.int .i64)), (35, .at (.int .i64))]
noncomputable def Z1N : LoopDef (Tup ZF × OutD) := .plain ZcQ Zjm (Int × Int × List Int × Int × Int × List (Int × Int) × Int × Int × List (Int × Int) × Int × Int) (fun k x => Z21 k x.1.2.1.2.1 x.1.2.1.2.2.1 x.1.2.2.1 x.1.2.2.2.1.1 x.1.2.2.2.1.2.1 x.1.2.2.2.2.1 x.1.2.2.2.2.2.1.1 x.1.2.2.2.2.2.1.2.1 x.1.2.2.2.2.2.2.1 x.2.2.2.2.1 x.2.2.2.2.2.1 x.2.2.2.2.2.2.1) (fun z => (((), ((), z.1, z.2.1, ()), z.2.2.1, (z.2.2.2.1, z.2.2.2.2.1, (), ()), z.2.2.2.2.2.1, (z.2.2.2.2.2.2.1, z.2.2.2.2.2.2.2.1, (), ()), z.2.2.2.2.2.2.2.2.1, ()), ((), (), (), z.2.2.2.2.2.2.2.2.2.1, z.2.2.2.2.2.2.2.2.2.2, ()))) (fun y => (y.1.2.1.2.1, y.1.2.1.2.2.1, y.1.2.2.1, y.1.2.2.2.1.1, y.1.2.2.2.1.2.1, y.1.2.2.2.2.1, y.1.2.2.2.2.2.1.1, y.1.2.2.2.2.2.1.2.1, y.1.2.2.2.2.2.2.1, y.2.2.2.2.1, y.2.2.2.2.2.1)) (fun _ => rfl)
theorem Zj5 (k : Nat) (b1_1 : Int) (b1_2 : Int) (o2 : List Int) (b3_0 : Int) (b3_1 : Int) (o4 : List (Int × Int)) (b5_0 : Int) (b5_1 : Int) (o6 : List (Int × Int)) (v5 : Int) (v34 : Int) (v35 : Int) : Z4J k b1_1 b1_2 o2 b3_0 b3_1 o4 b5_0 b5_1 o6 v5 v34 v35 = repl 2 (Z21 k b1_1 b1_2 o2 b3_0 b3_1 o4 b5_0 b5_1 o6 v5 v34 v35) := by
 first
 | (simp only [Z4J, Z21, Zy, ZV, Zz, ZA, Zx, Z9, if_true]; done)
 | (simp only [Z4J, Z21, Zy, ZV, Zz, ZA, Zx, Z9, if_true]; simp only [Z4Q, Z4K, Z8t, Z9]; simp only [Zai]; exact Z6s ⟨fun h => by simp only [h, and_self], fun h => by simp only [h, and_self]⟩)
noncomputable def Z2L : Nat → Int → Int → List Int → Int → Int → List (Int × Int) → Int → Int → List (Int × Int) → Int → Int → Option (Int × Int × List Int × Int × Int × List (Int × Int) × Int × Int × List (Int × Int))
 | 0, _, _, _, _, _, _, _, _, _, _, _ => none
 | k + 1, b1_1, b1_2, o2, b3_0, b3_1, o4, b5_0, b5_1, o6, v34, v35 =>
  if decide (v35 < v34) = true then Option.bind (Z21 k b1_1 b1_2 o2 b3_0 b3_1 o4 b5_0 b5_1 o6 v35 v34 v35) fun z8 => Z2L k z8.1 z8.2.1 z8.2.2.1 z8.2.2.2.1 z8.2.2.2.2.1 z8.2.2.2.2.2.1 z8.2.2.2.2.2.2.1 z8.2.2.2.2.2.2.2.1 z8.2.2.2.2.2.2.2.2.1 z8.2.2.2.2.2.2.2.2.2.1 (wrap64 (z8.2.2.2.2.2.2.2.2.2.2 + 1)) else some (b1_1, b1_2, o2, b3_0, b3_1, o4, b5_0, b5_1, o6)
noncomputable def Z9l : Spec := Spec.mk [.ro, O6, Obq, O2, O0, O4, O0] [(0, .at (.ptr 1 0)), (2, .at (.ptr 3 0)), (4, .at (.ptr 5 0)), (34, .at (.int .i64)), (35, .at (.int .i64))]
noncomputable def Zm4 : Spec := Spec.mk [.ro, O6, Obq, O2, O0, O4, O0] [(0, .at (.ptr 1 0)), (2, .at (.ptr 3 0)), (4, .at (.ptr 5 0))]
noncomputable def Z2B : LoopDef (Tup ZF × OutD) := .plain Z9l Zm4 (Int × Int × List Int × Int × Int × List (Int × Int) × Int × Int × List (Int × Int)) (fun k x => Z2L k x.1.2.1.2.1 x.1.2.1.2.2.1 x.1.2.2.1 x.1.2.2.2.1.1 x.1.2.2.2.1.2.1 x.1.2.2.2.2.1 x.1.2.2.2.2.2.1.1 x.1.2.2.2.2.2.1.2.1 x.1.2.2.2.2.2.2.1 x.2.2.2.2.1 x.2.2.2.2.2.1) (fun z => (((), ((), z.1, z.2.1, ()), z.2.2.1, (z.2.2.2.1, z.2.2.2.2.1, (), ()), z.2.2.2.2.2.1, (z.2.2.2.2.2.2.1, z.2.2.2.2.2.2.2.1, (), ()), z.2.2.2.2.2.2.2.2, ()), ((), (), (), ()))) (fun y => (y.1.2.1.2.1, y.1.2.1.2.2.1, y.1.2.2.1, y.1.2.2.2.1.1, y.1.2.2.2.1.2.1, y.1.2.2.2.2.1, y.1.2.2.2.2.2.1.1, y.1.2.2.2.2.2.1.2.1, y.1.2.2.2.2.2.2.1)) (fun _ => rfl)
noncomputable def Z25 : Nat → Int → Int → List Int → Int → Int → List (Int × Int) → Int → Int → List (Int × Int) → Option (Int × Int × List Int × Int × Int × List (Int × Int) × Int × Int × List (Int × Int)) := fun k b1_1 b1_2 o2 b3_0 b3_1 o4 b5_0 b5_1 o6 =>
    Option.bind (Z1 k (o2, b1_1, b1_2) (9 : Int)) fun z11 => if (0 : Int) ≤ z11.1 then if z11.1 < (↑(List.length o6) : Int) then some (z11.2.1, z11.2.2, o2, b3_0, b3_1, o4, b5_0, b5_1, List.set o6 (Int.toNat z11.1) ((0 : Int), (0 : Int))) else none else none
noncomputable def Z4M : Nat → Int → Int → List Int → Int → Int → List (Int × Int) → Int → Int → List (Int × Int) → Option (List (Int × Int × List Int × Int × Int × List (Int × Int) × Int × Int × List (Int × Int))) := fun k b1_1 b1_2 o2 b3_0 b3_1 o4 b5_0 b5_1 o6 =>
    joinL (Option.bind (Z1 k (o2, b1_1, b1_2) (9 : Int)) fun z12 => if (0 : Int) ≤ z12.1 then if z12.1 < (↑(List.length o6) : Int) then some [(z12.2.1, z12.2.2, o2, b3_0, b3_1, o4, b5_0, b5_1, List.set o6 (Int.toNat z12.1) ((0 : Int), (0 : Int)))] else none else none) (Option.bind (Z1 k (o2, b1_1, b1_2) (9 : Int)) fun z13 => if (0 : Int) ≤ z13.1 then if z13.1 < (↑(List.length o6) : Int) then some [(z13.2.1, z13.2.2, o2, b3_0, b3_1, o4, b5_0, b5_1, List.set o6 (Int.toNat z13.1) ((0 : Int), (0 : Int)))] else none else none)
noncomputable def ZcT : Spec := Spec.mk [.ro, O6, Obq, O2, O0, O4, O0] [(0, .at (.ptr 1 0)), (2, .at (.ptr 3 0)), (4, .at (.ptr 5 0))]
noncomputable def Zjt : Spec := Spec.mk [.ro, O6, Obq, O2, O0, O4, O0] [(2, .at (.ptr 3 0)), (4, .at (.ptr 5 0))]
noncomputable def Z1Q : LoopDef (Tup ZF × OutD) := .plain ZcT Zjt (Int × Int × List Int × Int × Int × List (Int × Int) × Int × Int × List (Int × Int)) (fun k x => Z25 k x.1.2.1.2.1 x.1.2.1.2.2.1 x.1.2.2.1 x.1.2.2.2.1.1 x.1.2.2.2.1.2.1 x.1.2.2.2.2.1 x.1.2.2.2.2.2.1.1 x.1.2.2.2.2.2.1.2.1 x.1.2.2.2.2.2.2.1) (fun z => (((), ((), z.1, z.2.1, ()), z.2.2.1, (z.2.2.2.1, z.2.2.2.2.1, (), ()), z.2.2.2.2.2.1, (z.2.2.2.2.2.2.1, z.2.2.2.2.2.2.2.1, (), ()), z.2.2.2.2.2.2.2.2, ()), ((), (), ()))) (fun y => (y.1.2.1.2.1, y.1.2.1.2.2.1, y.1.2.2.1, y.1.2.2.2.1.1, y.1.2.2.2.1.2.1, y.1.2.2.2.2.1, y.1.2.2.2.2.2.1.1, y.1.2.2.2.2.2.1.2.1, y.1.2.2.2.2.2.2.1)) (fun _ => rfl)
theorem Zjc (k : Nat) (b1_1 : Int) (b1_2 : Int) (o2 : List Int) (b3_0 : Int) (b3_1 : Int) (o4 : List (Int × Int)) (b5_0 : Int) (b5_1 : Int) (o6 : List (Int × Int)) : Z4M k b1_1 b1_2 o2 b3_0 b3_1 o4 b5_0 b5_1 o6 = repl 2 (Z25 k b1_1 b1_2 o2 b3_0 b3_1 o4 b5_0 b5_1 o6) := by
 first
 | (simp only [Z4M, Z25, Zy, ZV, Zz, ZA, Zx, Z9, if_true]; done)
 | (simp only [Z4M, Z25, Zy, ZV, Zz, ZA, Zx, Z9, if_true]; simp only [Z4Q, Z4K, Z8t, Z9]; simp only [Zai]; exact Z6s ⟨fun h => by simp only [h, and_self], fun h => by simp only [h, and_self]⟩)
noncomputable def Z8I : Nat → Int → Int → List Int → Int → Int → List (Int × Int) → Int → Int → List (Int × Int) → Bool → Option (Int × Int × List Int × Int × Int × List (Int × Int) × Int × Int × List (Int × Int)) := fun k b1_1 b1_2 o2 b3_0 b3_1 o4 b5_0 b5_1 o6 v48 =>
    if v48 = true then Option.bind (Z25 k b1_1 b1_2 o2 b3_0 b3_1 o4 b5_0 b5_1 o6) fun z14 => some (z14.1, z14.2.1, z14.2.2.1, z14.2.2.2.1, z14.2.2.2.2.1, z14.2.2.2.2.2.1, z14.2.2.2.2.2.2.1, z14.2.2.2.2.2.2.2.1, z14.2.2.2.2.2.2.2.2) else some (b1_1, b1_2, o2, b3_0, b3_1, o4, b5_0, b5_1, o6)
noncomputable def Zju : Spec := Spec.mk [.ro, O6, Obq, O2, O0, O4, O0] [(0, .at (.ptr 1 0)), (2, .at (.ptr 3 0)), (4, .at (.ptr 5 0)), (48, .at .bool)]
noncomputable def Zjv : Spec := Spec.mk [.ro, O6, Obq, O2, O0, O4, O0] [(2, .at (.ptr 3 0)), (4, .at (.ptr 5 0))]
noncomputable def Zg : LoopDef (Tup ZF × OutD) := .plain Zju Zjv (Int × Int × List Int × Int × Int × List (Int × Int) × Int × Int × List (Int × Int)) (fun k x => Z8I k x.1.2.1.2.1 x.1.2.1.2.2.1 x.1.2.2.1 x.1.2.2.2.1.1 x.1.2.2.2.1.2.1 x.1.2.2.2.2.1 x.1.2.2.2.2.2.1.1 x.1.2.2.2.2.2.1.2.1 x.1.2.2.2.2.2.2.1 x.2.2.2.2.1) (fun z => (((), ((), z.1, z.2.1, ()), z.2.2.1, (z.2.2.2.1, z.2.2.2.2.1, (), ()), z.2.2.2.2.2.1, (z.2.2.2.2.2.2.1, z.2.2.2.2.2.2.2.1, (), ()), z.2.2.2.2.2.2.2.2, ()), ((), (), ()))) (fun y => (y.1.2.1.2.1, y.1.2.1.2.2.1, y.1.2.2.1, y.1.2.2.2.1.1, y.1.2.2.2.1.2.1, y.1.2.2.2.2.1, y.1.2.2.2.2.2.1.1, y.1.2.2.2.2.2.1.2.1, y.1.2.2.2.2.2.2.1)) (fun _ => rfl)
noncomputable def Z22 : Nat → Int → Int → List Int → Int → Int → List (Int × Int) → Int → Int → List (Int × Int) → Int → Int → Int → Int → Option (Int × Int × List Int × Int × Int × List (Int × Int) × Int × Int × List (Int × Int) × Int × Int × Int) := fun k b1_1 b1_2 o2 b3_0 b3_1 o4 b5_0 b5_1 o6 v7 v8 v66 v67 =>
    Option.bind (Zb k (o2, b1_1, b1_2) [(1 : Int), (2 : Int), (4 : Int)]) fun z20 => if (0 : Int) ≤ v8 then if v8 < (↑(List.length o6) : Int) then some (z20.2.1, z20.2.2, o2, b3_0, b3_1, o4, b5_0, b5_1, List.set o6 (Int.toNat v8) (z20.1, (0 : Int)), v7, v66, v67) else none else none
noncomputable def Z4P : Nat → Int → Int → List Int → Int → Int → List (Int × Int) → Int → Int → List (Int × Int) → Int → Int → Int → Int → Option (List (Int × Int × List Int × Int × Int × List (Int × Int) × Int × Int × List (Int × Int) × Int × Int × Int)) := fun k b1_1 b1_2 o2 b3_0 b3_1 o4 b5_0 b5_1 o6 v7 v8 v66 v67 =>
    joinL (Option.bind (Zb k (o2, b1_1, b1_2) [(1 : Int), (2 : Int), (4 : Int)]) fun z21 => if (0 : Int) ≤ v8 then if v8 < (↑(List.length o6) : Int) then some [(z21.2.1, z21.2.2, o2, b3_0, b3_1, o4, b5_0, b5_1, List.set o6 (Int.toNat v8) (z21.1, (0 : Int)), v7, v66, v67)] else none else none) (joinL (Option.bind (Zb k (o2, b1_1, b1_2) [(1 : Int), (2 : Int), (4 : Int)]) fun z22 => if (0 : Int) ≤ v8 then if v8 < (↑(List.length o6) : Int) then some [(z22.2.1, z22.2.2, o2, b3_0, b3_1, o4, b5_0, b5_1, List.set o6 (Int.toNat v8) (z22.1, (0 : Int)), v7, v66, v67)] else none else none) (Option.bind (Zb k (o2, b1_1, b1_2) [(1 : Int), (2 : Int), (4 : Int)]) fun z23 => if (0 : Int) ≤ v8 then if v8 < (↑(List.length o6) : Int) then some [(z23.2.1, z23.2.2, o2, b3_0, b3_1, o4, b5_0, b5_1, List.set o6 (Int.toNat v8) (z23.1, (0 : Int)), v7, v66, v67)] else none else none))
noncomputable def ZcP : Spec := Spec.mk [.ro, O6, Obq, O2, O0, O4, O0] [(0, .at (.ptr 1 0)), (2, .at (.ptr 3 0)), (6, .at (.ptr 5 0)), (7, .at (.int .i64)), (8, .at (.int .i64)), (65, .at (.sl 6)), (66, .at (.int .i64)), (67, .at (.int .i64))]
noncomputable def Zjj : Spec := Spec.mk [.ro, O6, Obq, O2, O0, O4, O0] [(0, .at (.ptr 1 0)), (2, .at (.ptr 3 0)), (6, .at (.ptr 5 0)), (7, .at (.int .i64)), (65, .at (.sl 6)), (66, .at (.int .i64)), (67, .at (.int .i64))]
noncomputable def Z1O : LoopDef (Tup ZF × OutD) := .plain ZcP Zjj (Int × Int × List Int × Int × Int × List (Int × Int) × Int × Int × List (Int × Int) × Int × Int × Int) (fun k x => Z22 k x.1.2.1.2.1 x.1.2.1.2.2.1 x.1.2.2.1 x.1.2.2.2.1.1 x.1.2.2.2.1.2.1 x.1.2.2.2.2.1 x.1.2.2.2.2.2.1.1 x.1.2.2.2.2.2.1.2.1 x.1.2.2.2.2.2.2.1 x.2.2.2.2.1 x.2.2.2.2.2.1 x.2.2.2.2.2.2.2.1 x.2.2.2.2.2.2.2.2.1) (fun z => (((), ((), z.1, z.2.1, ()), z.2.2.1, (z.2.2.2.1, z.2.2.2.2.1, (), ()), z.2.2.2.2.2.1, (z.2.2.2.2.2.2.1, z.2.2.2.2.2.2.2.1, (), ()), z.2.2.2.2.2.2.2.2.1, ()), ((), (), (), z.2.2.2.2.2.2.2.2.2.1, (), z.2.2.2.2.2.2.2.2.2.2.1, z.2.2.2.2.2.2.2.2.2.2.2, ()))) (fun y => (y.1.2.1.2.1, y.1.2.1.2.2.1, y.1.2.2.1, y.1.2.2.2.1.1, y.1.2.2.2.1.2.1, y.1.2.2.2.2.1, y.1.2.2.2.2.2.1.1, y.1.2.2.2.2.2.1.2.1, y.1.2.2.2.2.2.2.1, y.2.2.2.2.1, y.2.2.2.2.2.2.1, y.2.2.2.2.2.2.2.1)) (fun _ => rfl)
theorem ZjA (k : Nat) (b1_1 : Int) (b1_2 : Int) (o2 : List Int) (b3_0 : Int) (b3_1 : Int) (o4 : List (Int × Int)) (b5_0 : Int) (b5_1 : Int) (o6 : List (Int × Int)) (v7 : Int) (v8 : Int) (v66 : Int) (v67 : Int) : Z4P k b1_1 b1_2 o2 b3_0 b3_1 o4 b5_0 b5_1 o6 v7 v8 v66 v67 = repl 3 (Z22 k b1_1 b1_2 o2 b3_0 b3_1 o4 b5_0 b5_1 o6 v7 v8 v66 v67) := by
 first
 | (simp only [Z4P, Z22, Zy, ZV, Zz, ZA, Zx, Z9, if_true]; done)
 | (simp only [Z4P, Z22, Zy, ZV, Zz, ZA, Zx, Z9, if_true]; simp only [Z4Q, Z4K, Z8t, Z9]; simp only [Zai]; exact Z6s ⟨fun h => by simp only [h, and_self], fun h => by simp only [h, and_self]⟩)
noncomputable def Z1e : Nat → Int → Int → List Int → Int → Int → List (Int × Int) → Int → Int → List (Int × Int) → Int → Int → Int → Option (Int × Int × List Int × Int × Int × List (Int × Int) × Int × Int × List (Int × Int))
 | 0, _, _, _, _, _, _, _, _, _, _, _, _ => none
 | k + 1, b1_1, b1_2, o2, b3_0, b3_1, o4, b5_0, b5_1, o6, v7, v66, v67 =>
  if decide (v67 < v66) = true then if (0 : Int) ≤ v67 then if v67 < (↑(List.length o6) : Int) then Option.bind (Z3K k (Prod.fst (List.getD o6 (Int.toNat v67) ((0 : Int), (0 : Int))), Prod.snd (List.getD o6 (Int.toNat v67) ((0 : Int), (0 : Int))))) fun z19 => if z19 = true then if decide (wrap64 (v7 + 1) > 5) = true then Option.bind (Z22 k b1_1 b1_2 o2 b3_0 b3_1 o4 b5_0 b5_1 o6 (wrap64 (v7 + 1)) v67 v66 v67) fun z24 => Z1e k z24.1 z24.2.1 z24.2.2.1 z24.2.2.2.1 z24.2.2.2.2.1 z24.2.2.2.2.2.1 z24.2.2.2.2.2.2.1 z24.2.2.2.2.2.2.2.1 z24.2.2.2.2.2.2.2.2.1 z24.2.2.2.2.2.2.2.2.2.1 z24.2.2.2.2.2.2.2.2.2.2.1 (wrap64 (z24.2.2.2.2.2.2.2.2.2.2.2 + 1)) else Z1e k b1_1 b1_2 o2 b3_0 b3_1 o4 b5_0 b5_1 o6 (wrap64 (v7 + 1)) v66 (wrap64 (v67 + 1)) else Z1e k b1_1 b1_2 o2 b3_0 b3_1 o4 b5_0 b5_1 o6 v7 v66 (wrap64 (v67 + 1)) else none else none else some (b1_1, b1_2, o2, b3_0, b3_1, o4, b5_0, b5_1, o6)
noncomputable def Z9q : Spec := Spec.mk [.ro, O6, Obq, O2, O0, O4, O0] [(0, .at (.ptr 1 0)), (2, .at (.ptr 3 0)), (6, .at (.ptr 5 0)), (7, .at (.int .i64)), (65, .at (.sl 6)), (66, .at (.int .i64)), (67, .at (.int .i64))]
noncomputable def Zlf : Spec := Spec.mk [.ro, O6, Obq, O2, O0, O4, O0] [(2, .at (.ptr 3 0)), (6, .at (.ptr 5 0))]
noncomputable def Z2q : LoopDef (Tup ZF × OutD) := .plain Z9q Zlf (Int × Int × List Int × Int × Int × List (Int × Int) × Int × Int × List (Int × Int)) (fun k x => Z1e k x.1.2.1.2.1 x.1.2.1.2.2.1 x.1.2.2.1 x.1.2.2.2.1.1 x.1.2.2.2.1.2.1 x.1.2.2.2.2.1 x.1.2.2.2.2.2.1.1 x.1.2.2.2.2.2.1.2.1 x.1.2.2.2.2.2.2.1 x.2.2.2.2.1 x.2.2.2.2.2.2.1 x.2.2.2.2.2.2.2.1) (fun z => (((), ((), z.1, z.2.1, ()), z.2.2.1, (z.2.2.2.1, z.2.2.2.2.1, (), ()), z.2.2.2.2.2.1, (z.2.2.2.2.2.2.1, z.2.2.2.2.2.2.2.1, (), ()), z.2.2.2.2.2.2.2.2, ()), ((), (), ()))) (fun y => (y.1.2.1.2.1, y.1.2.1.2.2.1, y.1.2.2.1, y.1.2.2.2.1.1, y.1.2.2.2.1.2.1, y.1.2.2.2.2.1, y.1.2.2.2.2.2.1.1, y.1.2.2.2.2.2.1.2.1, y.1.2.2.2.2.2.2.1)) (fun _ => rfl)
noncomputable def Z86 : Nat → List Int × Int × Int → Option ((Int × Int × List (Int × Int)) × Int × Int)
 | 0, _ => none
 | k + 1, p0 =>
  Option.bind (Z1 k (p0.1, p0.2.1, p0.2.2) (8 : Int)) fun z0 => if decide (z0.1 = 0) = true then Option.bind (Zs k (p0.1, z0.2.1, z0.2.2)) fun z1 => some ((z1.1.1, z1.1.2.1, z1.1.2.2), z1.2.1, z1.2.2) else if decide (z0.1 = 1) = true then Option.bind (Z1 k (p0.1, z0.2.1, z0.2.2) (3 : Int)) fun z2 => if IntKind.wrap IntKind.u64 (wrap64 ((1 : Int) + z2.1)) < 0 then none else Option.bind (Z1 k (p0.1, z2.2.1, z2.2.2) (shlS (1 : Int) (IntKind.wrap IntKind.u64 (wrap64 ((1 : Int) + z2.1))))) fun z3 => Option.bind (Zef k (wrap64 ((1 : Int) + z2.1)) z3.1) fun z4 => some ((z4.1, z4.2.1, z4.2.2), z3.2.1, z3.2.2) else if decide (z0.1 = 2) = true then Option.bind (Z2L k z0.2.1 z0.2.2 p0.1 (0 : Int) (0 : Int) [] (3 : Int) (3 : Int) (List.replicate (Int.toNat (9 : Int)) ((0 : Int), (0 : Int))) (↑(List.length (List.replicate (Int.toNat (9 : Int)) ((0 : Int), (0 : Int)))) : Int) (0 : Int)) fun z9 => Option.bind (ZC k (z9.2.2.1, z9.1, z9.2.1) (3 : Int)) fun z10 => Option.bind (Z8I k z10.2.1 z10.2.2 z9.2.2.1 z9.2.2.2.1 z9.2.2.2.2.1 z9.2.2.2.2.2.1 z9.2.2.2.2.2.2.1 z9.2.2.2.2.2.2.2.1 z9.2.2.2.2.2.2.2.2 !z10.1) fun z15 => some ((z15.2.2.2.2.2.2.1, z15.2.2.2.2.2.2.2.1, z15.2.2.2.2.2.2.2.2), z15.1, z15.2.1) else Option.bind (Z1 k (p0.1, z0.2.1, z0.2.2) (4 : Int)) fun z16 => Option.bind (Z1 k (p0.1, z16.2.1, z16.2.2) (4 : Int)) fun z17 => Option.bind (Z1g k (p0.1, z17.2.1, z17.2.2) (wrap64 ((1 : Int) + z16.1)) (wrap64 ((1 : Int) + z17.1))) fun z18 => Option.bind (Z1e k z18.2.1 z18.2.2 p0.1 (0 : Int) (0 : Int) [] z18.1.1 z18.1.2.1 z18.1.2.2 (0 : Int) (↑(List.length z18.1.2.2) : Int) (0 : Int)) fun z25 => some ((z25.2.2.2.2.2.2.1, z25.2.2.2.2.2.2.2.1, z25.2.2.2.2.2.2.2.2), z25.1, z25.2.1)
noncomputable def Z1G : FnDef := .of Zgz ZF ((Int × Int × List (Int × Int)) × Int × Int) (fun k x => Z86 k x.1) Zf9 ZaW ZkS
noncomputable def ZW : Code := Try.f79.body.getD .skip
noncomputable def Z2 : Ctx (Tup ZF × OutD) := { T := T, G := [(80, Zk.E), (81, Z17.E), (95, Z5a.E), (83, Z1r.E), (82, Z16.E), (96, Z1t.E), (84, ZI.E)], mvs := [], no := 2, n := 88, res := resOf T Zgz ZF Try.f79.results.toList, loops := [(1, Z2B.E), (3, Z2q.E)], regs := [(12, Z1N.E), (15, Z1Q.E), (25, Z1O.E)], conds := [(48, Zg.E)], cuts := [] }
theorem Z2v (k : Nat) : EnvOK Try.prog k Z2.G := (EnvOK.cons (Z2n k) (EnvOK.cons (Zgl k) (EnvOK.cons (ZD3 k) (EnvOK.cons (Zcq k) (EnvOK.cons (Zcg k) (EnvOK.cons (ZbY k) (EnvOK.cons (Z57 k) (EnvOK.nil mixed))))))))
noncomputable def Z8m : Array Oper := (findReg 12 ZW).getD #[]
theorem Zjr (k : Nat) (x : ZcQ.D) : execD Z2.T Z2.G Z2.mvs k Z8m (Z1N.inp.st Z2.n x) (outK Z2 Z1N) = Z4J k x.1.2.1.2.1 x.1.2.1.2.2.1 x.1.2.2.1 x.1.2.2.2.1.1 x.1.2.2.2.1.2.1 x.1.2.2.2.2.1 x.1.2.2.2.2.2.1.1 x.1.2.2.2.2.2.1.2.1 x.1.2.2.2.2.2.2.1 x.2.2.2.2.1 x.2.2.2.2.2.1 x.2.2.2.2.2.2.1 := by kernel_rfl
theorem ZiF (k : Nat) : EOK Try.prog Z2 k Z1N.E (.region 12 Z8m true) := Z8y (D := Z1N) (m := 2) T_ok (Z2v k) (fun x => (Zjr k x).trans (Zj5 k x.1.2.1.2.1 x.1.2.1.2.2.1 x.1.2.2.1 x.1.2.2.2.1.1 x.1.2.2.2.1.2.1 x.1.2.2.2.2.1 x.1.2.2.2.2.2.1.1 x.1.2.2.2.2.2.1.2.1 x.1.2.2.2.2.2.2.1 x.2.2.2.2.1 x.2.2.2.2.2.1 x.2.2.2.2.2.2.1))
noncomputable def Z8s : Array Oper := (findReg 15 ZW).getD #[]
theorem Zjw (k : Nat) (x : ZcT.D) : execD Z2.T Z2.G Z2.mvs k Z8s (Z1Q.inp.st Z2.n x) (outK Z2 Z1Q) = Z4M k x.1.2.1.2.1 x.1.2.1.2.2.1 x.1.2.2.1 x.1.2.2.2.1.1 x.1.2.2.2.1.2.1 x.1.2.2.2.2.1 x.1.2.2.2.2.2.1.1 x.1.2.2.2.2.2.1.2.1 x.1.2.2.2.2.2.2.1 := by kernel_rfl
theorem ZiP (k : Nat) : EOK Try.prog Z2 k Z1Q.E (.region 15 Z8s true) := Z8y (D := Z1Q) (m := 2) T_ok (Z2v k) (fun x => (Zjw k x).trans (Zjc k x.1.2.1.2.1 x.1.2.1.2.2.1 x.1.2.2.1 x.1.2.2.2.1.1 x.1.2.2.2.1.2.1 x.1.2.2.2.2.1 x.1.2.2.2.2.2.1.1 x.1.2.2.2.2.2.1.2.1 x.1.2.2.2.2.2.2.1))
noncomputable def Z8n : Array Oper := (findReg 25 ZW).getD #[]
theorem Zjo (k : Nat) (x : ZcP.D) : execD Z2.T Z2.G Z2.mvs k Z8n (Z1O.inp.st Z2.n x) (outK Z2 Z1O) = Z4P k x.1.2.1.2.1 x.1.2.1.2.2.1 x.1.2.2.1 x.1.2.2.2.1.1 x.1.2.2.2.1.2.1 x.1.2.2.2.2.1 x.1.2.2.2.2.2.1.1 x.1.2.2.2.2.2.1.2.1 x.1.2.2.2.2.2.2.1 x.2.2.2.2.1 x.2.2.2.2.2.1 x.2.2.2.2.2.2.2.1 x.2.2.2.2.2.2.2.2.1 := by kernel_rfl
theorem ZiC (k : Nat) : EOK Try.prog Z2 k Z1O.E (.region 25 Z8n true) := Z8y (D := Z1O) (m := 3) T_ok (Z2v k) (fun x => (Zjo k x).trans (ZjA k x.1.2.1.2.1 x.1.2.1.2.2.1 x.1.2.2.1 x.1.2.2.2.1.1 x.1.2.2.2.1.2.1 x.1.2.2.2.2.1 x.1.2.2.2.2.2.1.1 x.1.2.2.2.2.2.1.2.1 x.1.2.2.2.2.2.2.1 x.2.2.2.2.1 x.2.2.2.2.2.1 x.2.2.2.2.2.2.2.1 x.2.2.2.2.2.2.2.2.1))
noncomputable def Z5P : Code := (findLoop 1 ZW).getD .skip
theorem ZlJ (k : Nat) (x : Z9l.D) : Z2B.lp (k + 1) x = loopK Z2 Z2B 1 Z5P k x := by kernel_rfl
theorem Zm7 (k : Nat) : LOK Try.prog Z2 k Z5P := LOK.by [(Z1N.E, .region 12 Z8m true)] (by kernel_rfl) (AllOK.cons (ZiF k) AllOK.nil)
theorem ZlM (x : Z9l.D) : Z2B.lp 0 x = none := by kernel_rfl
theorem ZkF (k : Nat) : EOK Try.prog Z2 k Z2B.E (.block 1 (.loop Z5P)) := Z4 T_ok Z2v ZlM ZlJ Zm7 k
noncomputable def Z4L : Code := ((findCond 48 ZW).map (·.1)).getD .skip
noncomputable def Z4I : Code := ((findCond 48 ZW).map (·.2)).getD .skip
theorem Zjl (k : Nat) (i : Zg.inp.D) : Zg.lp k i = branch (Zg.inp.st Z2.n i) (.tmp 48) (fun st => exec Z2 k Z4L st (outK Z2 Zg) (fun _ _ => none) Zg.mkB) (fun st => exec Z2 k Z4I st (outK Z2 Zg) (fun _ _ => none) Zg.mkB) := by kernel_rfl
theorem Zix (k : Nat) : EOK Try.prog Z2 k Zg.E (.cond (.tmp 48) Z4L Z4I) := ZqA (D := Zg) T_ok (Z2v k) (Zjl k) (@LOK.by _ _ _ _ Z4L [(Z1Q.E, .region 15 Z8s true)] (by kernel_rfl) (AllOK.cons (ZiP k) AllOK.nil)) (@LOK.by _ _ _ _ Z4I [] (by kernel_rfl) AllOK.nil)
noncomputable def Z5z : Code := (findLoop 3 ZW).getD .skip
theorem Zm9 (k : Nat) (x : Z9q.D) : Z2q.lp (k + 1) x = loopK Z2 Z2q 3 Z5z k x := by kernel_rfl
theorem Zm1 (k : Nat) : LOK Try.prog Z2 k Z5z := LOK.by [(Z1O.E, .region 25 Z8n true)] (by kernel_rfl) (AllOK.cons (ZiC k) AllOK.nil)
theorem Zlg (x : Z9q.D) : Z2q.lp 0 x = none := by kernel_rfl
theorem Zkk (k : Nat) : EOK Try.prog Z2 k Z2q.E (.block 3 (.loop Z5z)) := Z4 T_ok Z2v Zlg Zm9 Zm1 k
theorem Zqj (k : Nat) (x : Tup Z1G.ps) : Z1G.f (k + 1) x = fnK Z1G Z2 ZW k x := by kernel_rfl
theorem Zri (x : Tup Z1G.ps) : Z1G.f 0 x = none := by kernel_rfl
theorem Zqd (k : Nat) : LOK Try.prog Z2 k ZW := LOK.by [(Z2B.E, .block 1 (.loop Z5P)), (Zg.E, .cond (.tmp 48) Z4L Z4I), (Z2q.E, .block 3 (.loop Z5z))] (by kernel_rfl) (AllOK.cons (ZkF k) (AllOK.cons (Zix k) (AllOK.cons (Zkk k) AllOK.nil)))
theorem Zrq (k : Nat) : SoundAt Try.prog k 79 Z1G.E := @Z5 Try.prog Z1G Z2 79 Try.f79 ZW (by kernel_rfl) (by kernel_rfl) (by kernel_rfl) Try.func79 (by kernel_rfl) (by kernel_rfl) (by kernel_rfl) T_ok Z2v Zqd Zri Zqj k
end
end
end Go.Proofs.Ytkbikniinjalbaa.Vs
