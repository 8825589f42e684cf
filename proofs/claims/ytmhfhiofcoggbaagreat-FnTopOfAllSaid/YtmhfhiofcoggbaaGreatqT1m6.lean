/- The proof, part 7. -/
import Derived.Test.YtmhfhiofcoggbaaGreatqT1m5
set_option maxRecDepth 100000
set_option maxHeartbeats 2000000
set_option linter.unusedVariables false
set_option linter.unusedSimpArgs false
namespace Go.Proofs.YtmhfhiofcoggbaaGreat.Vs
open Go.RowKit
noncomputable section
noncomputable def ZcP : List PK := [PK.mk .bool false none false none]
noncomputable def Ztl : List PK := [PK.mk (.pair I6 (.slice 3 I6)) true none false none, PK.mk (.pair I6 (.slice 3 I6)) true none false none]
noncomputable def Zqc (r : Bool) : Tup ZcP × OutD := ((r, ()), none)
noncomputable def ZqA : Tup ZcP × OutD → Option (Bool)
 | (a, none) => some (a.1)
 | _ => none
theorem Zyr : ∀ b r, ZqA b = some r → Zqc r = b := by
 rintro ⟨a, _ | _⟩ r h <;> cases h; rfl
noncomputable def Zg3 : Nat → Int × List Int → Int × List Int → Option Bool
 | 0, _, _ => none
 | k + 1, p0, p1 =>
  if decide (p0.1 = p1.1) = true then Option.bind (Zeb k p0.2 p1.2) fun z0 => some z0 else some false
noncomputable def Z5C : FnDef := .of Ztl ZcP (Bool) (fun k x => Zg3 k x.1 x.2.1) Zqc ZqA Zyr
noncomputable def ZkC : Code := Tryz.f10.body.getD .skip
noncomputable def Zgi : Ctx (Tup ZcP × OutD) := { T := T, G := [(19, Z59.E)], mvs := [], no := 0, n := 17, res := resOf T Ztl ZcP Tryz.f10.results.toList, loops := [], regs := [], conds := [], cuts := [] }
theorem ZHc (k : Nat) : EnvOK Tryz.prog k Zgi.G := (EnvOK.cons (Zxj k) (EnvOK.nil mixed))
theorem ZHz (k : Nat) (x : Tup Z5C.ps) : Z5C.f (k + 1) x = fnK Z5C Zgi ZkC k x := by kernel_rfl
theorem ZHA (x : Tup Z5C.ps) : Z5C.f 0 x = none := by kernel_rfl
theorem ZHO (k : Nat) : LOK Tryz.prog Zgi k ZkC := LOK.by [] (by kernel_rfl) AllOK.nil
theorem ZGe (k : Nat) : SoundAt Tryz.prog k 10 Z5C.E := @Z0 Tryz.prog Z5C Zgi 10 Tryz.f10 ZkC (by kernel_rfl) (by kernel_rfl) (by kernel_rfl) Tryz.func10 (by kernel_rfl) (by kernel_rfl) (by kernel_rfl) T_ok ZHc ZHO ZHA ZHz k
noncomputable def ZbK : List PK := [PK.mk .bool false none false none]
noncomputable def Zrf : List PK := [PK.mk (.pair I6 (.slice 3 I6)) true none false none]
noncomputable def ZnA (r : Bool) : Tup ZbK × OutD := ((r, ()), none)
noncomputable def ZnH : Tup ZbK × OutD → Option (Bool)
 | (a, none) => some (a.1)
 | _ => none
theorem ZwY : ∀ b r, ZnH b = some r → ZnA r = b := by
 rintro ⟨a, _ | _⟩ r h <;> cases h; rfl
noncomputable def ZbA : Nat → Int × List Int → Option Bool
 | 0, _ => none
 | k + 1, p0 =>
  if decide (p0.1 ≥ 0) = true then if decide (p0.1 ≤ 4) = true then if p0.1 < 0 then none else if decide ((↑(List.length p0.2) : Int) = shlS (1 : Int) p0.1) = true then Option.bind (ZeB k p0.2) fun z0 => some z0 else some false else some false else some false
noncomputable def Z3o : FnDef := .of Zrf ZbK (Bool) (fun k x => ZbA k x.1) ZnA ZnH ZwY
noncomputable def Zjh : Code := Tryz.f30.body.getD .skip
noncomputable def Zes : Ctx (Tup ZbK × OutD) := { T := T, G := [(63, Z4S.E)], mvs := [], no := 0, n := 25, res := resOf T Zrf ZbK Tryz.f30.results.toList, loops := [], regs := [], conds := [], cuts := [] }
theorem ZEZ (k : Nat) : EnvOK Tryz.prog k Zes.G := (EnvOK.cons (ZFI k) (EnvOK.nil mixed))
theorem ZEh (k : Nat) (x : Tup Z3o.ps) : Z3o.f (k + 1) x = fnK Z3o Zes Zjh k x := by kernel_rfl
theorem ZFG (x : Tup Z3o.ps) : Z3o.f 0 x = none := by kernel_rfl
theorem ZEW (k : Nat) : LOK Tryz.prog Zes k Zjh := LOK.by [] (by kernel_rfl) AllOK.nil
theorem ZqK (k : Nat) : SoundAt Tryz.prog k 30 Z3o.E := @Z0 Tryz.prog Z3o Zes 30 Tryz.f30 Zjh (by kernel_rfl) (by kernel_rfl) (by kernel_rfl) Tryz.func30 (by kernel_rfl) (by kernel_rfl) (by kernel_rfl) T_ok ZEZ ZEW ZFG ZEh k
noncomputable def Z1B : List PK := [PK.mk (.pair I6 (.pair I6 (.slice 76 P6))) true none false none, PK.mk I6 false none false none, PK.mk (.slice 3 I6) false none false none]
noncomputable def Ziv : List PK := [PK.mk (.pair I6 (.slice 3 I6)) true none false none]
noncomputable def Zih (r : (Int × Int × List (Int × Int)) × Int × List Int) : Tup Z1B × OutD := ((r.1, r.2.1, r.2.2, ()), none)
noncomputable def ZhB : Tup Z1B × OutD → Option ((Int × Int × List (Int × Int)) × Int × List Int)
 | (a, none) => some (a.1, a.2.1, a.2.2.1)
 | _ => none
theorem Zn8 : ∀ b r, ZhB b = some r → Zih r = b := by
 rintro ⟨a, _ | _⟩ r h <;> cases h; rfl
noncomputable def ZbM : Nat → Int → Int → List (Int × Int) → List Int → List Int → Int → Int → Int → Option (Int × Int × List (Int × Int) × List Int × List Int × Int)
 | 0, _, _, _, _, _, _, _, _ => none
 | k + 1, b1_0, b1_1, o2, o3, o4, v7, v20, v21 =>
  if decide (v21 < v20) = true then if (0 : Int) ≤ v21 then if v21 < (↑(List.length o3) : Int) then if List.length o4 + List.length [v21] ≤ (140737488355328 / 8 : Nat) then ZbM k b1_0 b1_1 o2 o3 (o4 ++ [v21]) (wrap64 (v7 + wrap64 ((1 : Int) - List.getD o3 (Int.toNat v21) (0 : Int)))) v20 (wrap64 (v21 + 1)) else none else none else none else some (b1_0, b1_1, o2, o3, o4, v7)
noncomputable def ZaS : Spec := Spec.mk [.ro, O7, O2, O4, O4] [(2, .at (.ptr 1 0)), (5, .at (.sl 3)), (6, .at (.sl 4)), (7, .at (.int .i64)), (19, .at (.sl 3)), (20, .at (.int .i64)), (21, .at (.int .i64))]
noncomputable def Zpr : Spec := Spec.mk [.ro, O7, O2, O4, O4] [(2, .at (.ptr 1 0)), (5, .at (.sl 3)), (6, .at (.sl 4)), (7, .at (.int .i64))]
noncomputable def Z2o : LoopDef (Tup Z1B × OutD) := .plain ZaS Zpr (Int × Int × List (Int × Int) × List Int × List Int × Int) (fun k x => ZbM k x.1.2.1.1 x.1.2.1.2.1 x.1.2.2.1 x.1.2.2.2.1 x.1.2.2.2.2.1 x.2.2.2.2.1 x.2.2.2.2.2.2.1 x.2.2.2.2.2.2.2.1) (fun z => (((), (z.1, z.2.1, (), ()), z.2.2.1, z.2.2.2.1, z.2.2.2.2.1, ()), ((), (), (), z.2.2.2.2.2, ()))) (fun y => (y.1.2.1.1, y.1.2.1.2.1, y.1.2.2.1, y.1.2.2.2.1, y.1.2.2.2.2.1, y.2.2.2.2.1)) (fun _ => rfl)
noncomputable def Z2S : Nat → Int → Int → List (Int × Int) → List Int → List Int → Int → Int → List (Int × Int) → List (Int × Int) → Int → Int → Int → Option (Int × Int × List (Int × Int) × List Int × List Int × Int × Int × List (Int × Int) × List (Int × Int) × Int × Int)
 | 0, _, _, _, _, _, _, _, _, _, _, _, _ => none
 | k + 1, b1_0, b1_1, o2, o3, o4, b5_0, b5_1, o6, o7, v7, v11, v13 =>
  if decide (wrap64 (v13 + 1) < (↑(List.length o3) : Int)) = true then if (0 : Int) ≤ v13 then if v13 < (↑(List.length o3) : Int) then if decide (List.getD o3 (Int.toNat v13) (0 : Int) = 1) = true then if (0 : Int) ≤ wrap64 (v13 + 1) then if wrap64 (v13 + 1) < (↑(List.length o3) : Int) then if decide (List.getD o3 (Int.toNat (wrap64 (v13 + 1))) (0 : Int) = 0) = true then if (0 : Int) ≤ v13 then if v13 < (↑(List.length o7) : Int) then if (0 : Int) ≤ wrap64 (v13 + 1) then if wrap64 (v13 + 1) < (↑(List.length (List.set o7 (Int.toNat v13) ((2 : Int), (0 : Int)))) : Int) then if (0 : Int) ≤ v13 then if v13 < (↑(List.length o3) : Int) then if (0 : Int) ≤ wrap64 (v13 + 1) then if wrap64 (v13 + 1) < (↑(List.length (List.set o3 (Int.toNat v13) (0 : Int))) : Int) then if (0 : Int) ≤ wrap64 (v13 + 1) then if wrap64 (v13 + 1) < (↑(List.length o4) : Int) then if (0 : Int) ≤ v13 then if v13 < (↑(List.length o4) : Int) then if (0 : Int) ≤ v13 then if v13 < (↑(List.length o4) : Int) then if (0 : Int) ≤ wrap64 (v13 + 1) then if wrap64 (v13 + 1) < (↑(List.length (List.set o4 (Int.toNat v13) (List.getD o4 (Int.toNat (wrap64 (v13 + 1))) (0 : Int)))) : Int) then Z2S k b1_0 b1_1 o2 (List.set (List.set o3 (Int.toNat v13) (0 : Int)) (Int.toNat (wrap64 (v13 + 1))) (1 : Int)) (List.set (List.set o4 (Int.toNat v13) (List.getD o4 (Int.toNat (wrap64 (v13 + 1))) (0 : Int))) (Int.toNat (wrap64 (v13 + 1))) (List.getD o4 (Int.toNat v13) (0 : Int))) b5_0 b5_1 o6 (List.set (List.set o7 (Int.toNat v13) ((2 : Int), (0 : Int))) (Int.toNat (wrap64 (v13 + 1))) ((1 : Int), (0 : Int))) v7 v11 (wrap64 (v13 + 2)) else none else none else none else none else none else none else none else none else none else none else none else none else none else none else none else none else Z2S k b1_0 b1_1 o2 o3 o4 b5_0 b5_1 o6 o7 v7 v11 (wrap64 (v13 + 2)) else none else none else Z2S k b1_0 b1_1 o2 o3 o4 b5_0 b5_1 o6 o7 v7 v11 (wrap64 (v13 + 2)) else none else none else some (b1_0, b1_1, o2, o3, o4, b5_0, b5_1, o6, o7, v7, v11)
noncomputable def ZaJ : Spec := Spec.mk [.ro, O7, O2, O4, O4, O8, O2, O2] [(2, .at (.ptr 1 0)), (5, .at (.sl 3)), (6, .at (.sl 4)), (7, .at (.int .i64)), (10, .at (.ptr 5 0)), (11, .at (.int .i64)), (12, .at (.sl 7)), (13, .at (.int .i64))]
noncomputable def Zox : Spec := Spec.mk [.ro, O7, O2, O4, O4, O8, O2, O2] [(2, .at (.ptr 1 0)), (5, .at (.sl 3)), (6, .at (.sl 4)), (7, .at (.int .i64)), (10, .at (.ptr 5 0)), (11, .at (.int .i64)), (12, .at (.sl 7))]
noncomputable def Z2l : LoopDef (Tup Z1B × OutD) := .plain ZaJ Zox (Int × Int × List (Int × Int) × List Int × List Int × Int × Int × List (Int × Int) × List (Int × Int) × Int × Int) (fun k x => Z2S k x.1.2.1.1 x.1.2.1.2.1 x.1.2.2.1 x.1.2.2.2.1 x.1.2.2.2.2.1 x.1.2.2.2.2.2.1.1 x.1.2.2.2.2.2.1.2.1 x.1.2.2.2.2.2.2.1 x.1.2.2.2.2.2.2.2.1 x.2.2.2.2.1 x.2.2.2.2.2.2.1 x.2.2.2.2.2.2.2.2.1) (fun z => (((), (z.1, z.2.1, (), ()), z.2.2.1, z.2.2.2.1, z.2.2.2.2.1, (z.2.2.2.2.2.1, z.2.2.2.2.2.2.1, (), ()), z.2.2.2.2.2.2.2.1, z.2.2.2.2.2.2.2.2.1, ()), ((), (), (), z.2.2.2.2.2.2.2.2.2.1, (), z.2.2.2.2.2.2.2.2.2.2, (), ()))) (fun y => (y.1.2.1.1, y.1.2.1.2.1, y.1.2.2.1, y.1.2.2.2.1, y.1.2.2.2.2.1, y.1.2.2.2.2.2.1.1, y.1.2.2.2.2.2.1.2.1, y.1.2.2.2.2.2.2.1, y.1.2.2.2.2.2.2.2.1, y.2.2.2.2.1, y.2.2.2.2.2.2.1)) (fun _ => rfl)
noncomputable def Z7K : Nat → Int → Int → List (Int × Int) → List Int → List Int → Int → Int → List (Int × Int) → Int → Int → Option (Int × Int × List (Int × Int) × List Int × Int × Int × List (Int × Int) × Int)
 | 0, _, _, _, _, _, _, _, _, _, _ => none
 | k + 1, b1_0, b1_1, o2, o3, o4, b5_0, b5_1, o6, v7, v11 =>
  if decide (v11 = 0) = true then if Int.toNat (↑(List.length o3) : Int) * (16 : Nat) ≤ (281474976710656 : Nat) then Option.bind (Z2S k b1_0 b1_1 o2 o3 o4 b5_0 b5_1 o6 (List.replicate (Int.toNat (↑(List.length o3) : Int)) ((0 : Int), (0 : Int))) v7 v11 (Int.tmod v11 (2 : Int))) fun z1 => if List.length z1.2.2.2.2.2.2.2.1 + List.length z1.2.2.2.2.2.2.2.2.1 ≤ (140737488355328 / 16 : Nat) then Z7K k z1.1 z1.2.1 z1.2.2.1 z1.2.2.2.1 z1.2.2.2.2.1 (wrap64 (z1.2.2.2.2.2.1 + 1)) z1.2.2.2.2.2.2.1 (z1.2.2.2.2.2.2.2.1 ++ z1.2.2.2.2.2.2.2.2.1) z1.2.2.2.2.2.2.2.2.2.1 (wrap64 (z1.2.2.2.2.2.2.2.2.2.2 + 1)) else none else none else Option.bind (ZnT k o3) fun z2 => if (!z2) = true then if Int.toNat (↑(List.length o3) : Int) * (16 : Nat) ≤ (281474976710656 : Nat) then Option.bind (Z2S k b1_0 b1_1 o2 o3 o4 b5_0 b5_1 o6 (List.replicate (Int.toNat (↑(List.length o3) : Int)) ((0 : Int), (0 : Int))) v7 v11 (Int.tmod v11 (2 : Int))) fun z3 => if List.length z3.2.2.2.2.2.2.2.1 + List.length z3.2.2.2.2.2.2.2.2.1 ≤ (140737488355328 / 16 : Nat) then Z7K k z3.1 z3.2.1 z3.2.2.1 z3.2.2.2.1 z3.2.2.2.2.1 (wrap64 (z3.2.2.2.2.2.1 + 1)) z3.2.2.2.2.2.2.1 (z3.2.2.2.2.2.2.2.1 ++ z3.2.2.2.2.2.2.2.2.1) z3.2.2.2.2.2.2.2.2.2.1 (wrap64 (z3.2.2.2.2.2.2.2.2.2.2 + 1)) else none else none else some (b1_0, b1_1, o2, o4, b5_0, b5_1, o6, v7)
noncomputable def ZaO : Spec := Spec.mk [.ro, O7, O2, O4, O4, O8, O2] [(2, .at (.ptr 1 0)), (5, .at (.sl 3)), (6, .at (.sl 4)), (7, .at (.int .i64)), (10, .at (.ptr 5 0)), (11, .at (.int .i64))]
noncomputable def Zpw : Spec := Spec.mk [.ro, O7, O2, O4, O9, O2] [(2, .at (.ptr 1 0)), (6, .at (.sl 3)), (7, .at (.int .i64)), (10, .at (.ptr 4 0))]
noncomputable def Z2t : LoopDef (Tup Z1B × OutD) := .plain ZaO Zpw (Int × Int × List (Int × Int) × List Int × Int × Int × List (Int × Int) × Int) (fun k x => Z7K k x.1.2.1.1 x.1.2.1.2.1 x.1.2.2.1 x.1.2.2.2.1 x.1.2.2.2.2.1 x.1.2.2.2.2.2.1.1 x.1.2.2.2.2.2.1.2.1 x.1.2.2.2.2.2.2.1 x.2.2.2.2.1 x.2.2.2.2.2.2.1) (fun z => (((), (z.1, z.2.1, (), ()), z.2.2.1, z.2.2.2.1, (z.2.2.2.2.1, z.2.2.2.2.2.1, (), ()), z.2.2.2.2.2.2.1, ()), ((), (), z.2.2.2.2.2.2.2, (), ()))) (fun y => (y.1.2.1.1, y.1.2.1.2.1, y.1.2.2.1, y.1.2.2.2.1, y.1.2.2.2.2.1.1, y.1.2.2.2.2.1.2.1, y.1.2.2.2.2.2.1, y.2.2.2.1)) (fun _ => rfl)
noncomputable def Z41 : Nat → Int × List Int → Option ((Int × Int × List (Int × Int)) × Int × List Int)
 | 0, _ => none
 | k + 1, p0 =>
  if (0 : Nat) + List.length p0.2 ≤ (140737488355328 / 8 : Nat) then Option.bind (ZbM k (0 : Int) (0 : Int) [] p0.2 [] (0 : Int) (↑(List.length p0.2) : Int) (0 : Int)) fun z0 => Option.bind (Z7K k z0.1 z0.2.1 z0.2.2.1 z0.2.2.2.1 z0.2.2.2.2.1 (0 : Int) (↑(List.length z0.2.2.2.1) : Int) [] z0.2.2.2.2.2 (0 : Int)) fun z4 => some ((z4.2.2.2.2.1, z4.2.2.2.2.2.1, z4.2.2.2.2.2.2.1), z4.2.2.2.2.2.2.2, z4.2.2.2.1) else none
noncomputable def Z1G : FnDef := .of Ziv Z1B ((Int × Int × List (Int × Int)) × Int × List Int) (fun k x => Z41 k x.1) Zih ZhB Zn8
noncomputable def Z47 : Code := Tryz.f31.body.getD .skip
noncomputable def Zp : Ctx (Tup Z1B × OutD) := { T := T, G := [(64, Z3S.E)], mvs := [], no := 0, n := 116, res := resOf T Ziv Z1B Tryz.f31.results.toList, loops := [(0, Z2o.E), (4, Z2l.E), (2, Z2t.E)], regs := [], conds := [], cuts := [] }
theorem Z9G (k : Nat) : EnvOK Tryz.prog k Zp.G := (EnvOK.cons (ZD4 k) (EnvOK.nil mixed))
noncomputable def Z7c : Code := (findLoop 0 Z47).getD .skip
theorem Zpj (k : Nat) (x : ZaS.D) : Z2o.lp (k + 1) x = loopK Zp Z2o 0 Z7c k x := by kernel_rfl
theorem ZoQ (k : Nat) : LOK Tryz.prog Zp k Z7c := LOK.by [] (by kernel_rfl) AllOK.nil
theorem Zpt (x : ZaS.D) : Z2o.lp 0 x = none := by kernel_rfl
theorem Zn6 (k : Nat) : EOK Tryz.prog Zp k Z2o.E (.block 0 (.loop Z7c)) := Z2 T_ok Z9G Zpt Zpj ZoQ k
noncomputable def Z70 : Code := (findLoop 4 Z47).getD .skip
theorem ZoS (k : Nat) (x : ZaJ.D) : Z2l.lp (k + 1) x = loopK Zp Z2l 4 Z70 k x := by kernel_rfl
theorem Zps (k : Nat) : LOK Tryz.prog Zp k Z70 := LOK.by [] (by kernel_rfl) AllOK.nil
theorem ZoG (x : ZaJ.D) : Z2l.lp 0 x = none := by kernel_rfl
theorem Znj (k : Nat) : EOK Tryz.prog Zp k Z2l.E (.block 4 (.loop Z70)) := Z2 T_ok Z9G ZoG ZoS Zps k
noncomputable def Z7d : Code := (findLoop 2 Z47).getD .skip
theorem Zpb (k : Nat) (x : ZaO.D) : Z2t.lp (k + 1) x = loopK Zp Z2t 2 Z7d k x := by kernel_rfl
theorem ZoV (k : Nat) : LOK Tryz.prog Zp k Z7d := LOK.by [(Z2l.E, .block 4 (.loop Z70))] (by kernel_rfl) (AllOK.cons (Znj k) AllOK.nil)
theorem ZoD (x : ZaO.D) : Z2t.lp 0 x = none := by kernel_rfl
theorem ZmW (k : Nat) : EOK Tryz.prog Zp k Z2t.E (.block 2 (.loop Z7d)) := Z2 T_ok Z9G ZoD Zpb ZoV k
theorem Zvh (k : Nat) (x : Tup Z1G.ps) : Z1G.f (k + 1) x = fnK Z1G Zp Z47 k x := by kernel_rfl
theorem Zut (x : Tup Z1G.ps) : Z1G.f 0 x = none := by kernel_rfl
theorem Zv0 (k : Nat) : LOK Tryz.prog Zp k Z47 := LOK.by [(Z2o.E, .block 0 (.loop Z7c)), (Z2t.E, .block 2 (.loop Z7d))] (by kernel_rfl) (AllOK.cons (Zn6 k) (AllOK.cons (ZmW k) AllOK.nil))
theorem ZvB (k : Nat) : SoundAt Tryz.prog k 31 Z1G.E := @Z0 Tryz.prog Z1G Zp 31 Tryz.f31 Z47 (by kernel_rfl) (by kernel_rfl) (by kernel_rfl) Tryz.func31 (by kernel_rfl) (by kernel_rfl) (by kernel_rfl) T_ok Z9G Zv0 Zut Zvh k
noncomputable def ZbU : List PK := [PK.mk I6 false none false none]
noncomputable def Zq8 : List PK := [PK.mk (.pair I6 (.slice 3 I6)) true none false none]
noncomputable def Zoc (r : Int) : Tup ZbU × OutD := ((r, ()), none)
noncomputable def Zop : Tup ZbU × OutD → Option (Int)
 | (a, none) => some (a.1)
 | _ => none
theorem ZxA : ∀ b r, Zop b = some r → Zoc r = b := by
 rintro ⟨a, _ | _⟩ r h <;> cases h; rfl
noncomputable def ZbS : Nat → Int × List Int → Option Int
 | 0, _ => none
 | k + 1, p0 =>
  Option.bind (ZtX k (p0.1, p0.2)) fun z0 => some (wrap64 ((↑(List.length p0.2) : Int) - (↑(List.length z0) : Int)))
noncomputable def Z4U : FnDef := .of Zq8 ZbU (Int) (fun k x => ZbS k x.1) Zoc Zop ZxA
noncomputable def Zj9 : Code := Tryz.f34.body.getD .skip
noncomputable def ZeO : Ctx (Tup ZbU × OutD) := { T := T, G := [(67, Z5E.E)], mvs := [], no := 0, n := 10, res := resOf T Zq8 ZbU Tryz.f34.results.toList, loops := [], regs := [], conds := [], cuts := [] }
theorem ZEa (k : Nat) : EnvOK Tryz.prog k ZeO.G := (EnvOK.cons (ZHg k) (EnvOK.nil mixed))
theorem ZE8 (k : Nat) (x : Tup Z4U.ps) : Z4U.f (k + 1) x = fnK Z4U ZeO Zj9 k x := by kernel_rfl
theorem ZEM (x : Tup Z4U.ps) : Z4U.f 0 x = none := by kernel_rfl
theorem ZEb (k : Nat) : LOK Tryz.prog ZeO k Zj9 := LOK.by [] (by kernel_rfl) AllOK.nil
theorem ZE5 (k : Nat) : SoundAt Tryz.prog k 34 Z4U.E := @Z0 Tryz.prog Z4U ZeO 34 Tryz.f34 Zj9 (by kernel_rfl) (by kernel_rfl) (by kernel_rfl) Tryz.func34 (by kernel_rfl) (by kernel_rfl) (by kernel_rfl) T_ok ZEa ZEb ZEM ZE8 k
noncomputable def Z18 : List PK := [PK.mk (.slice 3 I6) false none false none]
noncomputable def Ziy : List PK := [PK.mk (.pair I6 (.pair I6 (.slice 76 P6))) true none false none]
noncomputable def ZhK (r : List Int) : Tup Z18 × OutD := ((r, ()), none)
noncomputable def Zig : Tup Z18 × OutD → Option (List Int)
 | (a, none) => some (a.1)
 | _ => none
theorem Znf : ∀ b r, Zig b = some r → ZhK r = b := by
 rintro ⟨a, _ | _⟩ r h <;> cases h; rfl
noncomputable def Z2V : Nat → Int → Int → List (Int × Int) → List Int → Int → Int → Option (Int × Int × List (Int × Int) × List Int)
 | 0, _, _, _, _, _, _ => none
 | k + 1, b1_0, b1_1, b1_2, o2, v17, v18 =>
  if decide (v18 < v17) = true then if (0 : Int) ≤ v18 then if v18 < (↑(List.length o2) : Int) then Z2V k b1_0 b1_1 b1_2 (List.set o2 (Int.toNat v18) (-1 : Int)) v17 (wrap64 (v18 + 1)) else none else none else some (b1_0, b1_1, b1_2, o2)
noncomputable def ZaI : Spec := Spec.mk [.ro, O0, O4] [(1, .at (.ptr 1 0)), (3, .at (.sl 2)), (17, .at (.int .i64)), (18, .at (.int .i64))]
noncomputable def ZpH : Spec := Spec.mk [.ro, O0, O4] [(1, .at (.ptr 1 0)), (3, .at (.sl 2))]
noncomputable def Z2u : LoopDef (Tup Z18 × OutD) := .plain ZaI ZpH (Int × Int × List (Int × Int) × List Int) (fun k x => Z2V k x.1.2.1.1 x.1.2.1.2.1 x.1.2.1.2.2.1 x.1.2.2.1 x.2.2.2.1 x.2.2.2.2.1) (fun z => (((), (z.1, z.2.1, z.2.2.1, ()), z.2.2.2, ()), ((), (), ()))) (fun y => (y.1.2.1.1, y.1.2.1.2.1, y.1.2.1.2.2.1, y.1.2.2.1)) (fun _ => rfl)
noncomputable def Z1a : Nat → Int → Int → List (Int × Int) → List Int → List Int → List Int → Int → List (Int × Int) → Int → Int → Int → Int → Option (Int × Int × List (Int × Int) × List Int × List Int × Int × List (Int × Int) × Int × Int)
 | 0, _, _, _, _, _, _, _, _, _, _, _, _ => none
 | k + 1, b1_0, b1_1, b1_2, o2, o3, o4, v5, v26, v27, v28, v60, v61 =>
  if decide (v61 < v60) = true then if (0 : Int) ≤ v61 then if v61 < (↑(List.length o4) : Int) then if (0 : Int) ≤ List.getD o4 (Int.toNat v61) (0 : Int) then if List.getD o4 (Int.toNat v61) (0 : Int) < (↑(List.length b1_2) : Int) then Option.bind (Zas k (Prod.fst (List.getD b1_2 (Int.toNat (List.getD o4 (Int.toNat v61) (0 : Int))) ((0 : Int), (0 : Int))), Prod.snd (List.getD b1_2 (Int.toNat (List.getD o4 (Int.toNat v61) (0 : Int))) ((0 : Int), (0 : Int))))) fun z3 => if z3 = true then if (0 : Int) ≤ List.getD o4 (Int.toNat v61) (0 : Int) then if List.getD o4 (Int.toNat v61) (0 : Int) < (↑(List.length o2) : Int) then if decide (List.getD o2 (Int.toNat (List.getD o4 (Int.toNat v61) (0 : Int))) (0 : Int) < 0) = true then if (0 : Int) ≤ List.getD o4 (Int.toNat v61) (0 : Int) then if List.getD o4 (Int.toNat v61) (0 : Int) < (↑(List.length o2) : Int) then if List.length o3 + List.length [List.getD o4 (Int.toNat v61) (0 : Int)] ≤ (140737488355328 / 8 : Nat) then Z1a k b1_0 b1_1 b1_2 (List.set o2 (Int.toNat (List.getD o4 (Int.toNat v61) (0 : Int))) v5) (o3 ++ [List.getD o4 (Int.toNat v61) (0 : Int)]) o4 v5 v26 v27 v28 v60 (wrap64 (v61 + 1)) else none else none else none else Z1a k b1_0 b1_1 b1_2 o2 o3 o4 v5 v26 v27 v28 v60 (wrap64 (v61 + 1)) else none else none else Z1a k b1_0 b1_1 b1_2 o2 o3 o4 v5 v26 v27 v28 v60 (wrap64 (v61 + 1)) else none else none else none else none else some (b1_0, b1_1, b1_2, o2, o3, v5, v26, v27, v28)
noncomputable def ZaN : Spec := Spec.mk [.ro, O0, O4, O4, O4] [(1, .at (.ptr 1 0)), (3, .at (.sl 2)), (5, .at (.int .i64)), (8, .at (.sl 3)), (26, .at (.snap 0 P6)), (27, .at (.int .i64)), (28, .at (.int .i64)), (59, .at (.sl 4)), (60, .at (.int .i64)), (61, .at (.int .i64))]
noncomputable def Zp8 : Spec := Spec.mk [.ro, O0, O4, O4] [(1, .at (.ptr 1 0)), (3, .at (.sl 2)), (5, .at (.int .i64)), (8, .at (.sl 3)), (26, .at (.snap 0 P6)), (27, .at (.int .i64)), (28, .at (.int .i64))]
noncomputable def Z2k : LoopDef (Tup Z18 × OutD) := .plain ZaN Zp8 (Int × Int × List (Int × Int) × List Int × List Int × Int × List (Int × Int) × Int × Int) (fun k x => Z1a k x.1.2.1.1 x.1.2.1.2.1 x.1.2.1.2.2.1 x.1.2.2.1 x.1.2.2.2.1 x.1.2.2.2.2.1 x.2.2.2.1 x.2.2.2.2.2.1 x.2.2.2.2.2.2.1 x.2.2.2.2.2.2.2.1 x.2.2.2.2.2.2.2.2.2.1 x.2.2.2.2.2.2.2.2.2.2.1) (fun z => (((), (z.1, z.2.1, z.2.2.1, ()), z.2.2.2.1, z.2.2.2.2.1, ()), ((), (), z.2.2.2.2.2.1, (), z.2.2.2.2.2.2.1, z.2.2.2.2.2.2.2.1, z.2.2.2.2.2.2.2.2, ()))) (fun y => (y.1.2.1.1, y.1.2.1.2.1, y.1.2.1.2.2.1, y.1.2.2.1, y.1.2.2.2.1, y.2.2.2.1, y.2.2.2.2.2.1, y.2.2.2.2.2.2.1, y.2.2.2.2.2.2.2.1)) (fun _ => rfl)
noncomputable def Z1U : Nat → Int → Int → List (Int × Int) → List Int → List Int → Int → List (Int × Int) → Int → Int → Option (Int × Int × List (Int × Int) × List Int × Int × List (Int × Int) × Int × Int)
 | 0, _, _, _, _, _, _, _, _, _ => none
 | k + 1, b1_0, b1_1, b1_2, o2, o3, v5, v26, v27, v28 =>
  if decide ((↑(List.length o3) : Int) > 0) = true then if (0 : Int) < (↑(List.length o3) : Int) then if (1 : Int) ≤ (↑(List.length o3) : Int) then if (↑(List.length o3) : Int) ≤ (↑(List.length o3) : Int) then Option.bind (ZdD k (b1_0, b1_1, b1_2) (List.getD o3 (Int.toNat (0 : Int)) (0 : Int))) fun z2 => Option.bind (Z1a k b1_0 b1_1 b1_2 o2 (List.drop (Int.toNat (1 : Int)) o3) z2 v5 v26 v27 v28 (↑(List.length z2) : Int) (0 : Int)) fun z4 => Z1U k z4.1 z4.2.1 z4.2.2.1 z4.2.2.2.1 z4.2.2.2.2.1 z4.2.2.2.2.2.1 z4.2.2.2.2.2.2.1 z4.2.2.2.2.2.2.2.1 z4.2.2.2.2.2.2.2.2 else none else none else none else some (b1_0, b1_1, b1_2, o2, v5, v26, v27, v28)
noncomputable def ZaW : Spec := Spec.mk [.ro, O0, O4, O4] [(1, .at (.ptr 1 0)), (3, .at (.sl 2)), (5, .at (.int .i64)), (8, .at (.sl 3)), (26, .at (.snap 0 P6)), (27, .at (.int .i64)), (28, .at (.int .i64))]
noncomputable def Zp6 : Spec := Spec.mk [.ro, O0, O4] [(1, .at (.ptr 1 0)), (3, .at (.sl 2)), (5, .at (.int .i64)), (26, .at (.snap 0 P6)), (27, .at (.int .i64)), (28, .at (.int .i64))]
noncomputable def Z2h : LoopDef (Tup Z18 × OutD) := .plain ZaW Zp6 (Int × Int × List (Int × Int) × List Int × Int × List (Int × Int) × Int × Int) (fun k x => Z1U k x.1.2.1.1 x.1.2.1.2.1 x.1.2.1.2.2.1 x.1.2.2.1 x.1.2.2.2.1 x.2.2.2.1 x.2.2.2.2.2.1 x.2.2.2.2.2.2.1 x.2.2.2.2.2.2.2.1) (fun z => (((), (z.1, z.2.1, z.2.2.1, ()), z.2.2.2.1, ()), ((), (), z.2.2.2.2.1, z.2.2.2.2.2.1, z.2.2.2.2.2.2.1, z.2.2.2.2.2.2.2, ()))) (fun y => (y.1.2.1.1, y.1.2.1.2.1, y.1.2.1.2.2.1, y.1.2.2.1, y.2.2.2.1, y.2.2.2.2.1, y.2.2.2.2.2.1, y.2.2.2.2.2.2.1)) (fun _ => rfl)
noncomputable def ZS : Nat → Int → Int → List (Int × Int) → List Int → Int → List (Int × Int) → Int → Int → Option (List Int)
 | 0, _, _, _, _, _, _, _, _ => none
 | k + 1, b1_0, b1_1, b1_2, o2, v5, v26, v27, v28 =>
  if decide (v28 < v27) = true then if (0 : Int) ≤ v28 then if v28 < (↑(List.length v26) : Int) then Option.bind (Zas k (Prod.fst (List.getD v26 (Int.toNat v28) ((0 : Int), (0 : Int))), Prod.snd (List.getD v26 (Int.toNat v28) ((0 : Int), (0 : Int))))) fun z1 => if (!z1) = true then ZS k b1_0 b1_1 b1_2 o2 v5 v26 v27 (wrap64 (v28 + 1)) else if (0 : Int) ≤ v28 then if v28 < (↑(List.length o2) : Int) then if decide (List.getD o2 (Int.toNat v28) (0 : Int) ≥ 0) = true then ZS k b1_0 b1_1 b1_2 o2 v5 v26 v27 (wrap64 (v28 + 1)) else if (0 : Int) ≤ v28 then if v28 < (↑(List.length o2) : Int) then Option.bind (Z1U k b1_0 b1_1 b1_2 (List.set o2 (Int.toNat v28) v5) [v28] v5 v26 v27 v28) fun z5 => ZS k z5.1 z5.2.1 z5.2.2.1 z5.2.2.2.1 (wrap64 (z5.2.2.2.2.1 + 1)) z5.2.2.2.2.2.1 z5.2.2.2.2.2.2.1 (wrap64 (z5.2.2.2.2.2.2.2 + 1)) else none else none else none else none else none else none else some o2
noncomputable def ZaH : Spec := Spec.mk [.ro, O0, O4] [(1, .at (.ptr 1 0)), (3, .at (.sl 2)), (5, .at (.int .i64)), (26, .at (.snap 0 P6)), (27, .at (.int .i64)), (28, .at (.int .i64))]
noncomputable def Zp2 : Spec := Spec.mk [.ro, O4] [(3, .at (.sl 1))]
noncomputable def Z2s : LoopDef (Tup Z18 × OutD) := .plain ZaH Zp2 (List Int) (fun k x => ZS k x.1.2.1.1 x.1.2.1.2.1 x.1.2.1.2.2.1 x.1.2.2.1 x.2.2.2.1 x.2.2.2.2.1 x.2.2.2.2.2.1 x.2.2.2.2.2.2.1) (fun z => (((), z, ()), ((), ()))) (fun y => (y.1.2.1)) (fun _ => rfl)
noncomputable def Z14 : Nat → Int × Int × List (Int × Int) → Option (List Int)
 | 0, _ => none
 | k + 1, p0 =>
  if Int.toNat (↑(List.length p0.2.2) : Int) * (8 : Nat) ≤ (281474976710656 : Nat) then Option.bind (Z2V k p0.1 p0.2.1 p0.2.2 (List.replicate (Int.toNat (↑(List.length p0.2.2) : Int)) (0 : Int)) (↑(List.length (List.replicate (Int.toNat (↑(List.length p0.2.2) : Int)) (0 : Int))) : Int) (0 : Int)) fun z0 => Option.bind (ZS k z0.1 z0.2.1 z0.2.2.1 z0.2.2.2 (0 : Int) z0.2.2.1 (↑(List.length z0.2.2.1) : Int) (0 : Int)) fun z6 => some z6 else none
noncomputable def ZX : FnDef := .of Ziy Z18 (List Int) (fun k x => Z14 k x.1) ZhK Zig Znf
noncomputable def Z2H : Code := Tryz.f42.body.getD .skip
noncomputable def Zb : Ctx (Tup Z18 × OutD) := { T := T, G := [(72, Z3V.E), (73, Z3R.E)], mvs := [56], no := 0, n := 91, res := resOf T Ziy Z18 Tryz.f42.results.toList, loops := [(0, Z2u.E), (6, Z2k.E), (4, Z2h.E), (2, Z2s.E)], regs := [], conds := [], cuts := [] }
theorem Z63 (k : Nat) : EnvOK Tryz.prog k Zb.G := (EnvOK.cons (ZDa k) (EnvOK.cons (ZDF k) (EnvOK.nil mixed)))
noncomputable def Z7b : Code := (findLoop 0 Z2H).getD .skip
theorem Zoy (k : Nat) (x : ZaI.D) : Z2u.lp (k + 1) x = loopK Zb Z2u 0 Z7b k x := by kernel_rfl
theorem ZpI (k : Nat) : LOK Tryz.prog Zb k Z7b := LOK.by [] (by kernel_rfl) AllOK.nil
theorem ZoH (x : ZaI.D) : Z2u.lp 0 x = none := by kernel_rfl
theorem Znb (k : Nat) : EOK Tryz.prog Zb k Z2u.E (.block 0 (.loop Z7b)) := Z2 T_ok Z63 ZoH Zoy ZpI k
noncomputable def Z7f : Code := (findLoop 6 Z2H).getD .skip
theorem Zou (k : Nat) (x : ZaN.D) : Z2k.lp (k + 1) x = loopK Zb Z2k 6 Z7f k x := by kernel_rfl
theorem Zov (k : Nat) : LOK Tryz.prog Zb k Z7f := LOK.by [] (by kernel_rfl) AllOK.nil
theorem ZpC (x : ZaN.D) : Z2k.lp 0 x = none := by kernel_rfl
theorem Zn1 (k : Nat) : EOK Tryz.prog Zb k Z2k.E (.block 6 (.loop Z7f)) := Z2 T_ok Z63 ZpC Zou Zov k
noncomputable def Z71 : Code := (findLoop 4 Z2H).getD .skip
theorem ZoJ (k : Nat) (x : ZaW.D) : Z2h.lp (k + 1) x = loopK Zb Z2h 4 Z71 k x := by kernel_rfl
theorem Zow (k : Nat) : LOK Tryz.prog Zb k Z71 := LOK.by [(Z2k.E, .block 6 (.loop Z7f))] (by kernel_rfl) (AllOK.cons (Zn1 k) AllOK.nil)
theorem Zph (x : ZaW.D) : Z2h.lp 0 x = none := by kernel_rfl
theorem ZmR (k : Nat) : EOK Tryz.prog Zb k Z2h.E (.block 4 (.loop Z71)) := Z2 T_ok Z63 Zph ZoJ Zow k
noncomputable def Z77 : Code := (findLoop 2 Z2H).getD .skip
theorem ZoL (k : Nat) (x : ZaH.D) : Z2s.lp (k + 1) x = loopK Zb Z2s 2 Z77 k x := by kernel_rfl
theorem ZpG (k : Nat) : LOK Tryz.prog Zb k Z77 := LOK.by [(Z2h.E, .block 4 (.loop Z71))] (by kernel_rfl) (AllOK.cons (ZmR k) AllOK.nil)
theorem ZoY (x : ZaH.D) : Z2s.lp 0 x = none := by kernel_rfl
theorem Zn7 (k : Nat) : EOK Tryz.prog Zb k Z2s.E (.block 2 (.loop Z77)) := Z2 T_ok Z63 ZoY ZoL ZpG k
theorem ZvN (k : Nat) (x : Tup ZX.ps) : ZX.f (k + 1) x = fnK ZX Zb Z2H k x := by kernel_rfl
theorem ZuN (x : Tup ZX.ps) : ZX.f 0 x = none := by kernel_rfl
theorem Zv9 (k : Nat) : LOK Tryz.prog Zb k Z2H := LOK.by [(Z2u.E, .block 0 (.loop Z7b)), (Z2s.E, .block 2 (.loop Z77))] (by kernel_rfl) (AllOK.cons (Znb k) (AllOK.cons (Zn7 k) AllOK.nil))
theorem Zdh (k : Nat) : SoundAt Tryz.prog k 42 ZX.E := @Z0 Tryz.prog ZX Zb 42 Tryz.f42 Z2H (by kernel_rfl) (by kernel_rfl) (by kernel_rfl) Tryz.func42 (by kernel_rfl) (by kernel_rfl) (by kernel_rfl) T_ok Z63 Zv9 ZuN ZvN k
noncomputable def ZH : List PK := [PK.mk .bool false none false none]
noncomputable def Z6V : List PK := [PK.mk (.slice 76 P6) false none false none, PK.mk P6 true none false none]
noncomputable def Z5Z (r : Bool) : Tup ZH × OutD := ((r, ()), none)
noncomputable def Z5U : Tup ZH × OutD → Option (Bool)
 | (a, none) => some (a.1)
 | _ => none
theorem ZbX : ∀ b r, Z5U b = some r → Z5Z r = b := by
 rintro ⟨a, _ | _⟩ r h <;> cases h; rfl
noncomputable def ZI : Nat → List (Int × Int) → Int × Int → Option Bool
 | 0, _, _ => none
 | k + 1, p0, p1 =>
  Option.bind (Zy k p0 (p1.1, p1.2)) fun z0 => some (decide (z0 ≥ (0 : Int)))
noncomputable def Z9 : FnDef := .of Z6V ZH (Bool) (fun k x => ZI k x.1 x.2.1) Z5Z Z5U ZbX
noncomputable def Z2N : Code := Tryz.f48.body.getD .skip
noncomputable def Z1f : Ctx (Tup ZH × OutD) := { T := T, G := [(81, Zc.E)], mvs := [], no := 0, n := 9, res := resOf T Z6V ZH Tryz.f48.results.toList, loops := [], regs := [], conds := [], cuts := [] }
theorem ZdQ (k : Nat) : EnvOK Tryz.prog k Z1f.G := (EnvOK.cons (Zf4 k) (EnvOK.nil mixed))
theorem ZdR (k : Nat) (x : Tup Z9.ps) : Z9.f (k + 1) x = fnK Z9 Z1f Z2N k x := by kernel_rfl
theorem ZdV (x : Tup Z9.ps) : Z9.f 0 x = none := by kernel_rfl
theorem ZdK (k : Nat) : LOK Tryz.prog Z1f k Z2N := LOK.by [] (by kernel_rfl) AllOK.nil
theorem Z6U (k : Nat) : SoundAt Tryz.prog k 48 Z9.E := @Z0 Tryz.prog Z9 Z1f 48 Tryz.f48 Z2N (by kernel_rfl) (by kernel_rfl) (by kernel_rfl) Tryz.func48 (by kernel_rfl) (by kernel_rfl) (by kernel_rfl) T_ok ZdQ ZdK ZdV ZdR k
noncomputable def Zd5 : BSig := BSig.mk (111 : Nat) [some ((3 : Nat), Ty.int .i64), some ((3 : Nat), Ty.int .i64), some ((76 : Nat), Ty.pair (Ty.int .i64) (Ty.int .i64)), none]
noncomputable def ZH5 : List KP := [KP.tree true (Ty.pair (Ty.int .i64) (Ty.slice (3 : Nat) (Ty.int .i64)))]
noncomputable def Zhq : Nat → Int → List Int → List Int → List (Int × Int) → Int → Int → Option (Int × List Int × List Int × List (Int × Int))
 | 0, _, _, _, _, _, _ => none
 | k + 1, b1_3, o2, o3, o4, v12, v13 =>
  if decide (v13 < v12) = true then if List.length o3 + List.length [v13] ≤ (140737488355328 / 8 : Nat) then Zhq k b1_3 o2 (o3 ++ [v13]) o4 v12 (wrap64 (v13 + 1)) else none else some (b1_3, o2, o3, o4)
noncomputable def ZgQ : Spec := Spec.mk [.ro, Oa, O4, O4, O2] [(3, .at (.ptr 1 0)), (12, .at (.int .i64)), (13, .at (.int .i64))]
noncomputable def ZAU : Spec := Spec.mk [.ro, Oa, O4, O4, O2] [(3, .at (.ptr 1 0))]
noncomputable def Z6L : LoopDef (FD Zd5.fs) := .plain ZgQ ZAU (Int × List Int × List Int × List (Int × Int)) (fun k x => Zhq k x.1.2.1.2.2.2.1 x.1.2.2.1 x.1.2.2.2.1 x.1.2.2.2.2.1 x.2.2.1 x.2.2.2.1) (fun z => (((), ((), (), (), z.1, ()), z.2.1, z.2.2.1, z.2.2.2, ()), ((), ()))) (fun y => (y.1.2.1.2.2.2.1, y.1.2.2.1, y.1.2.2.2.1, y.1.2.2.2.2.1)) (fun _ => rfl)
noncomputable def Zi3 : Nat → Int → List Int → List Int → List (Int × Int) → Option (Int × List Int × List Int × List (Int × Int))
 | 0, _, _, _, _ => none
 | k + 1, b1_3, o2, o3, o4 =>
  Option.bind (BDef.f ZU k (o2, o3, o4, b1_3, ())) fun z3 => if (!z3.2) = true then Option.bind (BDef.f ZK k (z3.1.1, z3.1.2.1, z3.1.2.2.1, z3.1.2.2.2.1, ())) fun z4 => Zi3 k z4.1.2.2.2.1 z4.1.1 z4.1.2.1 z4.1.2.2.1 else some (z3.1.2.2.2.1, z3.1.1, z3.1.2.1, z3.1.2.2.1)
noncomputable def Zgn : Spec := Spec.mk [.ro, Oa, O4, O4, O2] [(3, .at (.ptr 1 0))]
noncomputable def ZBb : Spec := Spec.mk [.ro, Oa, O4, O4, O2] [(3, .at (.ptr 1 0))]
noncomputable def Z6h : LoopDef (FD Zd5.fs) := .plain Zgn ZBb (Int × List Int × List Int × List (Int × Int)) (fun k x => Zi3 k x.1.2.1.2.2.2.1 x.1.2.2.1 x.1.2.2.2.1 x.1.2.2.2.2.1) (fun z => (((), ((), (), (), z.1, ()), z.2.1, z.2.2.1, z.2.2.2, ()), ((), ()))) (fun y => (y.1.2.1.2.2.2.1, y.1.2.2.1, y.1.2.2.2.1, y.1.2.2.2.2.1)) (fun _ => rfl)
noncomputable def ZGy : Nat → Int × List Int → Option (List Int × List Int × List (Int × Int) × Int × Unit)
 | 0, _ => none
 | k + 1, p0 =>
  Option.bind (ZwM k p0.2) fun z0 => Option.bind (Zhq k (0 : Int) z0 [] [] (↑(List.length p0.2) : Int) (0 : Int)) fun z1 => Option.bind (BDef.f ZK k (z1.2.1, z1.2.2.1, z1.2.2.2, z1.1, ())) fun z2 => Option.bind (Zi3 k z2.1.2.2.2.1 z2.1.1 z2.1.2.1 z2.1.2.2.1) fun z5 => some (z5.2.1, z5.2.2.1, z5.2.2.2, z5.1, ())
noncomputable def Z4h : PDef := ⟨ZH5, Zd5, 2, fun k x => ZGy k x.1⟩
noncomputable def ZcW : Code := Tryz.f66.body.getD .skip
noncomputable def Z3f : Ctx (FD Zd5.fs) := { T := T, G := [(102, Z7y.E), (103, cloE ZK.E), (104, cloE ZU.E)], mvs := [], no := 0, n := 35, res := BSig.out Zd5 2, loops := [(0, Z6L.E), (2, Z6h.E)], regs := [], conds := [], cuts := [] }
theorem ZkB (k : Nat) : EnvOK Tryz.prog k Z3f.G := (EnvOK.cons (ZIf k) (EnvOK.consC (Zt6 k) (EnvOK.consC (Zrk k) (EnvOK.nil mixed))))
noncomputable def Zcg : Code := (findLoop 0 ZcW).getD .skip
theorem ZBB (k : Nat) (x : ZgQ.D) : Z6L.lp (k + 1) x = loopK Z3f Z6L 0 Zcg k x := by kernel_rfl
theorem ZCB (k : Nat) : LOK Tryz.prog Z3f k Zcg := LOK.by [] (by kernel_rfl) AllOK.nil
theorem ZBj (x : ZgQ.D) : Z6L.lp 0 x = none := by kernel_rfl
theorem Zyy (k : Nat) : EOK Tryz.prog Z3f k Z6L.E (.block 0 (.loop Zcg)) := Z2 T_ok ZkB ZBj ZBB ZCB k
noncomputable def Zcw : Code := (findLoop 2 ZcW).getD .skip
theorem ZBm (k : Nat) (x : Zgn.D) : Z6h.lp (k + 1) x = loopK Z3f Z6h 2 Zcw k x := by kernel_rfl
theorem ZCc (k : Nat) : LOK Tryz.prog Z3f k Zcw := LOK.by [] (by kernel_rfl) AllOK.nil
theorem ZBF (x : Zgn.D) : Z6h.lp 0 x = none := by kernel_rfl
theorem Zzv (k : Nat) : EOK Tryz.prog Z3f k Z6h.E (.block 2 (.loop Zcw)) := Z2 T_ok ZkB ZBF ZBm ZCc k
theorem ZGY (k : Nat) (x : KTup Z4h.ps) : Z4h.f (k + 1) x = fnKP Z4h Z3f ZcW k x := by kernel_rfl
theorem ZGB (x : KTup Z4h.ps) : Z4h.f 0 x = none := by kernel_rfl
theorem ZGc (k : Nat) : LOK Tryz.prog Z3f k ZcW := LOK.by [(Z6L.E, .block 0 (.loop Zcg)), (Z6h.E, .block 2 (.loop Zcw))] (by kernel_rfl) (AllOK.cons (Zyy k) (AllOK.cons (Zzv k) AllOK.nil))
theorem ZHn (k : Nat) : ClSound Tryz.prog k 66 Z4h.E := @ZM2 Tryz.prog Z4h Z3f 66 Tryz.f66 ZcW (by kernel_rfl) (by kernel_rfl) (by kernel_rfl) Tryz.func66 (by kernel_rfl) (by kernel_rfl) (by kernel_rfl) T_ok ZkB ZGc ZGB ZGY k
noncomputable def Z5o : List PK := [PK.mk .bool false none false none]
noncomputable def ZkQ : List PK := [PK.mk (.slice 76 P6) false none false none]
noncomputable def Zed (r : Bool) : Tup Z5o × OutD := ((r, ()), none)
noncomputable def Zef : Tup Z5o × OutD → Option (Bool)
 | (a, none) => some (a.1)
 | _ => none
theorem ZgZ : ∀ b r, Zef b = some r → Zed r = b := by
 rintro ⟨a, _ | _⟩ r h <;> cases h; rfl
noncomputable def Z48 : Nat → List (Int × Int) → Int → Int → Option (LR Unit Bool)
 | 0, _, _, _ => none
 | k + 1, v8, v9, v10 =>
  if decide (v10 < v9) = true then if (0 : Int) ≤ v10 then if v10 < (↑(List.length v8) : Int) then Option.bind (Z8a k (Prod.fst (List.getD v8 (Int.toNat v10) ((0 : Int), (0 : Int))), Prod.snd (List.getD v8 (Int.toNat v10) ((0 : Int), (0 : Int))))) fun z0 => if (!z0) = true then some (LR.ret false) else Z48 k v8 v9 (wrap64 (v10 + 1)) else none else none else some (LR.go ())
noncomputable def Zc5 : Spec := Spec.mk [.ro] [(8, .at (.snap 0 P6)), (9, .at (.int .i64)), (10, .at (.int .i64))]
noncomputable def Zsr : Spec := Spec.mk [.ro] []
noncomputable def Z3k : LoopDef (Tup Z5o × OutD) := .rets Zc5 Zsr (Unit) (Bool) (fun k x => Z48 k x.2.1 x.2.2.1 x.2.2.2.1) (fun z => (((), ()), (()))) (fun y => ()) (fun _ => rfl) Zed Zef ZgZ
noncomputable def Zbd : Nat → List (Int × Int) → Option Bool
 | 0, _ => none
 | k + 1, p0 =>
  if decide ((↑(List.length p0) : Int) > 90) = true then some false else Option.bind (Z48 k p0 (↑(List.length p0) : Int) (0 : Int)) fun z1 => LR.on z1 (fun y1 => some true) fun r1 => some r1
noncomputable def Z2v : FnDef := .of ZkQ Z5o (Bool) (fun k x => Zbd k x.1) Zed Zef ZgZ
noncomputable def Zbm : Code := Tryz.f69.body.getD .skip
noncomputable def Z3J : Ctx (Tup Z5o × OutD) := { T := T, G := [(74, Z2f.E)], mvs := [], no := 0, n := 18, res := resOf T ZkQ Z5o Tryz.f69.results.toList, loops := [(0, Z3k.E)], regs := [], conds := [], cuts := [] }
theorem Zl9 (k : Nat) : EnvOK Tryz.prog k Z3J.G := (EnvOK.cons (ZfO k) (EnvOK.nil mixed))
noncomputable def Z8x : Code := (findLoop 0 Zbm).getD .skip
theorem ZsE (k : Nat) (x : Zc5.D) : Z3k.lp (k + 1) x = loopK Z3J Z3k 0 Z8x k x := by kernel_rfl
theorem ZsN (k : Nat) : LOK Tryz.prog Z3J k Z8x := LOK.by [] (by kernel_rfl) AllOK.nil
theorem Zs1 (x : Zc5.D) : Z3k.lp 0 x = none := by kernel_rfl
theorem ZqQ (k : Nat) : EOK Tryz.prog Z3J k Z3k.E (.block 0 (.loop Z8x)) := Z2 T_ok Zl9 Zs1 ZsE ZsN k
theorem Zyo (k : Nat) (x : Tup Z2v.ps) : Z2v.f (k + 1) x = fnK Z2v Z3J Zbm k x := by kernel_rfl
theorem Zzt (x : Tup Z2v.ps) : Z2v.f 0 x = none := by kernel_rfl
theorem ZzZ (k : Nat) : LOK Tryz.prog Z3J k Zbm := LOK.by [(Z3k.E, .block 0 (.loop Z8x))] (by kernel_rfl) (AllOK.cons (ZqQ k) AllOK.nil)
theorem ZyO (k : Nat) : SoundAt Tryz.prog k 69 Z2v.E := @Z0 Tryz.prog Z2v Z3J 69 Tryz.f69 Zbm (by kernel_rfl) (by kernel_rfl) (by kernel_rfl) Tryz.func69 (by kernel_rfl) (by kernel_rfl) (by kernel_rfl) T_ok Zl9 ZzZ Zzt Zyo k
noncomputable def ZcX : List PK := [PK.mk I6 false none false none, PK.mk .bool false none false none]
noncomputable def ZtE : List PK := [PK.mk P6 true none false none, PK.mk I6 false none false none]
noncomputable def Zr2 (r : Int × Bool) : Tup ZcX × OutD := ((r.1, r.2, ()), none)
noncomputable def ZpU : Tup ZcX × OutD → Option (Int × Bool)
 | (a, none) => some (a.1, a.2.1)
 | _ => none
theorem ZzJ : ∀ b r, ZpU b = some r → Zr2 r = b := by
 rintro ⟨a, _ | _⟩ r h <;> cases h; rfl
noncomputable def Zd2 : Nat → Int × Int → Int → Option (Int × Bool)
 | 0, _, _ => none
 | k + 1, p0, p1 =>
  Option.bind (Z8a k (p0.1, p0.2)) fun z0 => if (!z0) = true then some ((0 : Int), false) else if decide (p1 < (-1 : Int)) = true then some ((0 : Int), false) else if decide (p1 > 1) = true then some ((0 : Int), false) else if decide (p0.1 = 5) = true then some ((0 : Int), false) else if decide (p0.1 = 1) = true then some ((-1 : Int), true) else if decide (p0.1 = 2) = true then some ((1 : Int), true) else if decide (p0.1 = 3) = true then some (wrap64 (wrap64 ((2 : Int) * p0.2) - 1), true) else if decide (p0.1 = 6) = true then some (wrap64 (wrap64 ((2 : Int) * p0.2) - 1), true) else if decide (p0.1 = 4) = true then some (wrap64 ((0 : Int) - p1), true) else some ((0 : Int), true)
noncomputable def Z4i : FnDef := .of ZtE ZcX (Int × Bool) (fun k x => Zd2 k x.1 x.2.1) Zr2 ZpU ZzJ
noncomputable def Zkn : Code := Tryz.f70.body.getD .skip
noncomputable def Zg9 : Ctx (Tup ZcX × OutD) := { T := T, G := [(74, Z2f.E)], mvs := [], no := 0, n := 39, res := resOf T ZtE ZcX Tryz.f70.results.toList, loops := [], regs := [], conds := [], cuts := [] }
theorem ZHq (k : Nat) : EnvOK Tryz.prog k Zg9.G := (EnvOK.cons (ZfO k) (EnvOK.nil mixed))
theorem ZGR (k : Nat) (x : Tup Z4i.ps) : Z4i.f (k + 1) x = fnK Z4i Zg9 Zkn k x := by kernel_rfl
theorem ZGK (x : Tup Z4i.ps) : Z4i.f 0 x = none := by kernel_rfl
theorem ZHh (k : Nat) : LOK Tryz.prog Zg9 k Zkn := LOK.by [] (by kernel_rfl) AllOK.nil
theorem Zui (k : Nat) : SoundAt Tryz.prog k 70 Z4i.E := @Z0 Tryz.prog Z4i Zg9 70 Tryz.f70 Zkn (by kernel_rfl) (by kernel_rfl) (by kernel_rfl) Tryz.func70 (by kernel_rfl) (by kernel_rfl) (by kernel_rfl) T_ok ZHq ZHh ZGK ZGR k
noncomputable def Zd3 : List PK := [PK.mk .bool false none false none]
noncomputable def Ztj : List PK := [PK.mk P6 true none false none]
noncomputable def Zqd (r : Bool) : Tup Zd3 × OutD := ((r, ()), none)
noncomputable def Zr6 : Tup Zd3 × OutD → Option (Bool)
 | (a, none) => some (a.1)
 | _ => none
theorem ZyD : ∀ b r, Zr6 b = some r → Zqd r = b := by
 rintro ⟨a, _ | _⟩ r h <;> cases h; rfl
noncomputable def ZcV : Nat → Int × Int → Option Bool
 | 0, _ => none
 | k + 1, p0 =>
  Option.bind (ZW k p0.1 (0 : Int) (7 : Int)) fun z0 => if z0 = true then if decide (p0.2 = 0) = true then some true else if decide (p0.2 = 1) = true then Option.bind (Z6y k (p0.1, p0.2)) fun z1 => some z1 else some false else some false
noncomputable def Z4j : FnDef := .of Ztj Zd3 (Bool) (fun k x => ZcV k x.1) Zqd Zr6 ZyD
noncomputable def Zks : Code := Tryz.f75.body.getD .skip
noncomputable def Zg2 : Ctx (Tup Zd3 × OutD) := { T := T, G := [(76, Z1r.E), (105, Z2a.E)], mvs := [], no := 0, n := 20, res := resOf T Ztj Zd3 Tryz.f75.results.toList, loops := [], regs := [], conds := [], cuts := [] }
theorem ZHN (k : Nat) : EnvOK Tryz.prog k Zg2.G := (EnvOK.cons (Z8T k) (EnvOK.cons (Zm5 k) (EnvOK.nil mixed)))
theorem ZGX (k : Nat) (x : Tup Z4j.ps) : Z4j.f (k + 1) x = fnK Z4j Zg2 Zks k x := by kernel_rfl
theorem ZGL (x : Tup Z4j.ps) : Z4j.f 0 x = none := by kernel_rfl
theorem ZHL (k : Nat) : LOK Tryz.prog Zg2 k Zks := LOK.by [] (by kernel_rfl) AllOK.nil
theorem Ztt (k : Nat) : SoundAt Tryz.prog k 75 Z4j.E := @Z0 Tryz.prog Z4j Zg2 75 Tryz.f75 Zks (by kernel_rfl) (by kernel_rfl) (by kernel_rfl) Tryz.func75 (by kernel_rfl) (by kernel_rfl) (by kernel_rfl) T_ok ZHN ZHL ZGL ZGX k
noncomputable def Zbv : List PK := [PK.mk .bool false none false none]
noncomputable def Zx3 : List PK := [PK.mk (.slice 3 I6) false none false none, PK.mk I6 false none false none, PK.mk I6 false none false none]
noncomputable def Zkl (r : Bool) : Tup Zbv × OutD := ((r, ()), none)
noncomputable def Zkz : Tup Zbv × OutD → Option (Bool)
 | (a, none) => some (a.1)
 | _ => none
theorem Zlx : ∀ b r, Zkz b = some r → Zkl r = b := by
 rintro ⟨a, _ | _⟩ r h <;> cases h; rfl
noncomputable def Z96 : Nat → Int → Int → List Int → Int → Int → Option (LR Unit Bool)
 | 0, _, _, _, _, _ => none
 | k + 1, v1, v2, v9, v10, v11 =>
  if decide (v11 < v10) = true then if (0 : Int) ≤ v11 then if v11 < (↑(List.length v9) : Int) then Option.bind (ZW k (List.getD v9 (Int.toNat v11) (0 : Int)) v1 v2) fun z0 => if (!z0) = true then some (LR.ret false) else Z96 k v1 v2 v9 v10 (wrap64 (v11 + 1)) else none else none else some (LR.go ())
noncomputable def ZhR : Spec := Spec.mk [.ro] [(1, .at (.int .i64)), (2, .at (.int .i64)), (9, .at (.snap 0 I6)), (10, .at (.int .i64)), (11, .at (.int .i64))]
noncomputable def ZDP : Spec := Spec.mk [.ro] []
noncomputable def Z7Y : LoopDef (Tup Zbv × OutD) := .rets ZhR ZDP (Unit) (Bool) (fun k x => Z96 k x.2.1 x.2.2.1 x.2.2.2.1 x.2.2.2.2.1 x.2.2.2.2.2.1) (fun z => (((), ()), (()))) (fun y => ()) (fun _ => rfl) Zkl Zkz Zlx
noncomputable def Z9n : Nat → List Int → Int → Int → Option Bool
 | 0, _, _, _ => none
 | k + 1, p0, p1, p2 =>
  Option.bind (Z96 k p1 p2 p0 (↑(List.length p0) : Int) (0 : Int)) fun z1 => LR.on z1 (fun y1 => some true) fun r1 => some r1
noncomputable def Z4d : FnDef := .of Zx3 Zbv (Bool) (fun k x => Z9n k x.1 x.2.1 x.2.2.1) Zkl Zkz Zlx
noncomputable def Zhl : Code := Tryz.f77.body.getD .skip
noncomputable def Z9m : Ctx (Tup Zbv × OutD) := { T := T, G := [(76, Z1r.E)], mvs := [], no := 0, n := 21, res := resOf T Zx3 Zbv Tryz.f77.results.toList, loops := [(0, Z7Y.E)], regs := [], conds := [], cuts := [] }
theorem Zxe (k : Nat) : EnvOK Tryz.prog k Z9m.G := (EnvOK.cons (Z8T k) (EnvOK.nil mixed))
noncomputable def ZdF : Code := (findLoop 0 Zhl).getD .skip
theorem ZCZ (k : Nat) (x : ZhR.D) : Z7Y.lp (k + 1) x = loopK Z9m Z7Y 0 ZdF k x := by kernel_rfl
theorem ZCN (k : Nat) : LOK Tryz.prog Z9m k ZdF := LOK.by [] (by kernel_rfl) AllOK.nil
theorem ZCR (x : ZhR.D) : Z7Y.lp 0 x = none := by kernel_rfl
theorem ZCq (k : Nat) : EOK Tryz.prog Z9m k Z7Y.E (.block 0 (.loop ZdF)) := Z2 T_ok Zxe ZCR ZCZ ZCN k
theorem ZIE (k : Nat) (x : Tup Z4d.ps) : Z4d.f (k + 1) x = fnK Z4d Z9m Zhl k x := by kernel_rfl
theorem ZHY (x : Tup Z4d.ps) : Z4d.f 0 x = none := by kernel_rfl
theorem ZIo (k : Nat) : LOK Tryz.prog Z9m k Zhl := LOK.by [(Z7Y.E, .block 0 (.loop ZdF))] (by kernel_rfl) (AllOK.cons (ZCq k) AllOK.nil)
theorem Zlz (k : Nat) : SoundAt Tryz.prog k 77 Z4d.E := @Z0 Tryz.prog Z4d Z9m 77 Tryz.f77 Zhl (by kernel_rfl) (by kernel_rfl) (by kernel_rfl) Tryz.func77 (by kernel_rfl) (by kernel_rfl) (by kernel_rfl) T_ok Zxe ZIo ZHY ZIE k
noncomputable def ZbJ : List PK := [PK.mk I6 false none false none]
noncomputable def ZpW : List PK := [PK.mk (.pair I6 (.pair I6 (.pair (.slice 76 P6) (.pair (.slice 3 I6) (.slice 3 I6))))) true none false none]
noncomputable def Znv (r : Int) : Tup ZbJ × OutD := ((r, ()), none)
noncomputable def ZnW : Tup ZbJ × OutD → Option (Int)
 | (a, none) => some (a.1)
 | _ => none
theorem Zx9 : ∀ b r, ZnW b = some r → Znv r = b := by
 rintro ⟨a, _ | _⟩ r h <;> cases h; rfl
noncomputable def Z9d : Nat → Int × Int × List (Int × Int) × List Int × List Int → Option Int
 | 0, _ => none
 | k + 1, p0 =>
  Option.bind (Zjy k (wrap64 ((↑(List.length p0.2.2.1) : Int) + (1 : Int))) (wrap64 (p0.1 * p0.2.1))) fun z0 => some z0
noncomputable def Z3G : FnDef := .of ZpW ZbJ (Int) (fun k x => Z9d k x.1) Znv ZnW Zx9
noncomputable def Zja : Code := Tryz.f78.body.getD .skip
noncomputable def Zev : Ctx (Tup ZbJ × OutD) := { T := T, G := [(106, Z4E.E)], mvs := [], no := 0, n := 13, res := resOf T ZpW ZbJ Tryz.f78.results.toList, loops := [], regs := [], conds := [], cuts := [] }
theorem ZEX (k : Nat) : EnvOK Tryz.prog k Zev.G := (EnvOK.cons (ZE2 k) (EnvOK.nil mixed))
theorem ZFq (k : Nat) (x : Tup Z3G.ps) : Z3G.f (k + 1) x = fnK Z3G Zev Zja k x := by kernel_rfl
theorem ZEm (x : Tup Z3G.ps) : Z3G.f 0 x = none := by kernel_rfl
theorem ZFd (k : Nat) : LOK Tryz.prog Zev k Zja := LOK.by [] (by kernel_rfl) AllOK.nil
theorem Zqo (k : Nat) : SoundAt Tryz.prog k 78 Z3G.E := @Z0 Tryz.prog Z3G Zev 78 Tryz.f78 Zja (by kernel_rfl) (by kernel_rfl) (by kernel_rfl) Tryz.func78 (by kernel_rfl) (by kernel_rfl) (by kernel_rfl) T_ok ZEX ZFd ZEm ZFq k
noncomputable def ZcY : List PK := [PK.mk I6 false none false none]
noncomputable def ZtN : List PK := [PK.mk (.pair I6 (.pair I6 (.slice 76 P6))) true none false none]
noncomputable def ZqS (r : Int) : Tup ZcY × OutD := ((r, ()), none)
noncomputable def ZqM : Tup ZcY × OutD → Option (Int)
 | (a, none) => some (a.1)
 | _ => none
theorem Zzw : ∀ b r, ZqM b = some r → ZqS r = b := by
 rintro ⟨a, _ | _⟩ r h <;> cases h; rfl
noncomputable def ZfR : Nat → Int × Int × List (Int × Int) → Option Int
 | 0, _ => none
 | k + 1, p0 =>
  Option.bind (Zjc k (p0.1, p0.2.1, p0.2.2)) fun z0 => if (0 : Int) < (↑(List.length z0) : Int) then some (wrap64 ((↑(List.length p0.2.2) : Int) - List.getD z0 (Int.toNat (0 : Int)) (0 : Int))) else none
noncomputable def Z5L : FnDef := .of ZtN ZcY (Int) (fun k x => ZfR k x.1) ZqS ZqM Zzw
noncomputable def Zkr : Code := Tryz.f80.body.getD .skip
noncomputable def Zg7 : Ctx (Tup ZcY × OutD) := { T := T, G := [(109, Z4y.E)], mvs := [], no := 0, n := 11, res := resOf T ZtN ZcY Tryz.f80.results.toList, loops := [], regs := [], conds := [], cuts := [] }
theorem ZH3 (k : Nat) : EnvOK Tryz.prog k Zg7.G := (EnvOK.cons (ZDZ k) (EnvOK.nil mixed))
theorem ZHM (k : Nat) (x : Tup Z5L.ps) : Z5L.f (k + 1) x = fnK Z5L Zg7 Zkr k x := by kernel_rfl
theorem ZGt (x : Tup Z5L.ps) : Z5L.f 0 x = none := by kernel_rfl
theorem ZGU (k : Nat) : LOK Tryz.prog Zg7 k Zkr := LOK.by [] (by kernel_rfl) AllOK.nil
theorem ZGF (k : Nat) : SoundAt Tryz.prog k 80 Z5L.E := @Z0 Tryz.prog Z5L Zg7 80 Tryz.f80 Zkr (by kernel_rfl) (by kernel_rfl) (by kernel_rfl) Tryz.func80 (by kernel_rfl) (by kernel_rfl) (by kernel_rfl) T_ok ZH3 ZGU ZGt ZHM k
noncomputable def Zap : List PK := [PK.mk .bool false none false none]
noncomputable def Zoo : List PK := [PK.mk I6 false none false none]
noncomputable def Zm9 (r : Bool) : Tup Zap × OutD := ((r, ()), none)
noncomputable def ZlD : Tup Zap × OutD → Option (Bool)
 | (a, none) => some (a.1)
 | _ => none
theorem Zvb : ∀ b r, ZlD b = some r → Zm9 r = b := by
 rintro ⟨a, _ | _⟩ r h <;> cases h; rfl
noncomputable def ZdC : Nat → Int → Option Bool
 | 0, _ => none
 | k + 1, p0 =>
  Option.bind (ZW k p0 (0 : Int) (4 : Int)) fun z0 => some z0
noncomputable def Z3U : FnDef := .of Zoo Zap (Bool) (fun k x => ZdC k x.1) Zm9 ZlD Zvb
noncomputable def Zhk : Code := Tryz.f101.body.getD .skip
noncomputable def ZdJ : Ctx (Tup Zap × OutD) := { T := T, G := [(76, Z1r.E)], mvs := [], no := 0, n := 5, res := resOf T Zoo Zap Tryz.f101.results.toList, loops := [], regs := [], conds := [], cuts := [] }
theorem ZD8 (k : Nat) : EnvOK Tryz.prog k ZdJ.G := (EnvOK.cons (Z8T k) (EnvOK.nil mixed))
theorem ZDc (k : Nat) (x : Tup Z3U.ps) : Z3U.f (k + 1) x = fnK Z3U ZdJ Zhk k x := by kernel_rfl
theorem ZDo (x : Tup Z3U.ps) : Z3U.f 0 x = none := by kernel_rfl
theorem ZCM (k : Nat) : LOK Tryz.prog ZdJ k Zhk := LOK.by [] (by kernel_rfl) AllOK.nil
theorem ZDD (k : Nat) : SoundAt Tryz.prog k 101 Z3U.E := @Z0 Tryz.prog Z3U ZdJ 101 Tryz.f101 Zhk (by kernel_rfl) (by kernel_rfl) (by kernel_rfl) Tryz.func101 (by kernel_rfl) (by kernel_rfl) (by kernel_rfl) T_ok ZD8 ZCM ZDo ZDc k
noncomputable def Zd8 : List PK := [PK.mk .bool false none false none]
noncomputable def Zu2 : List PK := [PK.mk P6 true none false none, PK.mk I6 false none false none]
noncomputable def ZrK (r : Bool) : Tup Zd8 × OutD := ((r, ()), none)
noncomputable def Zqb : Tup Zd8 × OutD → Option (Bool)
 | (a, none) => some (a.1)
 | _ => none
theorem Zzi : ∀ b r, Zqb b = some r → ZrK r = b := by
 rintro ⟨a, _ | _⟩ r h <;> cases h; rfl
noncomputable def ZfN : Nat → Int × Int → Int → Option Bool
 | 0, _, _ => none
 | k + 1, p0, p1 =>
  if decide (p1 = 1) = true then Option.bind (Z6y k (p0.1, p0.2)) fun z0 => some z0 else if decide (p1 = 2) = true then some true else if decide (p1 = 3) = true then Option.bind (Z6y k (p0.1, p0.2)) fun z1 => if z1 = true then some true else if decide (p0.1 = 1) = true then some true else some (decide (p0.1 = 2)) else some false
noncomputable def Z5D : FnDef := .of Zu2 Zd8 (Bool) (fun k x => ZfN k x.1 x.2.1) ZrK Zqb Zzi
noncomputable def Zku : Code := Tryz.f111.body.getD .skip
noncomputable def Zga : Ctx (Tup Zd8 × OutD) := { T := T, G := [(105, Z2a.E)], mvs := [], no := 0, n := 26, res := resOf T Zu2 Zd8 Tryz.f111.results.toList, loops := [], regs := [], conds := [], cuts := [] }
theorem ZGZ (k : Nat) : EnvOK Tryz.prog k Zga.G := (EnvOK.cons (Zm5 k) (EnvOK.nil mixed))
theorem ZHR (k : Nat) (x : Tup Z5D.ps) : Z5D.f (k + 1) x = fnK Z5D Zga Zku k x := by kernel_rfl
theorem ZGf (x : Tup Z5D.ps) : Z5D.f 0 x = none := by kernel_rfl
theorem ZGn (k : Nat) : LOK Tryz.prog Zga k Zku := LOK.by [] (by kernel_rfl) AllOK.nil
theorem ZGi (k : Nat) : SoundAt Tryz.prog k 111 Z5D.E := @Z0 Tryz.prog Z5D Zga 111 Tryz.f111 Zku (by kernel_rfl) (by kernel_rfl) (by kernel_rfl) Tryz.func111 (by kernel_rfl) (by kernel_rfl) (by kernel_rfl) T_ok ZGZ ZGn ZGf ZHR k
noncomputable def Z9w : List PK := [PK.mk .bool false none false none]
noncomputable def Zmo : List PK := [PK.mk P6 true none false none]
noncomputable def ZkX (r : Bool) : Tup Z9w × OutD := ((r, ()), none)
noncomputable def ZkS : Tup Z9w × OutD → Option (Bool)
 | (a, none) => some (a.1)
 | _ => none
theorem ZsH : ∀ b r, ZkS b = some r → ZkX r = b := by
 rintro ⟨a, _ | _⟩ r h <;> cases h; rfl
noncomputable def Z29 : Nat → Int × Int → Option Bool
 | 0, _ => none
 | k + 1, p0 =>
  Option.bind (Z8a k (p0.1, p0.2)) fun z0 => if z0 = true then if decide (p0.1 = 3) = true then some true else some (decide (p0.1 = 6)) else some false
noncomputable def Z2c : FnDef := .of Zmo Z9w (Bool) (fun k x => Z29 k x.1) ZkX ZkS ZsH
noncomputable def ZgI : Code := Tryz.f114.body.getD .skip
noncomputable def Zc4 : Ctx (Tup Z9w × OutD) := { T := T, G := [(74, Z2f.E)], mvs := [], no := 0, n := 15, res := resOf T Zmo Z9w Tryz.f114.results.toList, loops := [], regs := [], conds := [], cuts := [] }
theorem ZAS (k : Nat) : EnvOK Tryz.prog k Zc4.G := (EnvOK.cons (ZfO k) (EnvOK.nil mixed))
theorem ZAV (k : Nat) (x : Tup Z2c.ps) : Z2c.f (k + 1) x = fnK Z2c Zc4 ZgI k x := by kernel_rfl
theorem ZBU (x : Tup Z2c.ps) : Z2c.f 0 x = none := by kernel_rfl
theorem ZBE (k : Nat) : LOK Tryz.prog Zc4 k ZgI := LOK.by [] (by kernel_rfl) AllOK.nil
theorem ZlC (k : Nat) : SoundAt Tryz.prog k 114 Z2c.E := @Z0 Tryz.prog Z2c Zc4 114 Tryz.f114 ZgI (by kernel_rfl) (by kernel_rfl) (by kernel_rfl) Tryz.func114 (by kernel_rfl) (by kernel_rfl) (by kernel_rfl) T_ok ZAS ZBE ZBU ZAV k
noncomputable def Z2L : List PK := [PK.mk (.slice 3 I6) false none false none]
noncomputable def Znp : List PK := [PK.mk (.pair I6 (.pair I6 (.slice 76 P6))) true none false none]
noncomputable def Zmh (r : List Int) : Tup Z2L × OutD := ((r, ()), none)
noncomputable def Zm6 : Tup Z2L × OutD → Option (List Int)
 | (a, none) => some (a.1)
 | _ => none
theorem Zvm : ∀ b r, Zm6 b = some r → Zmh r = b := by
 rintro ⟨a, _ | _⟩ r h <;> cases h; rfl
noncomputable def Z5k : Nat → Int → Int → List (Int × Int) → List Int → Int → Int → Option (Int × Int × List (Int × Int) × List Int)
 | 0, _, _, _, _, _, _ => none
 | k + 1, b1_0, b1_1, b1_2, o2, v17, v18 =>
  if decide (v18 < v17) = true then if (0 : Int) ≤ v18 then if v18 < (↑(List.length o2) : Int) then Z5k k b1_0 b1_1 b1_2 (List.set o2 (Int.toNat v18) (-1 : Int)) v17 (wrap64 (v18 + 1)) else none else none else some (b1_0, b1_1, b1_2, o2)
noncomputable def Ze4 : Spec := Spec.mk [.ro, O0, O4] [(1, .at (.ptr 1 0)), (3, .at (.sl 2)), (17, .at (.int .i64)), (18, .at (.int .i64))]
noncomputable def Zw9 : Spec := Spec.mk [.ro, O0, O4] [(1, .at (.ptr 1 0)), (3, .at (.sl 2))]
noncomputable def Z4X : LoopDef (Tup Z2L × OutD) := .plain Ze4 Zw9 (Int × Int × List (Int × Int) × List Int) (fun k x => Z5k k x.1.2.1.1 x.1.2.1.2.1 x.1.2.1.2.2.1 x.1.2.2.1 x.2.2.2.1 x.2.2.2.2.1) (fun z => (((), (z.1, z.2.1, z.2.2.1, ()), z.2.2.2, ()), ((), (), ()))) (fun y => (y.1.2.1.1, y.1.2.1.2.1, y.1.2.1.2.2.1, y.1.2.2.1)) (fun _ => rfl)
noncomputable def Z2z : Nat → Int → Int → List (Int × Int) → List Int → List Int → List Int → Int → Int → List (Int × Int) → Int → Int → Int → Int → Option (Int × Int × List (Int × Int) × List Int × List Int × Int × Int × List (Int × Int) × Int × Int)
 | 0, _, _, _, _, _, _, _, _, _, _, _, _, _ => none
 | k + 1, b1_0, b1_1, b1_2, o2, o3, o4, v5, v9, v26, v27, v28, v61, v62 =>
  if decide (v62 < v61) = true then if (0 : Int) ≤ v62 then if v62 < (↑(List.length o4) : Int) then if (0 : Int) ≤ List.getD o4 (Int.toNat v62) (0 : Int) then if List.getD o4 (Int.toNat v62) (0 : Int) < (↑(List.length b1_2) : Int) then Option.bind (Zd6 k (Prod.fst (List.getD b1_2 (Int.toNat (List.getD o4 (Int.toNat v62) (0 : Int))) ((0 : Int), (0 : Int))), Prod.snd (List.getD b1_2 (Int.toNat (List.getD o4 (Int.toNat v62) (0 : Int))) ((0 : Int), (0 : Int))))) fun z3 => if z3 = true then if (0 : Int) ≤ List.getD o4 (Int.toNat v62) (0 : Int) then if List.getD o4 (Int.toNat v62) (0 : Int) < (↑(List.length o2) : Int) then if decide (List.getD o2 (Int.toNat (List.getD o4 (Int.toNat v62) (0 : Int))) (0 : Int) < 0) = true then if (0 : Int) ≤ List.getD o4 (Int.toNat v62) (0 : Int) then if List.getD o4 (Int.toNat v62) (0 : Int) < (↑(List.length o2) : Int) then if List.length o3 + List.length [List.getD o4 (Int.toNat v62) (0 : Int)] ≤ (140737488355328 / 8 : Nat) then Z2z k b1_0 b1_1 b1_2 (List.set o2 (Int.toNat (List.getD o4 (Int.toNat v62) (0 : Int))) v5) (o3 ++ [List.getD o4 (Int.toNat v62) (0 : Int)]) o4 v5 v9 v26 v27 v28 v61 (wrap64 (v62 + 1)) else none else none else none else Z2z k b1_0 b1_1 b1_2 o2 o3 o4 v5 v9 v26 v27 v28 v61 (wrap64 (v62 + 1)) else none else none else Z2z k b1_0 b1_1 b1_2 o2 o3 o4 v5 v9 v26 v27 v28 v61 (wrap64 (v62 + 1)) else none else none else none else none else some (b1_0, b1_1, b1_2, o2, o3, v5, v9, v26, v27, v28)
noncomputable def Ze7 : Spec := Spec.mk [.ro, O0, O4, O4, O4] [(1, .at (.ptr 1 0)), (3, .at (.sl 2)), (5, .at (.int .i64)), (8, .at (.sl 3)), (9, .at (.int .i64)), (26, .at (.snap 0 P6)), (27, .at (.int .i64)), (28, .at (.int .i64)), (60, .at (.sl 4)), (61, .at (.int .i64)), (62, .at (.int .i64))]
noncomputable def ZwL : Spec := Spec.mk [.ro, O0, O4, O4] [(1, .at (.ptr 1 0)), (3, .at (.sl 2)), (5, .at (.int .i64)), (8, .at (.sl 3)), (9, .at (.int .i64)), (26, .at (.snap 0 P6)), (27, .at (.int .i64)), (28, .at (.int .i64))]
noncomputable def Z4Z : LoopDef (Tup Z2L × OutD) := .plain Ze7 ZwL (Int × Int × List (Int × Int) × List Int × List Int × Int × Int × List (Int × Int) × Int × Int) (fun k x => Z2z k x.1.2.1.1 x.1.2.1.2.1 x.1.2.1.2.2.1 x.1.2.2.1 x.1.2.2.2.1 x.1.2.2.2.2.1 x.2.2.2.1 x.2.2.2.2.2.1 x.2.2.2.2.2.2.1 x.2.2.2.2.2.2.2.1 x.2.2.2.2.2.2.2.2.1 x.2.2.2.2.2.2.2.2.2.2.1 x.2.2.2.2.2.2.2.2.2.2.2.1) (fun z => (((), (z.1, z.2.1, z.2.2.1, ()), z.2.2.2.1, z.2.2.2.2.1, ()), ((), (), z.2.2.2.2.2.1, (), z.2.2.2.2.2.2.1, z.2.2.2.2.2.2.2.1, z.2.2.2.2.2.2.2.2.1, z.2.2.2.2.2.2.2.2.2, ()))) (fun y => (y.1.2.1.1, y.1.2.1.2.1, y.1.2.1.2.2.1, y.1.2.2.1, y.1.2.2.2.1, y.2.2.2.1, y.2.2.2.2.2.1, y.2.2.2.2.2.2.1, y.2.2.2.2.2.2.2.1, y.2.2.2.2.2.2.2.2.1)) (fun _ => rfl)
noncomputable def Z3P : Nat → Int → Int → List (Int × Int) → List Int → List Int → Int → Int → List (Int × Int) → Int → Int → Option (Int × Int × List (Int × Int) × List Int × Int × List (Int × Int) × Int × Int)
 | 0, _, _, _, _, _, _, _, _, _, _ => none
 | k + 1, b1_0, b1_1, b1_2, o2, o3, v5, v9, v26, v27, v28 =>
  if decide (v9 < (↑(List.length o3) : Int)) = true then if (0 : Int) ≤ v9 then if v9 < (↑(List.length o3) : Int) then Option.bind (Zg0 k (b1_0, b1_1, b1_2) (List.getD o3 (Int.toNat v9) (0 : Int))) fun z2 => Option.bind (Z2z k b1_0 b1_1 b1_2 o2 o3 z2 v5 v9 v26 v27 v28 (↑(List.length z2) : Int) (0 : Int)) fun z4 => Z3P k z4.1 z4.2.1 z4.2.2.1 z4.2.2.2.1 z4.2.2.2.2.1 z4.2.2.2.2.2.1 (wrap64 (z4.2.2.2.2.2.2.1 + 1)) z4.2.2.2.2.2.2.2.1 z4.2.2.2.2.2.2.2.2.1 z4.2.2.2.2.2.2.2.2.2 else none else none else some (b1_0, b1_1, b1_2, o2, v5, v26, v27, v28)
noncomputable def Zei : Spec := Spec.mk [.ro, O0, O4, O4] [(1, .at (.ptr 1 0)), (3, .at (.sl 2)), (5, .at (.int .i64)), (8, .at (.sl 3)), (9, .at (.int .i64)), (26, .at (.snap 0 P6)), (27, .at (.int .i64)), (28, .at (.int .i64))]
noncomputable def Zx5 : Spec := Spec.mk [.ro, O0, O4] [(1, .at (.ptr 1 0)), (3, .at (.sl 2)), (5, .at (.int .i64)), (26, .at (.snap 0 P6)), (27, .at (.int .i64)), (28, .at (.int .i64))]
noncomputable def Z50 : LoopDef (Tup Z2L × OutD) := .plain Zei Zx5 (Int × Int × List (Int × Int) × List Int × Int × List (Int × Int) × Int × Int) (fun k x => Z3P k x.1.2.1.1 x.1.2.1.2.1 x.1.2.1.2.2.1 x.1.2.2.1 x.1.2.2.2.1 x.2.2.2.1 x.2.2.2.2.2.1 x.2.2.2.2.2.2.1 x.2.2.2.2.2.2.2.1 x.2.2.2.2.2.2.2.2.1) (fun z => (((), (z.1, z.2.1, z.2.2.1, ()), z.2.2.2.1, ()), ((), (), z.2.2.2.2.1, z.2.2.2.2.2.1, z.2.2.2.2.2.2.1, z.2.2.2.2.2.2.2, ()))) (fun y => (y.1.2.1.1, y.1.2.1.2.1, y.1.2.1.2.2.1, y.1.2.2.1, y.2.2.2.1, y.2.2.2.2.1, y.2.2.2.2.2.1, y.2.2.2.2.2.2.1)) (fun _ => rfl)
noncomputable def Z1H : Nat → Int → Int → List (Int × Int) → List Int → Int → List (Int × Int) → Int → Int → Option (List Int)
 | 0, _, _, _, _, _, _, _, _ => none
 | k + 1, b1_0, b1_1, b1_2, o2, v5, v26, v27, v28 =>
  if decide (v28 < v27) = true then if (0 : Int) ≤ v28 then if v28 < (↑(List.length v26) : Int) then Option.bind (Zd6 k (Prod.fst (List.getD v26 (Int.toNat v28) ((0 : Int), (0 : Int))), Prod.snd (List.getD v26 (Int.toNat v28) ((0 : Int), (0 : Int))))) fun z1 => if (!z1) = true then Z1H k b1_0 b1_1 b1_2 o2 v5 v26 v27 (wrap64 (v28 + 1)) else if (0 : Int) ≤ v28 then if v28 < (↑(List.length o2) : Int) then if decide (List.getD o2 (Int.toNat v28) (0 : Int) ≥ 0) = true then Z1H k b1_0 b1_1 b1_2 o2 v5 v26 v27 (wrap64 (v28 + 1)) else if (0 : Int) ≤ v28 then if v28 < (↑(List.length o2) : Int) then Option.bind (Z3P k b1_0 b1_1 b1_2 (List.set o2 (Int.toNat v28) v5) [v28] v5 (0 : Int) v26 v27 v28) fun z5 => Z1H k z5.1 z5.2.1 z5.2.2.1 z5.2.2.2.1 (wrap64 (z5.2.2.2.2.1 + 1)) z5.2.2.2.2.2.1 z5.2.2.2.2.2.2.1 (wrap64 (z5.2.2.2.2.2.2.2 + 1)) else none else none else none else none else none else none else some o2
noncomputable def Zee : Spec := Spec.mk [.ro, O0, O4] [(1, .at (.ptr 1 0)), (3, .at (.sl 2)), (5, .at (.int .i64)), (26, .at (.snap 0 P6)), (27, .at (.int .i64)), (28, .at (.int .i64))]
noncomputable def ZxO : Spec := Spec.mk [.ro, O4] [(3, .at (.sl 1))]
noncomputable def Z4K : LoopDef (Tup Z2L × OutD) := .plain Zee ZxO (List Int) (fun k x => Z1H k x.1.2.1.1 x.1.2.1.2.1 x.1.2.1.2.2.1 x.1.2.2.1 x.2.2.2.1 x.2.2.2.2.1 x.2.2.2.2.2.1 x.2.2.2.2.2.2.1) (fun z => (((), z, ()), ((), ()))) (fun y => (y.1.2.1)) (fun _ => rfl)
noncomputable def ZP : Nat → Int × Int × List (Int × Int) → Option (List Int)
 | 0, _ => none
 | k + 1, p0 =>
  if Int.toNat (↑(List.length p0.2.2) : Int) * (8 : Nat) ≤ (281474976710656 : Nat) then Option.bind (Z5k k p0.1 p0.2.1 p0.2.2 (List.replicate (Int.toNat (↑(List.length p0.2.2) : Int)) (0 : Int)) (↑(List.length (List.replicate (Int.toNat (↑(List.length p0.2.2) : Int)) (0 : Int))) : Int) (0 : Int)) fun z0 => Option.bind (Z1H k z0.1 z0.2.1 z0.2.2.1 z0.2.2.2 (0 : Int) z0.2.2.1 (↑(List.length z0.2.2.1) : Int) (0 : Int)) fun z6 => some z6 else none
noncomputable def Z2M : FnDef := .of Znp Z2L (List Int) (fun k x => ZP k x.1) Zmh Zm6 Zvm
noncomputable def Z56 : Code := Tryz.f125.body.getD .skip
noncomputable def Zs : Ctx (Tup Z2L × OutD) := { T := T, G := [(136, Z5G.E), (137, Z5H.E)], mvs := [], no := 0, n := 92, res := resOf T Znp Z2L Tryz.f125.results.toList, loops := [(0, Z4X.E), (6, Z4Z.E), (4, Z50.E), (2, Z4K.E)], regs := [], conds := [], cuts := [] }
theorem Zar (k : Nat) : EnvOK Tryz.prog k Zs.G := (EnvOK.cons (ZGC k) (EnvOK.cons (ZGT k) (EnvOK.nil mixed)))
noncomputable def ZaA : Code := (findLoop 0 Z56).getD .skip
theorem ZwF (k : Nat) (x : Ze4.D) : Z4X.lp (k + 1) x = loopK Zs Z4X 0 ZaA k x := by kernel_rfl
theorem ZwX (k : Nat) : LOK Tryz.prog Zs k ZaA := LOK.by [] (by kernel_rfl) AllOK.nil
theorem Zwn (x : Ze4.D) : Z4X.lp 0 x = none := by kernel_rfl
theorem ZvD (k : Nat) : EOK Tryz.prog Zs k Z4X.E (.block 0 (.loop ZaA)) := Z2 T_ok Zar Zwn ZwF ZwX k
noncomputable def Zau : Code := (findLoop 6 Z56).getD .skip
theorem ZwQ (k : Nat) (x : Ze7.D) : Z4Z.lp (k + 1) x = loopK Zs Z4Z 6 Zau k x := by kernel_rfl
theorem Zx2 (k : Nat) : LOK Tryz.prog Zs k Zau := LOK.by [] (by kernel_rfl) AllOK.nil
theorem ZwW (x : Ze7.D) : Z4Z.lp 0 x = none := by kernel_rfl
theorem Zvs (k : Nat) : EOK Tryz.prog Zs k Z4Z.E (.block 6 (.loop Zau)) := Z2 T_ok Zar ZwW ZwQ Zx2 k
noncomputable def Zaj : Code := (findLoop 4 Z56).getD .skip
theorem Zwe (k : Nat) (x : Zei.D) : Z50.lp (k + 1) x = loopK Zs Z50 4 Zaj k x := by kernel_rfl
theorem Zxv (k : Nat) : LOK Tryz.prog Zs k Zaj := LOK.by [(Z4Z.E, .block 6 (.loop Zau))] (by kernel_rfl) (AllOK.cons (Zvs k) AllOK.nil)
theorem Zxy (x : Zei.D) : Z50.lp 0 x = none := by kernel_rfl
theorem ZuI (k : Nat) : EOK Tryz.prog Zs k Z50.E (.block 4 (.loop Zaj)) := Z2 T_ok Zar Zxy Zwe Zxv k
noncomputable def ZaB : Code := (findLoop 2 Z56).getD .skip
theorem ZxT (k : Nat) (x : Zee.D) : Z4K.lp (k + 1) x = loopK Zs Z4K 2 ZaB k x := by kernel_rfl
theorem ZwO (k : Nat) : LOK Tryz.prog Zs k ZaB := LOK.by [(Z50.E, .block 4 (.loop Zaj))] (by kernel_rfl) (AllOK.cons (ZuI k) AllOK.nil)
theorem ZxB (x : Zee.D) : Z4K.lp 0 x = none := by kernel_rfl
theorem ZuK (k : Nat) : EOK Tryz.prog Zs k Z4K.E (.block 2 (.loop ZaB)) := Z2 T_ok Zar ZxB ZxT ZwO k
theorem ZDz (k : Nat) (x : Tup Z2M.ps) : Z2M.f (k + 1) x = fnK Z2M Zs Z56 k x := by kernel_rfl
theorem ZDi (x : Tup Z2M.ps) : Z2M.f 0 x = none := by kernel_rfl
theorem ZCS (k : Nat) : LOK Tryz.prog Zs k Z56 := LOK.by [(Z4X.E, .block 0 (.loop ZaA)), (Z4K.E, .block 2 (.loop ZaB))] (by kernel_rfl) (AllOK.cons (ZvD k) (AllOK.cons (ZuK k) AllOK.nil))
theorem Zor (k : Nat) : SoundAt Tryz.prog k 125 Z2M.E := @Z0 Tryz.prog Z2M Zs 125 Tryz.f125 Z56 (by kernel_rfl) (by kernel_rfl) (by kernel_rfl) Tryz.func125 (by kernel_rfl) (by kernel_rfl) (by kernel_rfl) T_ok Zar ZCS ZDi ZDz k
noncomputable def Zab : List PK := []
noncomputable def Zul : List PK := [PK.mk (.pair I6 (.pair I6 (.slice 76 P6))) true (some (2, 76, .pair I6 I6)) false none, PK.mk (.slice 3 I6) false none false none, PK.mk I6 false none false none]
noncomputable def Zqk (r : List (Int × Int)) : Tup Zab × OutD := ((()), some ⟨Ty.pair (Ty.int .i64) (Ty.int .i64), r⟩)
noncomputable def Zjf : Tup Zab × OutD → Option (List (Int × Int))
 | (a, some ⟨u, ys⟩) => if h : u = Ty.pair (Ty.int .i64) (Ty.int .i64) then some (castU h ys) else none
 | _ => none
theorem ZzD : ∀ b r, Zjf b = some r → Zqk r = b := by
 rintro ⟨a, o⟩ r h
 cases o with
 | none => cases h
 | some s =>
  obtain ⟨u, ys⟩ := s
  simp only [Zjf] at h
  split at h
  ·rename_i hu; subst hu; injection h with h; subst h; rfl
  ·cases h
noncomputable def Z2K : Nat → List (Int × Int) → Int → Int → List Int → Int → Int → Int → Option (List (Int × Int))
 | 0, _, _, _, _, _, _, _ => none
 | k + 1, o1, b2_0, b2_1, v1, v2, v28, v29 =>
  if decide (v29 < v28) = true then if (0 : Int) ≤ v29 then if v29 < (↑(List.length o1) : Int) then if decide (Prod.fst (List.getD o1 (Int.toNat v29) ((0 : Int), (0 : Int))) = 6) = true then if (0 : Int) ≤ v29 then if v29 < (↑(List.length v1) : Int) then if (0 : Int) ≤ v2 then if v2 < (↑(List.length v1) : Int) then if decide (List.getD v1 (Int.toNat v29) (0 : Int) = List.getD v1 (Int.toNat v2) (0 : Int)) = true then Option.bind (ZcR k (Prod.fst (List.getD o1 (Int.toNat v29) ((0 : Int), (0 : Int))), Prod.snd (List.getD o1 (Int.toNat v29) ((0 : Int), (0 : Int))))) fun z1 => if (0 : Int) ≤ v29 then if v29 < (↑(List.length o1) : Int) then Z2K k (List.set o1 (Int.toNat v29) (z1.1, z1.2)) b2_0 b2_1 v1 v2 v28 (wrap64 (v29 + 1)) else none else none else Z2K k o1 b2_0 b2_1 v1 v2 v28 (wrap64 (v29 + 1)) else none else none else none else none else Z2K k o1 b2_0 b2_1 v1 v2 v28 (wrap64 (v29 + 1)) else none else none else some o1
noncomputable def Zgw : Spec := Spec.mk [.ro, Oe, Obq] [(1, .at (.snap 0 I6)), (2, .at (.int .i64)), (3, .at (.ptr 2 0)), (27, .at (.sl 1)), (28, .at (.int .i64)), (29, .at (.int .i64))]
noncomputable def ZCC : Spec := Spec.mk [.ro, Oe] []
noncomputable def Z6b : LoopDef (Tup Zab × OutD) := .plain Zgw ZCC (List (Int × Int)) (fun k x => Z2K k x.1.2.1 x.1.2.2.1.1 x.1.2.2.1.2.1 x.2.1 x.2.2.1 x.2.2.2.2.2.1 x.2.2.2.2.2.2.1) (fun z => (((), z, ()), (()))) (fun y => (y.1.2.1)) (fun _ => rfl)
noncomputable def Za6 : Nat → Int × Int × List (Int × Int) → List Int → Int → Option (List (Int × Int))
 | 0, _, _, _ => none
 | k + 1, p0, p1, p2 =>
  if (0 : Int) ≤ p2 then if p2 < (↑(List.length p0.2.2) : Int) then if decide (Prod.fst (List.getD p0.2.2 (Int.toNat p2) ((0 : Int), (0 : Int))) = 3) = true then Option.bind (ZcR k (Prod.fst (List.getD p0.2.2 (Int.toNat p2) ((0 : Int), (0 : Int))), Prod.snd (List.getD p0.2.2 (Int.toNat p2) ((0 : Int), (0 : Int))))) fun z0 => if (0 : Int) ≤ p2 then if p2 < (↑(List.length p0.2.2) : Int) then some (List.set p0.2.2 (Int.toNat p2) (z0.1, z0.2)) else none else none else if decide (Prod.fst (List.getD p0.2.2 (Int.toNat p2) ((0 : Int), (0 : Int))) = 6) = true then Option.bind (Z2K k p0.2.2 p0.1 p0.2.1 p1 p2 (↑(List.length p0.2.2) : Int) (0 : Int)) fun z2 => some z2 else some p0.2.2 else none else none
noncomputable def Z4l : FnDef := .of Zul Zab (List (Int × Int)) (fun k x => Za6 k x.1 x.2.1 x.2.2.1) Zqk Zjf ZzD
noncomputable def Zg8 : Code := Tryz.f135.body.getD .skip
noncomputable def Z8f : Ctx (Tup Zab × OutD) := { T := T, G := [(139, Z5z.E)], mvs := [], no := 1, n := 55, res := resOf T Zul Zab Tryz.f135.results.toList, loops := [(1, Z6b.E)], regs := [], conds := [], cuts := [] }
theorem Ztn (k : Nat) : EnvOK Tryz.prog k Z8f.G := (EnvOK.cons (ZHj k) (EnvOK.nil mixed))
noncomputable def Zc8 : Code := (findLoop 1 Zg8).getD .skip
theorem ZCa (k : Nat) (x : Zgw.D) : Z6b.lp (k + 1) x = loopK Z8f Z6b 1 Zc8 k x := by kernel_rfl
theorem ZAW (k : Nat) : LOK Tryz.prog Z8f k Zc8 := LOK.by [] (by kernel_rfl) AllOK.nil
theorem ZCy (x : Zgw.D) : Z6b.lp 0 x = none := by kernel_rfl
theorem ZyW (k : Nat) : EOK Tryz.prog Z8f k Z6b.E (.block 1 (.loop Zc8)) := Z2 T_ok Ztn ZCy ZCa ZAW k
theorem ZHx (k : Nat) (x : Tup Z4l.ps) : Z4l.f (k + 1) x = fnK Z4l Z8f Zg8 k x := by kernel_rfl
theorem ZGb (x : Tup Z4l.ps) : Z4l.f 0 x = none := by kernel_rfl
theorem ZGA (k : Nat) : LOK Tryz.prog Z8f k Zg8 := LOK.by [(Z6b.E, .block 1 (.loop Zc8))] (by kernel_rfl) (AllOK.cons (ZyW k) AllOK.nil)
theorem Zu0 (k : Nat) : SoundAt Tryz.prog k 135 Z4l.E := @Z0 Tryz.prog Z4l Z8f 135 Tryz.f135 Zg8 (by kernel_rfl) (by kernel_rfl) (by kernel_rfl) Tryz.func135 (by kernel_rfl) (by kernel_rfl) (by kernel_rfl) T_ok Ztn ZGA ZGb ZHx k
end
end Go.Proofs.YtmhfhiofcoggbaaGreat.Vs
