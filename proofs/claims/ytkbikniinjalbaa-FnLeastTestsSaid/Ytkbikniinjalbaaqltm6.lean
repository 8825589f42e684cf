/- The proof, part 7. -/
import Derived.Test.Ytkbikniinjalbaaqltm5
set_option maxRecDepth 100000
set_option maxHeartbeats 2000000
set_option linter.unusedVariables false
set_option linter.unusedSimpArgs false
namespace Go.Proofs.Ytkbikniinjalbaa.Vs
open Go.RowKit
section
noncomputable section
noncomputable def Z4V : List PK := [PK.mk (.slice 28 (.slice 3 I6)) false none false none]
noncomputable def Zl8 : List PK := [PK.mk (.slice 69 (.slice 71 (.slice 94 T6))) false none false none, PK.mk (.slice 3 I6) false none false none]
noncomputable def Zkb (r : List (List Int)) : Tup Z4V × OutD := ((r, ()), none)
noncomputable def ZjZ : Tup Z4V × OutD → Option (List (List Int))
 | (a, none) => some (a.1)
 | _ => none
theorem ZrN : ∀ b r, ZjZ b = some r → Zkb r = b := by
 rintro ⟨a, _ | _⟩ r h <;> cases h; rfl
noncomputable def Z5m : Nat → List (List Int) → List (List (List (Int × Int × Int))) → List Int → Int → Int → Int → Int → Option (List (List Int) × List (List (List (Int × Int × Int))) × List Int × Int × Int × Int × Int)
 | 0, _, _, _, _, _, _, _ => none
 | k + 1, o1, v0, v1, v6, v7, v10, v11 =>
  if decide (v7 < (↑(List.length o1) : Int)) = true then if (0 : Int) ≤ v7 then if v7 < (↑(List.length o1) : Int) then if (0 : Int) < (↑(List.length (List.getD o1 (Int.toNat v7) [])) : Int) then if (0 : Int) ≤ wrap64 (List.getD (List.getD o1 (Int.toNat v7) []) (Int.toNat (0 : Int)) (0 : Int) + 1) then if wrap64 (List.getD (List.getD o1 (Int.toNat v7) []) (Int.toNat (0 : Int)) (0 : Int) + 1) < (↑(List.length v0) : Int) then if (0 : Int) ≤ v6 then if v6 < (↑(List.length v0) : Int) then Option.bind (ZbD k (List.getD v0 (Int.toNat (wrap64 (List.getD (List.getD o1 (Int.toNat v7) []) (Int.toNat (0 : Int)) (0 : Int) + 1))) []) (List.getD v0 (Int.toNat v6) []) v1) fun z0 => if (!z0) = true then Z5m k o1 v0 v1 v6 (wrap64 (v7 + 1)) v10 v11 else some (o1, v0, v1, v6, v7, v10, v11) else none else none else none else none else none else none else none else some (o1, v0, v1, v6, v7, v10, v11)
noncomputable def Zd9 : Spec := Spec.mk [.ro, O5] [(0, .at (.snap 0 (.slice 71 (.slice 94 T6)))), (1, .at (.snap 0 I6)), (5, .at (.sl 1)), (6, .at (.int .i64)), (7, .at (.int .i64)), (10, .at (.int .i64)), (11, .at (.int .i64))]
noncomputable def Zva : Spec := Spec.mk [.ro, O5] [(0, .at (.snap 0 (.slice 71 (.slice 94 T6)))), (1, .at (.snap 0 I6)), (5, .at (.sl 1)), (6, .at (.int .i64)), (7, .at (.int .i64)), (10, .at (.int .i64)), (11, .at (.int .i64))]
noncomputable def Z4t : LoopDef (Tup Z4V × OutD) := .plain Zd9 Zva (List (List Int) × List (List (List (Int × Int × Int))) × List Int × Int × Int × Int × Int) (fun k x => Z5m k x.1.2.1 x.2.1 x.2.2.1 x.2.2.2.2.1 x.2.2.2.2.2.1 x.2.2.2.2.2.2.1 x.2.2.2.2.2.2.2.1) (fun z => (((), z.1, ()), (z.2.1, z.2.2.1, (), z.2.2.2.1, z.2.2.2.2.1, z.2.2.2.2.2.1, z.2.2.2.2.2.2, ()))) (fun y => (y.1.2.1, y.2.1, y.2.2.1, y.2.2.2.2.1, y.2.2.2.2.2.1, y.2.2.2.2.2.2.1, y.2.2.2.2.2.2.2.1)) (fun _ => rfl)
noncomputable def Z3H : Nat → List (List Int) → List (List (List (Int × Int × Int))) → List Int → Int → Int → Option (List (List Int))
 | 0, _, _, _, _, _ => none
 | k + 1, o1, v0, v1, v10, v11 =>
  if decide (v11 < v10) = true then Option.bind (Z5m k o1 v0 v1 v11 (0 : Int) v10 v11) fun z1 => if decide (z1.2.2.2.2.1 = (↑(List.length z1.1) : Int)) = true then if List.length z1.1 + (1 : Nat) ≤ (140737488355328 / 24 : Nat) then if (0 : Int) ≤ z1.2.2.2.2.1 then if z1.2.2.2.2.1 < (↑(List.length (z1.1 ++ [[]])) : Int) then if List.length (List.getD (z1.1 ++ [[]]) (Int.toNat z1.2.2.2.2.1) []) + List.length [wrap64 (z1.2.2.2.1 - 1)] ≤ (140737488355328 / 8 : Nat) then if (0 : Int) ≤ z1.2.2.2.2.1 then if z1.2.2.2.2.1 < (↑(List.length (z1.1 ++ [[]])) : Int) then if z1.2.2.2.2.1 = z1.2.2.2.2.1 then Z3H k (List.set (z1.1 ++ [[]]) (Int.toNat z1.2.2.2.2.1) (List.getD (z1.1 ++ [[]]) (Int.toNat z1.2.2.2.2.1) [] ++ [wrap64 (z1.2.2.2.1 - 1)])) z1.2.1 z1.2.2.1 z1.2.2.2.2.2.1 (wrap64 (z1.2.2.2.2.2.2 + 1)) else none else none else none else none else none else none else none else if (0 : Int) ≤ z1.2.2.2.2.1 then if z1.2.2.2.2.1 < (↑(List.length z1.1) : Int) then if List.length (List.getD z1.1 (Int.toNat z1.2.2.2.2.1) []) + List.length [wrap64 (z1.2.2.2.1 - 1)] ≤ (140737488355328 / 8 : Nat) then if (0 : Int) ≤ z1.2.2.2.2.1 then if z1.2.2.2.2.1 < (↑(List.length z1.1) : Int) then if z1.2.2.2.2.1 = z1.2.2.2.2.1 then Z3H k (List.set z1.1 (Int.toNat z1.2.2.2.2.1) (List.getD z1.1 (Int.toNat z1.2.2.2.2.1) [] ++ [wrap64 (z1.2.2.2.1 - 1)])) z1.2.1 z1.2.2.1 z1.2.2.2.2.2.1 (wrap64 (z1.2.2.2.2.2.2 + 1)) else none else none else none else none else none else none else some o1
noncomputable def Zdb : Spec := Spec.mk [.ro, O5] [(0, .at (.snap 0 (.slice 71 (.slice 94 T6)))), (1, .at (.snap 0 I6)), (5, .at (.sl 1)), (10, .at (.int .i64)), (11, .at (.int .i64))]
noncomputable def Zuo : Spec := Spec.mk [.ro, O5] [(5, .at (.sl 1))]
noncomputable def Z4x : LoopDef (Tup Z4V × OutD) := .plain Zdb Zuo (List (List Int)) (fun k x => Z3H k x.1.2.1 x.2.1 x.2.2.1 x.2.2.2.2.1 x.2.2.2.2.2.1) (fun z => (((), z, ()), ((), ()))) (fun y => (y.1.2.1)) (fun _ => rfl)
noncomputable def Z20 : Nat → List (List (List (Int × Int × Int))) → List Int → Option (List (List Int))
 | 0, _, _ => none
 | k + 1, p0, p1 =>
  Option.bind (Z3H k [] p0 p1 (↑(List.length p0) : Int) (0 : Int)) fun z2 => some z2
noncomputable def Z1p : FnDef := .of Zl8 Z4V (List (List Int)) (fun k x => Z20 k x.1 x.2.1) Zkb ZjZ ZrN
noncomputable def Z9p : Code := Try.f43.body.getD .skip
noncomputable def Z1V : Ctx (Tup Z4V × OutD) := { T := T, G := [(65, Z46.E)], mvs := [], no := 0, n := 59, res := resOf T Zl8 Z4V Try.f43.results.toList, loops := [(2, Z4t.E), (0, Z4x.E)], regs := [], conds := [], cuts := [] }
theorem ZfP (k : Nat) : EnvOK Try.prog k Z1V.G := (EnvOK.cons (Zq1 k) (EnvOK.nil mixed))
noncomputable def Z9K : Code := (findLoop 2 Z9p).getD .skip
theorem ZuE (k : Nat) (x : Zd9.D) : Z4t.lp (k + 1) x = loopK Z1V Z4t 2 Z9K k x := by kernel_rfl
theorem ZtX (k : Nat) : LOK Try.prog Z1V k Z9K := LOK.by [] (by kernel_rfl) AllOK.nil
theorem Zuv (x : Zd9.D) : Z4t.lp 0 x = none := by kernel_rfl
theorem Zsn (k : Nat) : EOK Try.prog Z1V k Z4t.E (.block 2 (.loop Z9K)) := Z4 T_ok ZfP Zuv ZuE ZtX k
noncomputable def Z9R : Code := (findLoop 0 Z9p).getD .skip
theorem ZtW (k : Nat) (x : Zdb.D) : Z4x.lp (k + 1) x = loopK Z1V Z4x 0 Z9R k x := by kernel_rfl
theorem Zuc (k : Nat) : LOK Try.prog Z1V k Z9R := LOK.by [(Z4t.E, .block 2 (.loop Z9K))] (by kernel_rfl) (AllOK.cons (Zsn k) AllOK.nil)
theorem ZuO (x : Zdb.D) : Z4x.lp 0 x = none := by kernel_rfl
theorem Zs5 (k : Nat) : EOK Try.prog Z1V k Z4x.E (.block 0 (.loop Z9R)) := Z4 T_ok ZfP ZuO ZtW Zuc k
theorem ZzX (k : Nat) (x : Tup Z1p.ps) : Z1p.f (k + 1) x = fnK Z1p Z1V Z9p k x := by kernel_rfl
theorem Zzl (x : Tup Z1p.ps) : Z1p.f 0 x = none := by kernel_rfl
theorem ZAz (k : Nat) : LOK Try.prog Z1V k Z9p := LOK.by [(Z4x.E, .block 0 (.loop Z9R))] (by kernel_rfl) (AllOK.cons (Zs5 k) AllOK.nil)
theorem Zcu (k : Nat) : SoundAt Try.prog k 43 Z1p.E := @Z5 Try.prog Z1p Z1V 43 Try.f43 Z9p (by kernel_rfl) (by kernel_rfl) (by kernel_rfl) Try.func43 (by kernel_rfl) (by kernel_rfl) (by kernel_rfl) T_ok ZfP ZAz Zzl ZzX k
noncomputable def Z6f : List PK := [PK.mk (.slice 3 I6) false none false none]
noncomputable def ZjG : List PK := [PK.mk (.slice 69 (.slice 71 (.slice 94 T6))) false none false none, PK.mk (.slice 3 I6) false none false none]
noncomputable def ZiJ (r : List Int) : Tup Z6f × OutD := ((r, ()), none)
noncomputable def Ziv : Tup Z6f × OutD → Option (List Int)
 | (a, none) => some (a.1)
 | _ => none
theorem Zq8 : ∀ b r, Ziv b = some r → ZiJ r = b := by
 rintro ⟨a, _ | _⟩ r h <;> cases h; rfl
noncomputable def Z3i : Nat → List Int → List (List (List (Int × Int × Int))) → List Int → Int → Option (List Int)
 | 0, _, _, _, _ => none
 | k + 1, o1, v0, v1, v6 =>
  if decide (v6 < (↑(List.length v0) : Int)) = true then if (0 : Int) < (↑(List.length v0) : Int) then if (0 : Int) ≤ v6 then if v6 < (↑(List.length v0) : Int) then Option.bind (ZbD k (List.getD v0 (Int.toNat (0 : Int)) []) (List.getD v0 (Int.toNat v6) []) v1) fun z0 => if (!z0) = true then if List.length o1 + List.length [wrap64 (v6 - 1)] ≤ (140737488355328 / 8 : Nat) then Z3i k (o1 ++ [wrap64 (v6 - 1)]) v0 v1 (wrap64 (v6 + 1)) else none else Z3i k o1 v0 v1 (wrap64 (v6 + 1)) else none else none else none else some o1
noncomputable def ZcG : Spec := Spec.mk [.ro, O3] [(0, .at (.snap 0 (.slice 71 (.slice 94 T6)))), (1, .at (.snap 0 I6)), (5, .at (.sl 1)), (6, .at (.int .i64))]
noncomputable def Zsr : Spec := Spec.mk [.ro, O3] [(5, .at (.sl 1))]
noncomputable def Z3R : LoopDef (Tup Z6f × OutD) := .plain ZcG Zsr (List Int) (fun k x => Z3i k x.1.2.1 x.2.1 x.2.2.1 x.2.2.2.2.1) (fun z => (((), z, ()), ((), ()))) (fun y => (y.1.2.1)) (fun _ => rfl)
noncomputable def Z2j : Nat → List (List (List (Int × Int × Int))) → List Int → Option (List Int)
 | 0, _, _ => none
 | k + 1, p0, p1 =>
  Option.bind (Z3i k [] p0 p1 (1 : Int)) fun z1 => some z1
noncomputable def Z1H : FnDef := .of ZjG Z6f (List Int) (fun k x => Z2j k x.1 x.2.1) ZiJ Ziv Zq8
noncomputable def Zbt : Code := Try.f50.body.getD .skip
noncomputable def Z4i : Ctx (Tup Z6f × OutD) := { T := T, G := [(65, Z46.E)], mvs := [], no := 0, n := 30, res := resOf T ZjG Z6f Try.f50.results.toList, loops := [(0, Z3R.E)], regs := [], conds := [], cuts := [] }
theorem Zkj (k : Nat) : EnvOK Try.prog k Z4i.G := (EnvOK.cons (Zq1 k) (EnvOK.nil mixed))
noncomputable def Z8V : Code := (findLoop 0 Zbt).getD .skip
theorem Zs4 (k : Nat) (x : ZcG.D) : Z3R.lp (k + 1) x = loopK Z4i Z3R 0 Z8V k x := by kernel_rfl
theorem Zst (k : Nat) : LOK Try.prog Z4i k Z8V := LOK.by [] (by kernel_rfl) AllOK.nil
theorem ZrP (x : ZcG.D) : Z3R.lp 0 x = none := by kernel_rfl
theorem Zrm (k : Nat) : EOK Try.prog Z4i k Z3R.E (.block 0 (.loop Z8V)) := Z4 T_ok Zkj ZrP Zs4 Zst k
theorem ZyR (k : Nat) (x : Tup Z1H.ps) : Z1H.f (k + 1) x = fnK Z1H Z4i Zbt k x := by kernel_rfl
theorem Zyh (x : Tup Z1H.ps) : Z1H.f 0 x = none := by kernel_rfl
theorem ZyB (k : Nat) : LOK Try.prog Z4i k Zbt := LOK.by [(Z3R.E, .block 0 (.loop Z8V))] (by kernel_rfl) (AllOK.cons (Zrm k) AllOK.nil)
theorem ZeQ (k : Nat) : SoundAt Try.prog k 50 Z1H.E := @Z5 Try.prog Z1H Z4i 50 Try.f50 Zbt (by kernel_rfl) (by kernel_rfl) (by kernel_rfl) Try.func50 (by kernel_rfl) (by kernel_rfl) (by kernel_rfl) T_ok Zkj ZyB Zyh ZyR k
noncomputable def Z96 : List PK := [PK.mk .bool false none false none]
noncomputable def Zqv : List PK := [PK.mk (.pair I6 (.pair I6 (.slice 73 P6))) true none false none, PK.mk (.slice 28 (.slice 3 I6)) false none false none]
noncomputable def ZgZ (r : Bool) : Tup Z96 × OutD := ((r, ()), none)
noncomputable def ZgU : Tup Z96 × OutD → Option (Bool)
 | (a, none) => some (a.1)
 | _ => none
theorem ZiH : ∀ b r, ZgU b = some r → ZgZ r = b := by
 rintro ⟨a, _ | _⟩ r h <;> cases h; rfl
noncomputable def Z7c : Nat → Int → Int → List (Int × Int) → List (List Int) → List (List Int) → Int → Int → Option (LR (List (List Int)) Bool)
 | 0, _, _, _, _, _, _, _ => none
 | k + 1, b1_0, b1_1, b1_2, v1, v7, v8, v9 =>
  if decide (v9 < v8) = true then if (0 : Int) ≤ v9 then if v9 < (↑(List.length v7) : Int) then if decide ((↑(List.length (List.getD v7 (Int.toNat v9) [])) : Int) > 8) = true then some (LR.ret false) else Option.bind (ZgO k (List.getD v7 (Int.toNat v9) []) (0 : Int) (wrap64 (b1_1 - 1))) fun z0 => if (!z0) = true then some (LR.ret false) else Z7c k b1_0 b1_1 b1_2 v1 v7 v8 (wrap64 (v9 + 1)) else none else none else some (LR.go v1)
noncomputable def ZeR : Spec := Spec.mk [.ro, O1] [(1, .at (.snap 0 (.slice 3 I6))), (2, .at (.ptr 1 0)), (7, .at (.snap 0 (.slice 3 I6))), (8, .at (.int .i64)), (9, .at (.int .i64))]
noncomputable def Zyi : Spec := Spec.mk [.ro] [(1, .at (.snap 0 (.slice 3 I6)))]
noncomputable def Z6e : LoopDef (Tup Z96 × OutD) := .rets ZeR Zyi (List (List Int)) (Bool) (fun k x => Z7c k x.1.2.1.1 x.1.2.1.2.1 x.1.2.1.2.2.1 x.2.1 x.2.2.2.1 x.2.2.2.2.1 x.2.2.2.2.2.1) (fun z => (((), ()), (z, ()))) (fun y => (y.2.1)) (fun _ => rfl) ZgZ ZgU ZiH
noncomputable def Zeg : Nat → Int × Int × List (Int × Int) → List (List Int) → Option Bool
 | 0, _, _ => none
 | k + 1, p0, p1 =>
  Option.bind (Z7c k p0.1 p0.2.1 p0.2.2 p1 p1 (↑(List.length p1) : Int) (0 : Int)) fun z1 => LR.on z1 (fun y1 => some (decide ((↑(List.length y1) : Int) ≤ 10))) fun r1 => some r1
noncomputable def Z5e : FnDef := .of Zqv Z96 (Bool) (fun k x => Zeg k x.1 x.2.1) ZgZ ZgU ZiH
noncomputable def Ze9 : Code := Try.f57.body.getD .skip
noncomputable def Z7e : Ctx (Tup Z96 × OutD) := { T := T, G := [(72, Z7P.E)], mvs := [], no := 0, n := 28, res := resOf T Zqv Z96 Try.f57.results.toList, loops := [(0, Z6e.E)], regs := [], conds := [], cuts := [] }
theorem ZqH (k : Nat) : EnvOK Try.prog k Z7e.G := (EnvOK.cons (ZFx k) (EnvOK.nil mixed))
noncomputable def Zbd : Code := (findLoop 0 Ze9).getD .skip
theorem ZxO (k : Nat) (x : ZeR.D) : Z6e.lp (k + 1) x = loopK Z7e Z6e 0 Zbd k x := by kernel_rfl
theorem ZxB (k : Nat) : LOK Try.prog Z7e k Zbd := LOK.by [] (by kernel_rfl) AllOK.nil
theorem Zys (x : ZeR.D) : Z6e.lp 0 x = none := by kernel_rfl
theorem Zvz (k : Nat) : EOK Try.prog Z7e k Z6e.E (.block 0 (.loop Zbd)) := Z4 T_ok ZqH Zys ZxO ZxB k
theorem ZDb (k : Nat) (x : Tup Z5e.ps) : Z5e.f (k + 1) x = fnK Z5e Z7e Ze9 k x := by kernel_rfl
theorem ZDi (x : Tup Z5e.ps) : Z5e.f 0 x = none := by kernel_rfl
theorem ZD8 (k : Nat) : LOK Try.prog Z7e k Ze9 := LOK.by [(Z6e.E, .block 0 (.loop Zbd))] (by kernel_rfl) (AllOK.cons (Zvz k) AllOK.nil)
theorem ZDl (k : Nat) : SoundAt Try.prog k 57 Z5e.E := @Z5 Try.prog Z5e Z7e 57 Try.f57 Ze9 (by kernel_rfl) (by kernel_rfl) (by kernel_rfl) Try.func57 (by kernel_rfl) (by kernel_rfl) (by kernel_rfl) T_ok ZqH ZD8 ZDi ZDb k
noncomputable def ZbU : List PK := [PK.mk .bool false none false none]
noncomputable def Zrg : List PK := [PK.mk (.pair I6 (.pair I6 (.slice 73 P6))) true none false none]
noncomputable def Zo7 (r : Bool) : Tup ZbU × OutD := ((r, ()), none)
noncomputable def ZnG : Tup ZbU × OutD → Option (Bool)
 | (a, none) => some (a.1)
 | _ => none
theorem Zxa : ∀ b r, ZnG b = some r → Zo7 r = b := by
 rintro ⟨a, _ | _⟩ r h <;> cases h; rfl
noncomputable def ZbR : Nat → Int × Int × List (Int × Int) → Option Bool
 | 0, _ => none
 | k + 1, p0 =>
  if decide (p0.1 ≥ 1) = true then if decide (p0.1 ≤ 10) = true then if decide (p0.2.1 ≥ 1) = true then if decide (p0.2.1 ≤ 9) = true then if decide ((↑(List.length p0.2.2) : Int) = wrap64 (p0.1 * p0.2.1)) = true then Option.bind (Zbg k p0.2.2) fun z0 => some z0 else some false else some false else some false else some false else some false
noncomputable def Z3X : FnDef := .of Zrg ZbU (Bool) (fun k x => ZbR k x.1) Zo7 ZnG Zxa
noncomputable def Zil : Code := Try.f61.body.getD .skip
noncomputable def Zeb : Ctx (Tup ZbU × OutD) := { T := T, G := [(75, Z3d.E)], mvs := [], no := 0, n := 37, res := resOf T Zrg ZbU Try.f61.results.toList, loops := [], regs := [], conds := [], cuts := [] }
theorem ZD9 (k : Nat) : EnvOK Try.prog k Zeb.G := (EnvOK.cons (Zy6 k) (EnvOK.nil mixed))
theorem ZD6 (k : Nat) (x : Tup Z3X.ps) : Z3X.f (k + 1) x = fnK Z3X Zeb Zil k x := by kernel_rfl
theorem ZCU (x : Tup Z3X.ps) : Z3X.f 0 x = none := by kernel_rfl
theorem ZCX (k : Nat) : LOK Try.prog Zeb k Zil := LOK.by [] (by kernel_rfl) AllOK.nil
theorem ZqS (k : Nat) : SoundAt Try.prog k 61 Z3X.E := @Z5 Try.prog Z3X Zeb 61 Try.f61 Zil (by kernel_rfl) (by kernel_rfl) (by kernel_rfl) Try.func61 (by kernel_rfl) (by kernel_rfl) (by kernel_rfl) T_ok ZD9 ZCX ZCU ZD6 k
noncomputable def Zap : List PK := [PK.mk .bool false none false none]
noncomputable def Ztw : List PK := [PK.mk (.pair I6 (.pair I6 (.slice 73 P6))) true none false none]
noncomputable def Zi7 (r : Bool) : Tup Zap × OutD := ((r, ()), none)
noncomputable def Zi6 : Tup Zap × OutD → Option (Bool)
 | (a, none) => some (a.1)
 | _ => none
theorem Zki : ∀ b r, Zi6 b = some r → Zi7 r = b := by
 rintro ⟨a, _ | _⟩ r h <;> cases h; rfl
noncomputable def Z88 : Nat → List (Int × Int) → Int → Int → Option (LR Unit Bool)
 | 0, _, _, _ => none
 | k + 1, v27, v28, v29 =>
  if decide (v29 < v28) = true then if (0 : Int) ≤ v29 then if v29 < (↑(List.length v27) : Int) then Option.bind (Zfq k (Prod.fst (List.getD v27 (Int.toNat v29) ((0 : Int), (0 : Int))), Prod.snd (List.getD v27 (Int.toNat v29) ((0 : Int), (0 : Int))))) fun z2 => if (!z2) = true then some (LR.ret false) else Z88 k v27 v28 (wrap64 (v29 + 1)) else none else none else some (LR.go ())
noncomputable def ZfR : Spec := Spec.mk [.ro] [(27, .at (.snap 0 P6)), (28, .at (.int .i64)), (29, .at (.int .i64))]
noncomputable def Zzq : Spec := Spec.mk [.ro] []
noncomputable def Z7h : LoopDef (Tup Zap × OutD) := .rets ZfR Zzq (Unit) (Bool) (fun k x => Z88 k x.2.1 x.2.2.1 x.2.2.2.1) (fun z => (((), ()), (()))) (fun y => ()) (fun _ => rfl) Zi7 Zi6 Zki
noncomputable def ZfB : Nat → Int × Int × List (Int × Int) → Option Bool
 | 0, _ => none
 | k + 1, p0 =>
  Option.bind (Z92 k p0.1 (1 : Int) (10 : Int)) fun z0 => if (!z0) = true then some false else Option.bind (Z92 k p0.2.1 (1 : Int) (9 : Int)) fun z1 => if (!z1) = true then some false else if decide ((↑(List.length p0.2.2) : Int) ≠ wrap64 (p0.1 * p0.2.1)) = true then some false else Option.bind (Z88 k p0.2.2 (↑(List.length p0.2.2) : Int) (0 : Int)) fun z3 => LR.on z3 (fun y3 => some true) fun r3 => some r3
noncomputable def Z6m : FnDef := .of Ztw Zap (Bool) (fun k x => ZfB k x.1) Zi7 Zi6 Zki
noncomputable def Zfv : Code := Try.f71.body.getD .skip
noncomputable def Z8w : Ctx (Tup Zap × OutD) := { T := T, G := [(85, Z4E.E), (86, Z6p.E)], mvs := [], no := 0, n := 37, res := resOf T Ztw Zap Try.f71.results.toList, loops := [(0, Z7h.E)], regs := [], conds := [], cuts := [] }
theorem Ztn (k : Nat) : EnvOK Try.prog k Z8w.G := (EnvOK.cons (Zin k) (EnvOK.cons (ZEq k) (EnvOK.nil mixed)))
noncomputable def Zcp : Code := (findLoop 0 Zfv).getD .skip
theorem ZAe (k : Nat) (x : ZfR.D) : Z7h.lp (k + 1) x = loopK Z8w Z7h 0 Zcp k x := by kernel_rfl
theorem ZzH (k : Nat) : LOK Try.prog Z8w k Zcp := LOK.by [] (by kernel_rfl) AllOK.nil
theorem ZAF (x : ZfR.D) : Z7h.lp 0 x = none := by kernel_rfl
theorem Zy1 (k : Nat) : EOK Try.prog Z8w k Z7h.E (.block 0 (.loop Zcp)) := Z4 T_ok Ztn ZAF ZAe ZzH k
theorem ZEX (k : Nat) (x : Tup Z6m.ps) : Z6m.f (k + 1) x = fnK Z6m Z8w Zfv k x := by kernel_rfl
theorem ZEB (x : Tup Z6m.ps) : Z6m.f 0 x = none := by kernel_rfl
theorem ZF2 (k : Nat) : LOK Try.prog Z8w k Zfv := LOK.by [(Z7h.E, .block 0 (.loop Zcp))] (by kernel_rfl) (AllOK.cons (Zy1 k) AllOK.nil)
theorem ZDV (k : Nat) : SoundAt Try.prog k 71 Z6m.E := @Z5 Try.prog Z6m Z8w 71 Try.f71 Zfv (by kernel_rfl) (by kernel_rfl) (by kernel_rfl) Try.func71 (by kernel_rfl) (by kernel_rfl) (by kernel_rfl) T_ok Ztn ZF2 ZEB ZEX k
noncomputable def Z4a : List PK := [PK.mk (.slice 81 T6) false none false none]
noncomputable def ZjJ : List PK := [PK.mk (.pair I6 (.pair I6 (.slice 73 P6))) true none false none]
noncomputable def Ziy (r : List (Int × Int × Int)) : Tup Z4a × OutD := ((r, ()), none)
noncomputable def ZiX : Tup Z4a × OutD → Option (List (Int × Int × Int))
 | (a, none) => some (a.1)
 | _ => none
theorem Zqk : ∀ b r, ZiX b = some r → Ziy r = b := by
 rintro ⟨a, _ | _⟩ r h <;> cases h; rfl
noncomputable def Z1y : Nat → Int → Int → List (Int × Int) → List (Int × Int × Int) → Int → Int → Int → Int → List (Int × Int) → Int → Int → Option (Int × Int × List (Int × Int) × List (Int × Int × Int) × List (Int × Int) × Int × Int)
 | 0, _, _, _, _, _, _, _, _, _, _, _ => none
 | k + 1, b1_0, b1_1, b1_2, o2, b3_0, b3_1, v4, v6, v8, v9, v10 =>
  if decide (v6 ≤ 3) = true then Option.bind (ZfI k (b3_0, b3_1) v6) fun z0 => if z0 = true then if b1_1 = 0 then none else if b1_1 = 0 then none else if List.length o2 + List.length [(v6, wrap64 (Int.tdiv v4 b1_1), Int.tmod v4 b1_1)] ≤ (140737488355328 / 24 : Nat) then Z1y k b1_0 b1_1 b1_2 (o2 ++ [(v6, wrap64 (Int.tdiv v4 b1_1), Int.tmod v4 b1_1)]) b3_0 b3_1 v4 (wrap64 (v6 + 1)) v8 v9 v10 else none else Z1y k b1_0 b1_1 b1_2 o2 b3_0 b3_1 v4 (wrap64 (v6 + 1)) v8 v9 v10 else some (b1_0, b1_1, b1_2, o2, v8, v9, v10)
noncomputable def Zcr : Spec := Spec.mk [.ro, O1, Of, .box 73 [.int .i64, .int .i64]] [(1, .at (.ptr 1 0)), (3, .at (.sl 2)), (4, .at (.int .i64)), (5, .at (.ptr 3 0)), (6, .at (.int .i64)), (8, .at (.snap 0 P6)), (9, .at (.int .i64)), (10, .at (.int .i64))]
noncomputable def ZsH : Spec := Spec.mk [.ro, O1, Of] [(1, .at (.ptr 1 0)), (3, .at (.sl 2)), (8, .at (.snap 0 P6)), (9, .at (.int .i64)), (10, .at (.int .i64))]
noncomputable def Z41 : LoopDef (Tup Z4a × OutD) := .plain Zcr ZsH (Int × Int × List (Int × Int) × List (Int × Int × Int) × List (Int × Int) × Int × Int) (fun k x => Z1y k x.1.2.1.1 x.1.2.1.2.1 x.1.2.1.2.2.1 x.1.2.2.1 x.1.2.2.2.1.1 x.1.2.2.2.1.2.1 x.2.2.2.1 x.2.2.2.2.2.1 x.2.2.2.2.2.2.1 x.2.2.2.2.2.2.2.1 x.2.2.2.2.2.2.2.2.1) (fun z => (((), (z.1, z.2.1, z.2.2.1, ()), z.2.2.2.1, ()), ((), (), z.2.2.2.2.1, z.2.2.2.2.2.1, z.2.2.2.2.2.2, ()))) (fun y => (y.1.2.1.1, y.1.2.1.2.1, y.1.2.1.2.2.1, y.1.2.2.1, y.2.2.2.1, y.2.2.2.2.1, y.2.2.2.2.2.1)) (fun _ => rfl)
noncomputable def Z3h : Nat → Int → Int → List (Int × Int) → List (Int × Int × Int) → List (Int × Int) → Int → Int → Option (List (Int × Int × Int))
 | 0, _, _, _, _, _, _, _ => none
 | k + 1, b1_0, b1_1, b1_2, o2, v8, v9, v10 =>
  if decide (v10 < v9) = true then if (0 : Int) ≤ v10 then if v10 < (↑(List.length v8) : Int) then Option.bind (Z1y k b1_0 b1_1 b1_2 o2 (Prod.fst (List.getD v8 (Int.toNat v10) ((0 : Int), (0 : Int)))) (Prod.snd (List.getD v8 (Int.toNat v10) ((0 : Int), (0 : Int)))) v10 (1 : Int) v8 v9 v10) fun z1 => Z3h k z1.1 z1.2.1 z1.2.2.1 z1.2.2.2.1 z1.2.2.2.2.1 z1.2.2.2.2.2.1 (wrap64 (z1.2.2.2.2.2.2 + 1)) else none else none else some o2
noncomputable def Zck : Spec := Spec.mk [.ro, O1, Of] [(1, .at (.ptr 1 0)), (3, .at (.sl 2)), (8, .at (.snap 0 P6)), (9, .at (.int .i64)), (10, .at (.int .i64))]
noncomputable def ZrM : Spec := Spec.mk [.ro, Of] [(3, .at (.sl 1))]
noncomputable def Z3T : LoopDef (Tup Z4a × OutD) := .plain Zck ZrM (List (Int × Int × Int)) (fun k x => Z3h k x.1.2.1.1 x.1.2.1.2.1 x.1.2.1.2.2.1 x.1.2.2.1 x.2.2.2.1 x.2.2.2.2.1 x.2.2.2.2.2.1) (fun z => (((), z, ()), ((), ()))) (fun y => (y.1.2.1)) (fun _ => rfl)
noncomputable def Zbu : Nat → Int × Int × List (Int × Int) → Option (List (Int × Int × Int))
 | 0, _ => none
 | k + 1, p0 =>
  Option.bind (Z3h k p0.1 p0.2.1 p0.2.2 [] p0.2.2 (↑(List.length p0.2.2) : Int) (0 : Int)) fun z2 => some z2
noncomputable def Z3a : FnDef := .of ZjJ Z4a (List (Int × Int × Int)) (fun k x => Zbu k x.1) Ziy ZiX Zqk
noncomputable def Z8A : Code := Try.f74.body.getD .skip
noncomputable def Z1J : Ctx (Tup Z4a × OutD) := { T := T, G := [(88, Z6k.E)], mvs := [], no := 0, n := 37, res := resOf T ZjJ Z4a Try.f74.results.toList, loops := [(2, Z41.E), (0, Z3T.E)], regs := [], conds := [], cuts := [] }
theorem ZeB (k : Nat) : EnvOK Try.prog k Z1J.G := (EnvOK.cons (ZEi k) (EnvOK.nil mixed))
noncomputable def Z8K : Code := (findLoop 2 Z8A).getD .skip
theorem Zsy (k : Nat) (x : Zcr.D) : Z41.lp (k + 1) x = loopK Z1J Z41 2 Z8K k x := by kernel_rfl
theorem ZrY (k : Nat) : LOK Try.prog Z1J k Z8K := LOK.by [] (by kernel_rfl) AllOK.nil
theorem ZsF (x : Zcr.D) : Z41.lp 0 x = none := by kernel_rfl
theorem ZpR (k : Nat) : EOK Try.prog Z1J k Z41.E (.block 2 (.loop Z8K)) := Z4 T_ok ZeB ZsF Zsy ZrY k
noncomputable def Z8J : Code := (findLoop 0 Z8A).getD .skip
theorem ZsE (k : Nat) (x : Zck.D) : Z3T.lp (k + 1) x = loopK Z1J Z3T 0 Z8J k x := by kernel_rfl
theorem Zs8 (k : Nat) : LOK Try.prog Z1J k Z8J := LOK.by [(Z41.E, .block 2 (.loop Z8K))] (by kernel_rfl) (AllOK.cons (ZpR k) AllOK.nil)
theorem ZsQ (x : Zck.D) : Z3T.lp 0 x = none := by kernel_rfl
theorem Zrh (k : Nat) : EOK Try.prog Z1J k Z3T.E (.block 0 (.loop Z8J)) := Z4 T_ok ZeB ZsQ ZsE Zs8 k
theorem Zyt (k : Nat) (x : Tup Z3a.ps) : Z3a.f (k + 1) x = fnK Z3a Z1J Z8A k x := by kernel_rfl
theorem Zyz (x : Tup Z3a.ps) : Z3a.f 0 x = none := by kernel_rfl
theorem Zy9 (k : Nat) : LOK Try.prog Z1J k Z8A := LOK.by [(Z3T.E, .block 0 (.loop Z8J))] (by kernel_rfl) (AllOK.cons (Zrh k) AllOK.nil)
theorem ZxW (k : Nat) : SoundAt Try.prog k 74 Z3a.E := @Z5 Try.prog Z3a Z1J 74 Try.f74 Z8A (by kernel_rfl) (by kernel_rfl) (by kernel_rfl) Try.func74 (by kernel_rfl) (by kernel_rfl) (by kernel_rfl) T_ok ZeB Zy9 Zyz Zyt k
noncomputable def ZbI : List PK := [PK.mk .bool false none false none]
noncomputable def Zq9 : List PK := [PK.mk P6 true none false none, PK.mk I6 false none false none]
noncomputable def Zon (r : Bool) : Tup ZbI × OutD := ((r, ()), none)
noncomputable def ZnN : Tup ZbI × OutD → Option (Bool)
 | (a, none) => some (a.1)
 | _ => none
theorem Zw8 : ∀ b r, ZnN b = some r → Zon r = b := by
 rintro ⟨a, _ | _⟩ r h <;> cases h; rfl
noncomputable def Zeq : Nat → Int × Int → Int → Option Bool
 | 0, _, _ => none
 | k + 1, p0, p1 =>
  if decide (p1 = 1) = true then Option.bind (Z2Q k (p0.1, p0.2)) fun z0 => some z0 else if decide (p1 = 2) = true then some true else if decide (p1 = 3) = true then Option.bind (Z2Q k (p0.1, p0.2)) fun z1 => if z1 = true then some true else if decide (p0.1 = 1) = true then some true else some (decide (p0.1 = 2)) else some false
noncomputable def Z5n : FnDef := .of Zq9 ZbI (Bool) (fun k x => Zeq k x.1 x.2.1) Zon ZnN Zw8
noncomputable def Zib : Code := Try.f77.body.getD .skip
noncomputable def Zeh : Ctx (Tup ZbI × OutD) := { T := T, G := [(94, Z2N.E)], mvs := [], no := 0, n := 26, res := resOf T Zq9 ZbI Try.f77.results.toList, loops := [], regs := [], conds := [], cuts := [] }
theorem ZDf (k : Nat) : EnvOK Try.prog k Zeh.G := (EnvOK.cons (ZmC k) (EnvOK.nil mixed))
theorem ZDn (k : Nat) (x : Tup Z5n.ps) : Z5n.f (k + 1) x = fnK Z5n Zeh Zib k x := by kernel_rfl
theorem ZDr (x : Tup Z5n.ps) : Z5n.f 0 x = none := by kernel_rfl
theorem ZCB (k : Nat) : LOK Try.prog Zeh k Zib := LOK.by [] (by kernel_rfl) AllOK.nil
theorem ZD4 (k : Nat) : SoundAt Try.prog k 77 Z5n.E := @Z5 Try.prog Z5n Zeh 77 Try.f77 Zib (by kernel_rfl) (by kernel_rfl) (by kernel_rfl) Try.func77 (by kernel_rfl) (by kernel_rfl) (by kernel_rfl) T_ok ZDf ZCB ZDr ZDn k
noncomputable def Z9z : List PK := [PK.mk .bool false none false none]
noncomputable def Zlh : List PK := [PK.mk (.pair (.slice 5 (.int .u8)) (.pair I6 (.int .u64))) false none false (some 89), PK.mk I6 false none false none]
noncomputable def ZjF (r : Bool × Int × Int) : Tup Z9z × OutD := ((r.1, ()), some ⟨Ty.pair (Ty.slice (5 : Nat) (Ty.int .u8)) (Ty.pair (Ty.int .i64) (Ty.int .u64)), [([], r.2)]⟩)
noncomputable def ZeF : Tup Z9z × OutD → Option (Bool × Int × Int)
 | (a, some ⟨u, ys⟩) => if h : u = Ty.pair (Ty.slice (5 : Nat) (Ty.int .u8)) (Ty.pair (Ty.int .i64) (Ty.int .u64)) then (match castU h ys with
  | [([], y)] => some (a.1, y)
  | _ => none) else none
 | _ => none
theorem ZrO : ∀ b r, ZeF b = some r → ZjF r = b := by
 rintro ⟨a, o⟩ r h
 cases o with
 | none => cases h
 | some s =>
  obtain ⟨u, ys⟩ := s
  simp only [ZeF] at h
  split at h
  ·rename_i hu
   subst hu
   match ys, h with
   | [], h => cases (show (none : Option _) = some r from h)
   | [([], y)], h => injection (show some _ = some r from h) with h; subst h; rfl
   | [(_ :: _, y)], h => cases (show (none : Option _) = some r from h)
   | (h1, _) :: _ :: _, h => cases h1 <;> cases (show (none : Option _) = some r from h)
  ·cases h
noncomputable def ZC : Nat → List Int × Int × Int → Int → Option (Bool × Int × Int)
 | 0, _, _ => none
 | k + 1, p0, p1 =>
  Option.bind (Z1 k (p0.1, p0.2.1, p0.2.2) p1) fun z0 => some (decide (z0.1 = (0 : Int)), z0.2.1, z0.2.2)
noncomputable def Z1r : FnDef := .of Zlh Z9z (Bool × Int × Int) (fun k x => ZC k x.1 x.2.1) ZjF ZeF ZrO
noncomputable def ZfJ : Code := Try.f83.body.getD .skip
noncomputable def Zcl : Ctx (Tup Z9z × OutD) := { T := T, G := [(80, Zk.E)], mvs := [], no := 2, n := 9, res := resOf T Zlh Z9z Try.f83.results.toList, loops := [], regs := [], conds := [], cuts := [] }
theorem ZzV (k : Nat) : EnvOK Try.prog k Zcl.G := (EnvOK.cons (Z2n k) (EnvOK.nil mixed))
theorem ZAC (k : Nat) (x : Tup Z1r.ps) : Z1r.f (k + 1) x = fnK Z1r Zcl ZfJ k x := by kernel_rfl
theorem ZAT (x : Tup Z1r.ps) : Z1r.f 0 x = none := by kernel_rfl
theorem ZzD (k : Nat) : LOK Try.prog Zcl k ZfJ := LOK.by [] (by kernel_rfl) AllOK.nil
theorem Zcq (k : Nat) : SoundAt Try.prog k 83 Z1r.E := @Z5 Try.prog Z1r Zcl 83 Try.f83 ZfJ (by kernel_rfl) (by kernel_rfl) (by kernel_rfl) Try.func83 (by kernel_rfl) (by kernel_rfl) (by kernel_rfl) T_ok ZzV ZzD ZAT ZAC k
noncomputable def Z7F : List PK := [PK.mk I6 false none false none]
noncomputable def ZiW : List PK := [PK.mk (.pair (.slice 5 (.int .u8)) (.pair I6 (.int .u64))) false none false (some 89), PK.mk (.slice 3 I6) false none false none]
noncomputable def ZhP (r : Int × Int × Int) : Tup Z7F × OutD := ((r.1, ()), some ⟨Ty.pair (Ty.slice (5 : Nat) (Ty.int .u8)) (Ty.pair (Ty.int .i64) (Ty.int .u64)), [([], r.2)]⟩)
noncomputable def Zd3 : Tup Z7F × OutD → Option (Int × Int × Int)
 | (a, some ⟨u, ys⟩) => if h : u = Ty.pair (Ty.slice (5 : Nat) (Ty.int .u8)) (Ty.pair (Ty.int .i64) (Ty.int .u64)) then (match castU h ys with
  | [([], y)] => some (a.1, y)
  | _ => none) else none
 | _ => none
theorem Zpf : ∀ b r, Zd3 b = some r → ZhP r = b := by
 rintro ⟨a, o⟩ r h
 cases o with
 | none => cases h
 | some s =>
  obtain ⟨u, ys⟩ := s
  simp only [Zd3] at h
  split at h
  ·rename_i hu
   subst hu
   match ys, h with
   | [], h => cases (show (none : Option _) = some r from h)
   | [([], y)], h => injection (show some _ = some r from h) with h; subst h; rfl
   | [(_ :: _, y)], h => cases (show (none : Option _) = some r from h)
   | (h1, _) :: _ :: _, h => cases h1 <;> cases (show (none : Option _) = some r from h)
  ·cases h
noncomputable def Zb : Nat → List Int × Int × Int → List Int → Option (Int × Int × Int)
 | 0, _, _ => none
 | k + 1, p0, p1 =>
  Option.bind (Z1 k (p0.1, p0.2.1, p0.2.2) (↑(List.length p1) : Int)) fun z0 => if (0 : Int) ≤ z0.1 then if z0.1 < (↑(List.length p1) : Int) then some (List.getD p1 (Int.toNat z0.1) (0 : Int), z0.2.1, z0.2.2) else none else none
noncomputable def ZI : FnDef := .of ZiW Z7F (Int × Int × Int) (fun k x => Zb k x.1 x.2.1) ZhP Zd3 Zpf
noncomputable def ZdR : Code := Try.f84.body.getD .skip
noncomputable def Zav : Ctx (Tup Z7F × OutD) := { T := T, G := [(80, Zk.E)], mvs := [], no := 2, n := 12, res := resOf T ZiW Z7F Try.f84.results.toList, loops := [], regs := [], conds := [], cuts := [] }
theorem Zwm (k : Nat) : EnvOK Try.prog k Zav.G := (EnvOK.cons (Z2n k) (EnvOK.nil mixed))
theorem Zw2 (k : Nat) (x : Tup ZI.ps) : ZI.f (k + 1) x = fnK ZI Zav ZdR k x := by kernel_rfl
theorem Zw3 (x : Tup ZI.ps) : ZI.f 0 x = none := by kernel_rfl
theorem Zx4 (k : Nat) : LOK Try.prog Zav k ZdR := LOK.by [] (by kernel_rfl) AllOK.nil
theorem Z57 (k : Nat) : SoundAt Try.prog k 84 ZI.E := @Z5 Try.prog ZI Zav 84 Try.f84 ZdR (by kernel_rfl) (by kernel_rfl) (by kernel_rfl) Try.func84 (by kernel_rfl) (by kernel_rfl) (by kernel_rfl) T_ok Zwm Zx4 Zw3 Zw2 k
noncomputable def Z60 : List PK := [PK.mk T6 true none false none]
noncomputable def ZjI : List PK := [PK.mk (.pair I6 (.pair I6 (.slice 73 P6))) true (some (2, 73, .pair I6 I6)) false none, PK.mk (.slice 3 I6) false none false none, PK.mk (.slice 3 I6) false none false none, PK.mk I6 false none false none]
noncomputable def Ze3 (r : (Int × Int × Int) × List (Int × Int)) : Tup Z60 × OutD := ((r.1, ()), some ⟨Ty.pair (Ty.int .i64) (Ty.int .i64), r.2⟩)
noncomputable def ZaO : Tup Z60 × OutD → Option ((Int × Int × Int) × List (Int × Int))
 | (a, some ⟨u, ys⟩) => if h : u = Ty.pair (Ty.int .i64) (Ty.int .i64) then some (a.1, castU h ys) else none
 | _ => none
theorem Zg8 : ∀ b r, ZaO b = some r → Ze3 r = b := by
 rintro ⟨a, o⟩ r h
 cases o with
 | none => cases h
 | some s =>
  obtain ⟨u, ys⟩ := s
  simp only [ZaO] at h
  split at h
  ·rename_i hu; subst hu; injection h with h; subst h; rfl
  ·cases h
noncomputable def ZJ : Nat → List (Int × Int) → Int → Int → Int → Int → Int → List Int → List Int → Int → Int → Int → Option (LR (List (Int × Int) × Int × Int × Int × Int × Int × Int) ((Int × Int × Int) × List (Int × Int)))
 | 0, _, _, _, _, _, _, _, _, _, _, _ => none
 | k + 1, o1, b2_0, b2_1, b3_0, b3_1, b3_2, v1, v2, v3, v9, v10 =>
  if decide (v10 < b2_0) = true then if (0 : Int) ≤ wrap64 (wrap64 (v10 * b2_1) + v3) then if wrap64 (wrap64 (v10 * b2_1) + v3) < (↑(List.length v2) : Int) then if decide (List.getD v2 (Int.toNat (wrap64 (wrap64 (v10 * b2_1) + v3))) (0 : Int) = 2) = true then some (LR.ret (((3 : Int), v10, v3), o1)) else if (0 : Int) ≤ wrap64 (wrap64 (v10 * b2_1) + v3) then if wrap64 (wrap64 (v10 * b2_1) + v3) < (↑(List.length o1) : Int) then Option.bind (Zfl k (Prod.fst (List.getD o1 (Int.toNat (wrap64 (wrap64 (v10 * b2_1) + v3))) ((0 : Int), (0 : Int))), Prod.snd (List.getD o1 (Int.toNat (wrap64 (wrap64 (v10 * b2_1) + v3))) ((0 : Int), (0 : Int)))) v9) fun z0 => if (!z0.2) = true then some (LR.ret (((2 : Int), v10, v3), o1)) else if (0 : Int) ≤ wrap64 (wrap64 (v10 * b2_1) + v3) then if wrap64 (wrap64 (v10 * b2_1) + v3) < (↑(List.length v2) : Int) then if decide (List.getD v2 (Int.toNat (wrap64 (wrap64 (v10 * b2_1) + v3))) (0 : Int) = 3) = true then if (0 : Int) ≤ wrap64 (wrap64 (v10 * b2_1) + v3) then if wrap64 (wrap64 (v10 * b2_1) + v3) < (↑(List.length o1) : Int) then Option.bind (Z2Q k (Prod.fst (List.getD o1 (Int.toNat (wrap64 (wrap64 (v10 * b2_1) + v3))) ((0 : Int), (0 : Int))), Prod.snd (List.getD o1 (Int.toNat (wrap64 (wrap64 (v10 * b2_1) + v3))) ((0 : Int), (0 : Int))))) fun z1 => if z1 = true then Option.bind (Z65 k (b2_0, b2_1, o1) v1 v2 (wrap64 (wrap64 (v10 * b2_1) + v3))) fun z2 => if decide (wrap64 (v3 + wrap64 ((0 : Int) - z0.1)) < 0) = true then some (LR.ret (((3 : Int), v10, wrap64 (v3 + wrap64 ((0 : Int) - z0.1))), z2)) else if decide (wrap64 (v3 + wrap64 ((0 : Int) - z0.1)) ≥ b2_1) = true then some (LR.ret (((3 : Int), v10, wrap64 (v3 + wrap64 ((0 : Int) - z0.1))), z2)) else ZJ k z2 b2_0 b2_1 b3_0 b3_1 b3_2 v1 v2 (wrap64 (v3 + wrap64 ((0 : Int) - z0.1))) (wrap64 ((0 : Int) - wrap64 ((0 : Int) - z0.1))) (wrap64 (v10 + 1)) else if decide (wrap64 (v3 + wrap64 ((0 : Int) - z0.1)) < 0) = true then some (LR.ret (((3 : Int), v10, wrap64 (v3 + wrap64 ((0 : Int) - z0.1))), o1)) else if decide (wrap64 (v3 + wrap64 ((0 : Int) - z0.1)) ≥ b2_1) = true then some (LR.ret (((3 : Int), v10, wrap64 (v3 + wrap64 ((0 : Int) - z0.1))), o1)) else ZJ k o1 b2_0 b2_1 b3_0 b3_1 b3_2 v1 v2 (wrap64 (v3 + wrap64 ((0 : Int) - z0.1))) (wrap64 ((0 : Int) - wrap64 ((0 : Int) - z0.1))) (wrap64 (v10 + 1)) else none else none else if (0 : Int) ≤ wrap64 (wrap64 (v10 * b2_1) + v3) then if wrap64 (wrap64 (v10 * b2_1) + v3) < (↑(List.length o1) : Int) then Option.bind (Z2Q k (Prod.fst (List.getD o1 (Int.toNat (wrap64 (wrap64 (v10 * b2_1) + v3))) ((0 : Int), (0 : Int))), Prod.snd (List.getD o1 (Int.toNat (wrap64 (wrap64 (v10 * b2_1) + v3))) ((0 : Int), (0 : Int))))) fun z3 => if z3 = true then Option.bind (Z65 k (b2_0, b2_1, o1) v1 v2 (wrap64 (wrap64 (v10 * b2_1) + v3))) fun z4 => if decide (wrap64 (v3 + z0.1) < 0) = true then some (LR.ret (((3 : Int), v10, wrap64 (v3 + z0.1)), z4)) else if decide (wrap64 (v3 + z0.1) ≥ b2_1) = true then some (LR.ret (((3 : Int), v10, wrap64 (v3 + z0.1)), z4)) else ZJ k z4 b2_0 b2_1 b3_0 b3_1 b3_2 v1 v2 (wrap64 (v3 + z0.1)) (wrap64 ((0 : Int) - z0.1)) (wrap64 (v10 + 1)) else if decide (wrap64 (v3 + z0.1) < 0) = true then some (LR.ret (((3 : Int), v10, wrap64 (v3 + z0.1)), o1)) else if decide (wrap64 (v3 + z0.1) ≥ b2_1) = true then some (LR.ret (((3 : Int), v10, wrap64 (v3 + z0.1)), o1)) else ZJ k o1 b2_0 b2_1 b3_0 b3_1 b3_2 v1 v2 (wrap64 (v3 + z0.1)) (wrap64 ((0 : Int) - z0.1)) (wrap64 (v10 + 1)) else none else none else none else none else none else none else none else none else some (LR.go (o1, b2_0, b2_1, b3_0, b3_1, b3_2, v3))
noncomputable def Zcs : Spec := Spec.mk [.ro, Ol, Og, O8] [(1, .at (.snap 0 I6)), (2, .at (.snap 0 I6)), (3, .at (.int .i64)), (4, .at (.ptr 2 0)), (8, .at (.ptr 3 0)), (9, .at (.int .i64)), (10, .at (.int .i64))]
noncomputable def ZsC : Spec := Spec.mk [.ro, Ol, Og, O8] [(3, .at (.int .i64)), (4, .at (.ptr 2 0)), (8, .at (.ptr 3 0))]
noncomputable def Z44 : LoopDef (Tup Z60 × OutD) := .rets Zcs ZsC (List (Int × Int) × Int × Int × Int × Int × Int × Int) ((Int × Int × Int) × List (Int × Int)) (fun k x => ZJ k x.1.2.1 x.1.2.2.1.1 x.1.2.2.1.2.1 x.1.2.2.2.1.1 x.1.2.2.2.1.2.1 x.1.2.2.2.1.2.2.1 x.2.1 x.2.2.1 x.2.2.2.1 x.2.2.2.2.2.2.1 x.2.2.2.2.2.2.2.1) (fun z => (((), z.1, (z.2.1, z.2.2.1, (), ()), (z.2.2.2.1, z.2.2.2.2.1, z.2.2.2.2.2.1, ()), ()), (z.2.2.2.2.2.2, (), (), ()))) (fun y => (y.1.2.1, y.1.2.2.1.1, y.1.2.2.1.2.1, y.1.2.2.2.1.1, y.1.2.2.2.1.2.1, y.1.2.2.2.1.2.2.1, y.2.1)) (fun _ => rfl) Ze3 ZaO Zg8
noncomputable def Zbo : Nat → Int × Int × List (Int × Int) → List Int → List Int → Int → Option ((Int × Int × Int) × List (Int × Int))
 | 0, _, _, _, _ => none
 | k + 1, p0, p1, p2, p3 =>
  Option.bind (ZJ k p0.2.2 p0.1 p0.2.1 (0 : Int) (0 : Int) (0 : Int) p1 p2 p3 (0 : Int) (0 : Int)) fun z5 => LR.on z5 (fun y5 => some (((1 : Int), y5.2.1, y5.2.2.2.2.2.2), y5.1)) fun r5 => some r5
noncomputable def Z39 : FnDef := .of ZjI Z60 ((Int × Int × Int) × List (Int × Int)) (fun k x => Zbo k x.1 x.2.1 x.2.2.1 x.2.2.2.1) Ze3 ZaO Zg8
noncomputable def Zbn : Code := Try.f93.body.getD .skip
noncomputable def Z4b : Ctx (Tup Z60 × OutD) := { T := T, G := [(106, Z6x.E), (94, Z2N.E), (107, Z38.E)], mvs := [], no := 1, n := 87, res := resOf T ZjI Z60 Try.f93.results.toList, loops := [(0, Z44.E)], regs := [], conds := [], cuts := [] }
theorem ZjE (k : Nat) : EnvOK Try.prog k Z4b.G := (EnvOK.cons (ZEh k) (EnvOK.cons (ZmC k) (EnvOK.cons (Zyg k) (EnvOK.nil mixed))))
noncomputable def Z8Q : Code := (findLoop 0 Zbn).getD .skip
theorem ZrC (k : Nat) (x : Zcs.D) : Z44.lp (k + 1) x = loopK Z4b Z44 0 Z8Q k x := by kernel_rfl
theorem Zrz (k : Nat) : LOK Try.prog Z4b k Z8Q := LOK.by [] (by kernel_rfl) AllOK.nil
theorem Zsg (x : Zcs.D) : Z44.lp 0 x = none := by kernel_rfl
theorem ZqT (k : Nat) : EOK Try.prog Z4b k Z44.E (.block 0 (.loop Z8Q)) := Z4 T_ok ZjE Zsg ZrC Zrz k
theorem ZyJ (k : Nat) (x : Tup Z39.ps) : Z39.f (k + 1) x = fnK Z39 Z4b Zbn k x := by kernel_rfl
theorem Zyc (x : Tup Z39.ps) : Z39.f 0 x = none := by kernel_rfl
theorem Zxm (k : Nat) : LOK Try.prog Z4b k Zbn := LOK.by [(Z44.E, .block 0 (.loop Z8Q))] (by kernel_rfl) (AllOK.cons (ZqT k) AllOK.nil)
theorem Zyu (k : Nat) : SoundAt Try.prog k 93 Z39.E := @Z5 Try.prog Z39 Z4b 93 Try.f93 Zbn (by kernel_rfl) (by kernel_rfl) (by kernel_rfl) Try.func93 (by kernel_rfl) (by kernel_rfl) (by kernel_rfl) T_ok ZjE Zxm Zyc ZyJ k
noncomputable def Z8E : List PK := [PK.mk P6 true none false none]
noncomputable def Zk6 : List PK := [PK.mk (.pair (.slice 5 (.int .u8)) (.pair I6 (.int .u64))) false none false (some 89)]
noncomputable def ZiT (r : (Int × Int) × Int × Int) : Tup Z8E × OutD := ((r.1, ()), some ⟨Ty.pair (Ty.slice (5 : Nat) (Ty.int .u8)) (Ty.pair (Ty.int .i64) (Ty.int .u64)), [([], r.2)]⟩)
noncomputable def ZdX : Tup Z8E × OutD → Option ((Int × Int) × Int × Int)
 | (a, some ⟨u, ys⟩) => if h : u = Ty.pair (Ty.slice (5 : Nat) (Ty.int .u8)) (Ty.pair (Ty.int .i64) (Ty.int .u64)) then (match castU h ys with
  | [([], y)] => some (a.1, y)
  | _ => none) else none
 | _ => none
theorem Zqh : ∀ b r, ZdX b = some r → ZiT r = b := by
 rintro ⟨a, o⟩ r h
 cases o with
 | none => cases h
 | some s =>
  obtain ⟨u, ys⟩ := s
  simp only [ZdX] at h
  split at h
  ·rename_i hu
   subst hu
   match ys, h with
   | [], h => cases (show (none : Option _) = some r from h)
   | [([], y)], h => injection (show some _ = some r from h) with h; subst h; rfl
   | [(_ :: _, y)], h => cases (show (none : Option _) = some r from h)
   | (h1, _) :: _ :: _, h => cases h1 <;> cases (show (none : Option _) = some r from h)
  ·cases h
noncomputable def Z4e : Nat → List Int × Int × Int → Option ((Int × Int) × Int × Int)
 | 0, _ => none
 | k + 1, p0 =>
  Option.bind (Zh1 k) fun z0 => Option.bind (Z1 k (p0.1, p0.2.1, p0.2.2) (↑(List.length z0) : Int)) fun z1 => if (0 : Int) ≤ z1.1 then if z1.1 < (↑(List.length z0) : Int) then some ((Prod.fst (List.getD z0 (Int.toNat z1.1) ((0 : Int), (0 : Int))), Prod.snd (List.getD z0 (Int.toNat z1.1) ((0 : Int), (0 : Int)))), z1.2.1, z1.2.2) else none else none
noncomputable def Z2m : FnDef := .of Zk6 Z8E ((Int × Int) × Int × Int) (fun k x => Z4e k x.1) ZiT ZdX Zqh
noncomputable def ZeD : Code := Try.f100.body.getD .skip
noncomputable def Zbp : Ctx (Tup Z8E × OutD) := { T := T, G := [(109, Z7N.E), (80, Zk.E)], mvs := [], no := 2, n := 12, res := resOf T Zk6 Z8E Try.f100.results.toList, loops := [], regs := [], conds := [], cuts := [] }
theorem Zyd (k : Nat) : EnvOK Try.prog k Zbp.G := (EnvOK.cons (ZFE k) (EnvOK.cons (Z2n k) (EnvOK.nil mixed)))
theorem ZyO (k : Nat) (x : Tup Z2m.ps) : Z2m.f (k + 1) x = fnK Z2m Zbp ZeD k x := by kernel_rfl
theorem Zyw (x : Tup Z2m.ps) : Z2m.f 0 x = none := by kernel_rfl
theorem ZyS (k : Nat) : LOK Try.prog Zbp k ZeD := LOK.by [] (by kernel_rfl) AllOK.nil
theorem ZjX (k : Nat) : SoundAt Try.prog k 100 Z2m.E := @Z5 Try.prog Z2m Zbp 100 Try.f100 ZeD (by kernel_rfl) (by kernel_rfl) (by kernel_rfl) Try.func100 (by kernel_rfl) (by kernel_rfl) (by kernel_rfl) T_ok Zyd ZyS Zyw ZyO k
noncomputable def Z3P : List PK := [PK.mk T6 true none false none, PK.mk (.pair I6 (.pair I6 (.slice 73 P6))) true none false none]
noncomputable def Zza : List PK := [PK.mk (.pair I6 (.pair I6 (.slice 73 P6))) true none false none, PK.mk (.slice 3 I6) false none false none, PK.mk (.slice 81 T6) false none false none, PK.mk I6 false none false none]
noncomputable def ZlD (r : (Int × Int × Int) × Int × Int × List (Int × Int)) : Tup Z3P × OutD := ((r.1, r.2, ()), none)
noncomputable def Zm6 : Tup Z3P × OutD → Option ((Int × Int × Int) × Int × Int × List (Int × Int))
 | (a, none) => some (a.1, a.2.1)
 | _ => none
theorem Zoh : ∀ b r, Zm6 b = some r → ZlD r = b := by
 rintro ⟨a, _ | _⟩ r h <;> cases h; rfl
noncomputable def Z98 : Nat → Int → Int → Int → Int → Int → List (Int × Int) → Int → Int → List (Int × Int) → Int → Int → Option (Int × Int × Int × Int × Int × List (Int × Int)) := fun k b1_0 b1_1 b1_2 b2_0 b2_1 o3 b4_0 b4_1 o5 v3 v12 =>
    some ((3 : Int), v12, v3, b4_0, b4_1, o5)
noncomputable def Zdu : Nat → Int → Int → Int → Int → Int → List (Int × Int) → Int → Int → List (Int × Int) → Int → Int → Option (List (Int × Int × Int × Int × Int × List (Int × Int))) := fun k b1_0 b1_1 b1_2 b2_0 b2_1 o3 b4_0 b4_1 o5 v3 v12 =>
    joinL (some [((3 : Int), v12, v3, b4_0, b4_1, o5)]) (some [((3 : Int), v12, v3, b4_0, b4_1, o5)])
noncomputable def Zoc : Spec := Spec.mk [.ro, O8, Oc, O0, Oj, O0] [(3, .at (.int .i64)), (8, .at (.ptr 1 0)), (9, .at (.ptr 2 0)), (10, .at (.ptr 4 0)), (12, .at (.int .i64))]
noncomputable def ZC4 : Spec := Spec.mk [.ro, O8, Oc, O0] [(8, .at (.ptr 1 0)), (9, .at (.ptr 2 0))]
noncomputable def Z82 : LoopDef (Tup Z3P × OutD) := .plain Zoc ZC4 (Int × Int × Int × Int × Int × List (Int × Int)) (fun k x => Z98 k x.1.2.1.1 x.1.2.1.2.1 x.1.2.1.2.2.1 x.1.2.2.1.1 x.1.2.2.1.2.1 x.1.2.2.2.1 x.1.2.2.2.2.1.1 x.1.2.2.2.2.1.2.1 x.1.2.2.2.2.2.1 x.2.1 x.2.2.2.2.2.1) (fun z => (((), (z.1, z.2.1, z.2.2.1, ()), (z.2.2.2.1, z.2.2.2.2.1, (), ()), z.2.2.2.2.2, ()), ((), (), ()))) (fun y => (y.1.2.1.1, y.1.2.1.2.1, y.1.2.1.2.2.1, y.1.2.2.1.1, y.1.2.2.1.2.1, y.1.2.2.2.1)) (fun _ => rfl)
theorem ZC2 (k : Nat) (b1_0 : Int) (b1_1 : Int) (b1_2 : Int) (b2_0 : Int) (b2_1 : Int) (o3 : List (Int × Int)) (b4_0 : Int) (b4_1 : Int) (o5 : List (Int × Int)) (v3 : Int) (v12 : Int) : Zdu k b1_0 b1_1 b1_2 b2_0 b2_1 o3 b4_0 b4_1 o5 v3 v12 = repl 2 (Z98 k b1_0 b1_1 b1_2 b2_0 b2_1 o3 b4_0 b4_1 o5 v3 v12) := by
 first
 | (simp only [Zdu, Z98, Zy, ZV, Zz, ZA, Zx, Z9, if_true]; done)
 | (simp only [Zdu, Z98, Zy, ZV, Zz, ZA, Zx, Z9, if_true]; simp only [Z4Q, Z4K, Z8t, Z9]; simp only [Zai]; exact Z6s ⟨fun h => by simp only [h, and_self], fun h => by simp only [h, and_self]⟩)
noncomputable def Z8e : Nat → Int → Int → Int → Int → Int → List (Int × Int) → Int → Int → List (Int × Int) → Int → Int → Option (Int × Int × Int × Int × Int × List (Int × Int)) := fun k b1_0 b1_1 b1_2 b2_0 b2_1 o3 b4_0 b4_1 o5 v3 v12 =>
    some ((2 : Int), v12, v3, b4_0, b4_1, o5)
noncomputable def ZcH : Nat → Int → Int → Int → Int → Int → List (Int × Int) → Int → Int → List (Int × Int) → Int → Int → Option (List (Int × Int × Int × Int × Int × List (Int × Int))) := fun k b1_0 b1_1 b1_2 b2_0 b2_1 o3 b4_0 b4_1 o5 v3 v12 =>
    joinL (some [((2 : Int), v12, v3, b4_0, b4_1, o5)]) (some [((2 : Int), v12, v3, b4_0, b4_1, o5)])
noncomputable def Zlz : Spec := Spec.mk [.ro, O8, Oc, O0, Oj, O0] [(3, .at (.int .i64)), (8, .at (.ptr 1 0)), (9, .at (.ptr 2 0)), (10, .at (.ptr 4 0)), (12, .at (.int .i64))]
noncomputable def ZzC : Spec := Spec.mk [.ro, O8, Oc, O0] [(8, .at (.ptr 1 0)), (9, .at (.ptr 2 0))]
noncomputable def Z7i : LoopDef (Tup Z3P × OutD) := .plain Zlz ZzC (Int × Int × Int × Int × Int × List (Int × Int)) (fun k x => Z8e k x.1.2.1.1 x.1.2.1.2.1 x.1.2.1.2.2.1 x.1.2.2.1.1 x.1.2.2.1.2.1 x.1.2.2.2.1 x.1.2.2.2.2.1.1 x.1.2.2.2.2.1.2.1 x.1.2.2.2.2.2.1 x.2.1 x.2.2.2.2.2.1) (fun z => (((), (z.1, z.2.1, z.2.2.1, ()), (z.2.2.2.1, z.2.2.2.2.1, (), ()), z.2.2.2.2.2, ()), ((), (), ()))) (fun y => (y.1.2.1.1, y.1.2.1.2.1, y.1.2.1.2.2.1, y.1.2.2.1.1, y.1.2.2.1.2.1, y.1.2.2.2.1)) (fun _ => rfl)
theorem ZAv (k : Nat) (b1_0 : Int) (b1_1 : Int) (b1_2 : Int) (b2_0 : Int) (b2_1 : Int) (o3 : List (Int × Int)) (b4_0 : Int) (b4_1 : Int) (o5 : List (Int × Int)) (v3 : Int) (v12 : Int) : ZcH k b1_0 b1_1 b1_2 b2_0 b2_1 o3 b4_0 b4_1 o5 v3 v12 = repl 2 (Z8e k b1_0 b1_1 b1_2 b2_0 b2_1 o3 b4_0 b4_1 o5 v3 v12) := by
 first
 | (simp only [ZcH, Z8e, Zy, ZV, Zz, ZA, Zx, Z9, if_true]; done)
 | (simp only [ZcH, Z8e, Zy, ZV, Zz, ZA, Zx, Z9, if_true]; simp only [Z4Q, Z4K, Z8t, Z9]; simp only [Zai]; exact Z6s ⟨fun h => by simp only [h, and_self], fun h => by simp only [h, and_self]⟩)
noncomputable def Zdv : Nat → Int → Int → List (Int × Int) → Int → Int → Int → Int → Int → List (Int × Int) → Int → Int → List (Int × Int) → List Int → List (Int × Int × Int) → Int → Int → Int → Bool → Option (Int × Int × List (Int × Int) × Int × Int × Int × Int × Int × List (Int × Int) × Int × Int × List (Int × Int) × List Int × List (Int × Int × Int) × Int × Int × Int) := fun k b1_0 b1_1 b1_2 b2_0 b2_1 b2_2 b3_0 b3_1 o4 b5_0 b5_1 o6 v1 v2 v3 v12 v15 v52 =>
    if v52 = true then some (b1_0, b1_1, b1_2, b2_0, b2_1, b2_2, b3_0, b3_1, o4, b5_0, b5_1, o6, v1, v2, v3, v12, wrap64 ((0 : Int) - v15)) else some (b1_0, b1_1, b1_2, b2_0, b2_1, b2_2, b3_0, b3_1, o4, b5_0, b5_1, o6, v1, v2, v3, v12, v15)
noncomputable def ZAI : Spec := Spec.mk [.ro, O1, O8, O2, O0, O4, O0] [(1, .at (.snap 0 I6)), (2, .at (.snap 0 T6)), (3, .at (.int .i64)), (4, .at (.ptr 1 0)), (8, .at (.ptr 2 0)), (9, .at (.ptr 3 0)), (10, .at (.ptr 5 0)), (12, .at (.int .i64)), (15, .at (.int .i64)), (52, .at .bool)]
noncomputable def ZAH : Spec := Spec.mk [.ro, O1, O8, O2, O0, O4, O0] [(1, .at (.snap 0 I6)), (2, .at (.snap 0 T6)), (3, .at (.int .i64)), (4, .at (.ptr 1 0)), (8, .at (.ptr 2 0)), (9, .at (.ptr 3 0)), (10, .at (.ptr 5 0)), (12, .at (.int .i64)), (15, .at (.int .i64))]
noncomputable def Z1q : LoopDef (Tup Z3P × OutD) := .plain ZAI ZAH (Int × Int × List (Int × Int) × Int × Int × Int × Int × Int × List (Int × Int) × Int × Int × List (Int × Int) × List Int × List (Int × Int × Int) × Int × Int × Int) (fun k x => Zdv k x.1.2.1.1 x.1.2.1.2.1 x.1.2.1.2.2.1 x.1.2.2.1.1 x.1.2.2.1.2.1 x.1.2.2.1.2.2.1 x.1.2.2.2.1.1 x.1.2.2.2.1.2.1 x.1.2.2.2.2.1 x.1.2.2.2.2.2.1.1 x.1.2.2.2.2.2.1.2.1 x.1.2.2.2.2.2.2.1 x.2.1 x.2.2.1 x.2.2.2.1 x.2.2.2.2.2.2.2.2.1 x.2.2.2.2.2.2.2.2.2.1 x.2.2.2.2.2.2.2.2.2.2.1) (fun z => (((), (z.1, z.2.1, z.2.2.1, ()), (z.2.2.2.1, z.2.2.2.2.1, z.2.2.2.2.2.1, ()), (z.2.2.2.2.2.2.1, z.2.2.2.2.2.2.2.1, (), ()), z.2.2.2.2.2.2.2.2.1, (z.2.2.2.2.2.2.2.2.2.1, z.2.2.2.2.2.2.2.2.2.2.1, (), ()), z.2.2.2.2.2.2.2.2.2.2.2.1, ()), (z.2.2.2.2.2.2.2.2.2.2.2.2.1, z.2.2.2.2.2.2.2.2.2.2.2.2.2.1, z.2.2.2.2.2.2.2.2.2.2.2.2.2.2.1, (), (), (), (), z.2.2.2.2.2.2.2.2.2.2.2.2.2.2.2.1, z.2.2.2.2.2.2.2.2.2.2.2.2.2.2.2.2, ()))) (fun y => (y.1.2.1.1, y.1.2.1.2.1, y.1.2.1.2.2.1, y.1.2.2.1.1, y.1.2.2.1.2.1, y.1.2.2.1.2.2.1, y.1.2.2.2.1.1, y.1.2.2.2.1.2.1, y.1.2.2.2.2.1, y.1.2.2.2.2.2.1.1, y.1.2.2.2.2.2.1.2.1, y.1.2.2.2.2.2.2.1, y.2.1, y.2.2.1, y.2.2.2.1, y.2.2.2.2.2.2.2.2.1, y.2.2.2.2.2.2.2.2.2.1)) (fun _ => rfl)
noncomputable def Z8r : Nat → Int → Int → List (Int × Int) → Int → Int → Int → Int → Int → List (Int × Int) → Int → Int → List (Int × Int) → List Int → List (Int × Int × Int) → Int → Int → Int → List (Int × Int × Int) → Int → Int → Option (Int × Int × List (Int × Int) × Int × Int × Int × Int × Int × List (Int × Int) × Int × Int × List (Int × Int) × List Int × List (Int × Int × Int) × Int × Int × Int)
 | 0, _, _, _, _, _, _, _, _, _, _, _, _, _, _, _, _, _, _, _, _ => none
 | k + 1, b1_0, b1_1, b1_2, b2_0, b2_1, b2_2, b3_0, b3_1, o4, b5_0, b5_1, o6, v1, v2, v3, v12, v15, v64, v65, v66 =>
  if decide (v66 < v65) = true then if (0 : Int) ≤ v66 then if v66 < (↑(List.length v64) : Int) then if decide (Prod.fst (List.getD v64 (Int.toNat v66) ((0 : Int), (0 : Int), (0 : Int))) = 1) = true then if (0 : Int) ≤ wrap64 (wrap64 (Prod.fst (Prod.snd (List.getD v64 (Int.toNat v66) ((0 : Int), (0 : Int), (0 : Int)))) * b1_1) + Prod.snd (Prod.snd (List.getD v64 (Int.toNat v66) ((0 : Int), (0 : Int), (0 : Int))))) then if wrap64 (wrap64 (Prod.fst (Prod.snd (List.getD v64 (Int.toNat v66) ((0 : Int), (0 : Int), (0 : Int)))) * b1_1) + Prod.snd (Prod.snd (List.getD v64 (Int.toNat v66) ((0 : Int), (0 : Int), (0 : Int))))) < (↑(List.length b1_2) : Int) then if (0 : Int) ≤ wrap64 (wrap64 (Prod.fst (Prod.snd (List.getD v64 (Int.toNat v66) ((0 : Int), (0 : Int), (0 : Int)))) * b1_1) + Prod.snd (Prod.snd (List.getD v64 (Int.toNat v66) ((0 : Int), (0 : Int), (0 : Int))))) then if wrap64 (wrap64 (Prod.fst (Prod.snd (List.getD v64 (Int.toNat v66) ((0 : Int), (0 : Int), (0 : Int)))) * b1_1) + Prod.snd (Prod.snd (List.getD v64 (Int.toNat v66) ((0 : Int), (0 : Int), (0 : Int))))) < (↑(List.length o6) : Int) then Z8r k b1_0 b1_1 b1_2 b2_0 b2_1 b2_2 b3_0 b3_1 o4 b5_0 b5_1 (List.set o6 (Int.toNat (wrap64 (wrap64 (Prod.fst (Prod.snd (List.getD v64 (Int.toNat v66) ((0 : Int), (0 : Int), (0 : Int)))) * b1_1) + Prod.snd (Prod.snd (List.getD v64 (Int.toNat v66) ((0 : Int), (0 : Int), (0 : Int))))))) (Prod.fst (List.getD b1_2 (Int.toNat (wrap64 (wrap64 (Prod.fst (Prod.snd (List.getD v64 (Int.toNat v66) ((0 : Int), (0 : Int), (0 : Int)))) * b1_1) + Prod.snd (Prod.snd (List.getD v64 (Int.toNat v66) ((0 : Int), (0 : Int), (0 : Int))))))) ((0 : Int), (0 : Int))), Prod.snd (List.getD b1_2 (Int.toNat (wrap64 (wrap64 (Prod.fst (Prod.snd (List.getD v64 (Int.toNat v66) ((0 : Int), (0 : Int), (0 : Int)))) * b1_1) + Prod.snd (Prod.snd (List.getD v64 (Int.toNat v66) ((0 : Int), (0 : Int), (0 : Int))))))) ((0 : Int), (0 : Int))))) v1 v2 v3 v12 v15 v64 v65 (wrap64 (v66 + 1)) else none else none else none else none else Z8r k b1_0 b1_1 b1_2 b2_0 b2_1 b2_2 b3_0 b3_1 o4 b5_0 b5_1 o6 v1 v2 v3 v12 v15 v64 v65 (wrap64 (v66 + 1)) else none else none else some (b1_0, b1_1, b1_2, b2_0, b2_1, b2_2, b3_0, b3_1, o4, b5_0, b5_1, o6, v1, v2, v3, v12, v15)
noncomputable def Zia : Spec := Spec.mk [.ro, O1, O8, O2, O0, O4, O0] [(1, .at (.snap 0 I6)), (2, .at (.snap 0 T6)), (3, .at (.int .i64)), (4, .at (.ptr 1 0)), (8, .at (.ptr 2 0)), (9, .at (.ptr 3 0)), (10, .at (.ptr 5 0)), (12, .at (.int .i64)), (15, .at (.int .i64)), (64, .at (.snap 0 T6)), (65, .at (.int .i64)), (66, .at (.int .i64))]
noncomputable def ZDq : Spec := Spec.mk [.ro, O1, O8, O2, O0, O4, O0] [(1, .at (.snap 0 I6)), (2, .at (.snap 0 T6)), (3, .at (.int .i64)), (4, .at (.ptr 1 0)), (8, .at (.ptr 2 0)), (9, .at (.ptr 3 0)), (10, .at (.ptr 5 0)), (12, .at (.int .i64)), (15, .at (.int .i64))]
noncomputable def Z9b : LoopDef (Tup Z3P × OutD) := .plain Zia ZDq (Int × Int × List (Int × Int) × Int × Int × Int × Int × Int × List (Int × Int) × Int × Int × List (Int × Int) × List Int × List (Int × Int × Int) × Int × Int × Int) (fun k x => Z8r k x.1.2.1.1 x.1.2.1.2.1 x.1.2.1.2.2.1 x.1.2.2.1.1 x.1.2.2.1.2.1 x.1.2.2.1.2.2.1 x.1.2.2.2.1.1 x.1.2.2.2.1.2.1 x.1.2.2.2.2.1 x.1.2.2.2.2.2.1.1 x.1.2.2.2.2.2.1.2.1 x.1.2.2.2.2.2.2.1 x.2.1 x.2.2.1 x.2.2.2.1 x.2.2.2.2.2.2.2.2.1 x.2.2.2.2.2.2.2.2.2.1 x.2.2.2.2.2.2.2.2.2.2.1 x.2.2.2.2.2.2.2.2.2.2.2.1 x.2.2.2.2.2.2.2.2.2.2.2.2.1) (fun z => (((), (z.1, z.2.1, z.2.2.1, ()), (z.2.2.2.1, z.2.2.2.2.1, z.2.2.2.2.2.1, ()), (z.2.2.2.2.2.2.1, z.2.2.2.2.2.2.2.1, (), ()), z.2.2.2.2.2.2.2.2.1, (z.2.2.2.2.2.2.2.2.2.1, z.2.2.2.2.2.2.2.2.2.2.1, (), ()), z.2.2.2.2.2.2.2.2.2.2.2.1, ()), (z.2.2.2.2.2.2.2.2.2.2.2.2.1, z.2.2.2.2.2.2.2.2.2.2.2.2.2.1, z.2.2.2.2.2.2.2.2.2.2.2.2.2.2.1, (), (), (), (), z.2.2.2.2.2.2.2.2.2.2.2.2.2.2.2.1, z.2.2.2.2.2.2.2.2.2.2.2.2.2.2.2.2, ()))) (fun y => (y.1.2.1.1, y.1.2.1.2.1, y.1.2.1.2.2.1, y.1.2.2.1.1, y.1.2.2.1.2.1, y.1.2.2.1.2.2.1, y.1.2.2.2.1.1, y.1.2.2.2.1.2.1, y.1.2.2.2.2.1, y.1.2.2.2.2.2.1.1, y.1.2.2.2.2.2.1.2.1, y.1.2.2.2.2.2.2.1, y.2.1, y.2.2.1, y.2.2.2.1, y.2.2.2.2.2.2.2.2.1, y.2.2.2.2.2.2.2.2.2.1)) (fun _ => rfl)
noncomputable def Z8b : Nat → Int → Int → Int → Int → Int → List (Int × Int) → Int → Int → List (Int × Int) → Int → Int → Option (Int × Int × Int × Int × Int × List (Int × Int)) := fun k b1_0 b1_1 b1_2 b2_0 b2_1 o3 b4_0 b4_1 o5 v3 v12 =>
    some ((3 : Int), v12, v3, b4_0, b4_1, o5)
noncomputable def ZbZ : Nat → Int → Int → Int → Int → Int → List (Int × Int) → Int → Int → List (Int × Int) → Int → Int → Option (List (Int × Int × Int × Int × Int × List (Int × Int))) := fun k b1_0 b1_1 b1_2 b2_0 b2_1 o3 b4_0 b4_1 o5 v3 v12 =>
    joinL (some [((3 : Int), v12, v3, b4_0, b4_1, o5)]) (some [((3 : Int), v12, v3, b4_0, b4_1, o5)])
noncomputable def ZmB : Spec := Spec.mk [.ro, O8, Oc, O0, Oj, O0] [(3, .at (.int .i64)), (8, .at (.ptr 1 0)), (9, .at (.ptr 2 0)), (10, .at (.ptr 4 0)), (12, .at (.int .i64))]
noncomputable def ZAn : Spec := Spec.mk [.ro, O8, Oc, O0] [(8, .at (.ptr 1 0)), (9, .at (.ptr 2 0))]
noncomputable def Z78 : LoopDef (Tup Z3P × OutD) := .plain ZmB ZAn (Int × Int × Int × Int × Int × List (Int × Int)) (fun k x => Z8b k x.1.2.1.1 x.1.2.1.2.1 x.1.2.1.2.2.1 x.1.2.2.1.1 x.1.2.2.1.2.1 x.1.2.2.2.1 x.1.2.2.2.2.1.1 x.1.2.2.2.2.1.2.1 x.1.2.2.2.2.2.1 x.2.1 x.2.2.2.2.2.1) (fun z => (((), (z.1, z.2.1, z.2.2.1, ()), (z.2.2.2.1, z.2.2.2.2.1, (), ()), z.2.2.2.2.2, ()), ((), (), ()))) (fun y => (y.1.2.1.1, y.1.2.1.2.1, y.1.2.1.2.2.1, y.1.2.2.1.1, y.1.2.2.1.2.1, y.1.2.2.2.1)) (fun _ => rfl)
theorem ZzF (k : Nat) (b1_0 : Int) (b1_1 : Int) (b1_2 : Int) (b2_0 : Int) (b2_1 : Int) (o3 : List (Int × Int)) (b4_0 : Int) (b4_1 : Int) (o5 : List (Int × Int)) (v3 : Int) (v12 : Int) : ZbZ k b1_0 b1_1 b1_2 b2_0 b2_1 o3 b4_0 b4_1 o5 v3 v12 = repl 2 (Z8b k b1_0 b1_1 b1_2 b2_0 b2_1 o3 b4_0 b4_1 o5 v3 v12) := by
 first
 | (simp only [ZbZ, Z8b, Zy, ZV, Zz, ZA, Zx, Z9, if_true]; done)
 | (simp only [ZbZ, Z8b, Zy, ZV, Zz, ZA, Zx, Z9, if_true]; simp only [Z4Q, Z4K, Z8t, Z9]; simp only [Zai]; exact Z6s ⟨fun h => by simp only [h, and_self], fun h => by simp only [h, and_self]⟩)
noncomputable def Zaq : Nat → Int → Int → List (Int × Int) → Int → Int → Int → Int → Int → List (Int × Int) → Int → Int → List (Int × Int) → List Int → List (Int × Int × Int) → Int → Int → Int → Option (LR (Int × Int × List (Int × Int) × Int × Int × Int × Int × Int × List (Int × Int) × Int × Int × List (Int × Int) × Int) ((Int × Int × Int) × Int × Int × List (Int × Int)))
 | 0, _, _, _, _, _, _, _, _, _, _, _, _, _, _, _, _, _ => none
 | k + 1, b1_0, b1_1, b1_2, b2_0, b2_1, b2_2, b3_0, b3_1, o4, b5_0, b5_1, o6, v1, v2, v3, v11, v12 =>
  if decide (v12 < b1_0) = true then Option.bind (Ziq k (b5_0, b5_1, o6) v12 v3) fun z1 => Option.bind (Ziu k v2 v12 v3) fun z2 => if decide (z2 = 2) = true then Option.bind (Z98 k b2_0 b2_1 b2_2 b3_0 b3_1 o4 b5_0 b5_1 o6 v3 v12) fun z3 => some (LR.ret ((z3.1, z3.2.1, z3.2.2.1), z3.2.2.2.1, z3.2.2.2.2.1, z3.2.2.2.2.2)) else if decide (z1.1 = 5) = true then Option.bind (Z8e k b2_0 b2_1 b2_2 b3_0 b3_1 o4 b5_0 b5_1 o6 v3 v12) fun z4 => some (LR.ret ((z4.1, z4.2.1, z4.2.2.1), z4.2.2.2.1, z4.2.2.2.2.1, z4.2.2.2.2.2)) else Option.bind (ZfG k (z1.1, z1.2) v11) fun z5 => Option.bind (Zdv k b1_0 b1_1 b1_2 b2_0 b2_1 b2_2 b3_0 b3_1 o4 b5_0 b5_1 o6 v1 v2 v3 v12 z5 (decide (z2 = 3))) fun z6 => Option.bind (Zft k (z6.2.2.2.2.2.2.2.2.2.1, z6.2.2.2.2.2.2.2.2.2.2.1, z6.2.2.2.2.2.2.2.2.2.2.2.1) z6.2.2.2.2.2.2.2.2.2.2.2.2.1 (wrap64 (wrap64 (z6.2.2.2.2.2.2.2.2.2.2.2.2.2.2.2.1 * z6.2.1) + z6.2.2.2.2.2.2.2.2.2.2.2.2.2.2.1))) fun z7 => Option.bind (Z8r k z6.1 z6.2.1 z6.2.2.1 z6.2.2.2.1 z6.2.2.2.2.1 z6.2.2.2.2.2.1 z6.2.2.2.2.2.2.1 z6.2.2.2.2.2.2.2.1 z6.2.2.2.2.2.2.2.2.1 z6.2.2.2.2.2.2.2.2.2.1 z6.2.2.2.2.2.2.2.2.2.2.1 z7 z6.2.2.2.2.2.2.2.2.2.2.2.2.1 z6.2.2.2.2.2.2.2.2.2.2.2.2.2.1 z6.2.2.2.2.2.2.2.2.2.2.2.2.2.2.1 z6.2.2.2.2.2.2.2.2.2.2.2.2.2.2.2.1 z6.2.2.2.2.2.2.2.2.2.2.2.2.2.2.2.2 z6.2.2.2.2.2.2.2.2.2.2.2.2.2.1 (↑(List.length z6.2.2.2.2.2.2.2.2.2.2.2.2.2.1) : Int) (0 : Int)) fun z8 => Option.bind (Z92 k (wrap64 (z8.2.2.2.2.2.2.2.2.2.2.2.2.2.2.1 + z8.2.2.2.2.2.2.2.2.2.2.2.2.2.2.2.2)) (0 : Int) (wrap64 (z8.2.1 - 1))) fun z9 => if (!z9) = true then Option.bind (Z8b k z8.2.2.2.1 z8.2.2.2.2.1 z8.2.2.2.2.2.1 z8.2.2.2.2.2.2.1 z8.2.2.2.2.2.2.2.1 z8.2.2.2.2.2.2.2.2.1 z8.2.2.2.2.2.2.2.2.2.1 z8.2.2.2.2.2.2.2.2.2.2.1 z8.2.2.2.2.2.2.2.2.2.2.2.1 (wrap64 (z8.2.2.2.2.2.2.2.2.2.2.2.2.2.2.1 + z8.2.2.2.2.2.2.2.2.2.2.2.2.2.2.2.2)) z8.2.2.2.2.2.2.2.2.2.2.2.2.2.2.2.1) fun z10 => some (LR.ret ((z10.1, z10.2.1, z10.2.2.1), z10.2.2.2.1, z10.2.2.2.2.1, z10.2.2.2.2.2)) else Zaq k z8.1 z8.2.1 z8.2.2.1 z8.2.2.2.1 z8.2.2.2.2.1 z8.2.2.2.2.2.1 z8.2.2.2.2.2.2.1 z8.2.2.2.2.2.2.2.1 z8.2.2.2.2.2.2.2.2.1 z8.2.2.2.2.2.2.2.2.2.1 z8.2.2.2.2.2.2.2.2.2.2.1 z8.2.2.2.2.2.2.2.2.2.2.2.1 z8.2.2.2.2.2.2.2.2.2.2.2.2.1 z8.2.2.2.2.2.2.2.2.2.2.2.2.2.1 (wrap64 (z8.2.2.2.2.2.2.2.2.2.2.2.2.2.2.1 + z8.2.2.2.2.2.2.2.2.2.2.2.2.2.2.2.2)) (wrap64 ((0 : Int) - z8.2.2.2.2.2.2.2.2.2.2.2.2.2.2.2.2)) (wrap64 (z8.2.2.2.2.2.2.2.2.2.2.2.2.2.2.2.1 + 1)) else some (LR.go (b1_0, b1_1, b1_2, b2_0, b2_1, b2_2, b3_0, b3_1, o4, b5_0, b5_1, o6, v3))
noncomputable def Zii : Spec := Spec.mk [.ro, O1, O8, O2, O0, O4, O0] [(1, .at (.snap 0 I6)), (2, .at (.snap 0 T6)), (3, .at (.int .i64)), (4, .at (.ptr 1 0)), (8, .at (.ptr 2 0)), (9, .at (.ptr 3 0)), (10, .at (.ptr 5 0)), (11, .at (.int .i64)), (12, .at (.int .i64))]
noncomputable def ZCZ : Spec := Spec.mk [.ro, O1, O8, O2, O0, O4, O0] [(3, .at (.int .i64)), (4, .at (.ptr 1 0)), (8, .at (.ptr 2 0)), (9, .at (.ptr 3 0)), (10, .at (.ptr 5 0))]
noncomputable def Z9h : LoopDef (Tup Z3P × OutD) := .rets Zii ZCZ (Int × Int × List (Int × Int) × Int × Int × Int × Int × Int × List (Int × Int) × Int × Int × List (Int × Int) × Int) ((Int × Int × Int) × Int × Int × List (Int × Int)) (fun k x => Zaq k x.1.2.1.1 x.1.2.1.2.1 x.1.2.1.2.2.1 x.1.2.2.1.1 x.1.2.2.1.2.1 x.1.2.2.1.2.2.1 x.1.2.2.2.1.1 x.1.2.2.2.1.2.1 x.1.2.2.2.2.1 x.1.2.2.2.2.2.1.1 x.1.2.2.2.2.2.1.2.1 x.1.2.2.2.2.2.2.1 x.2.1 x.2.2.1 x.2.2.2.1 x.2.2.2.2.2.2.2.2.1 x.2.2.2.2.2.2.2.2.2.1) (fun z => (((), (z.1, z.2.1, z.2.2.1, ()), (z.2.2.2.1, z.2.2.2.2.1, z.2.2.2.2.2.1, ()), (z.2.2.2.2.2.2.1, z.2.2.2.2.2.2.2.1, (), ()), z.2.2.2.2.2.2.2.2.1, (z.2.2.2.2.2.2.2.2.2.1, z.2.2.2.2.2.2.2.2.2.2.1, (), ()), z.2.2.2.2.2.2.2.2.2.2.2.1, ()), (z.2.2.2.2.2.2.2.2.2.2.2.2, (), (), (), (), ()))) (fun y => (y.1.2.1.1, y.1.2.1.2.1, y.1.2.1.2.2.1, y.1.2.2.1.1, y.1.2.2.1.2.1, y.1.2.2.1.2.2.1, y.1.2.2.2.1.1, y.1.2.2.2.1.2.1, y.1.2.2.2.2.1, y.1.2.2.2.2.2.1.1, y.1.2.2.2.2.2.1.2.1, y.1.2.2.2.2.2.2.1, y.2.1)) (fun _ => rfl) ZlD Zm6 Zoh
noncomputable def Z8i : Nat → Int → Int → List (Int × Int) → Int → Int → Int → Int → Int → List (Int × Int) → Int → Int → List (Int × Int) → Int → Option (Int × Int × Int × Int × Int × List (Int × Int)) := fun k b1_0 b1_1 b1_2 b2_0 b2_1 b2_2 b3_0 b3_1 o4 b5_0 b5_1 o6 v3 =>
    some ((1 : Int), b1_0, v3, b5_0, b5_1, o6)
noncomputable def ZcC : Nat → Int → Int → List (Int × Int) → Int → Int → Int → Int → Int → List (Int × Int) → Int → Int → List (Int × Int) → Int → Option (List (Int × Int × Int × Int × Int × List (Int × Int))) := fun k b1_0 b1_1 b1_2 b2_0 b2_1 b2_2 b3_0 b3_1 o4 b5_0 b5_1 o6 v3 =>
    joinL (some [((1 : Int), b1_0, v3, b5_0, b5_1, o6)]) (some [((1 : Int), b1_0, v3, b5_0, b5_1, o6)])
noncomputable def ZlH : Spec := Spec.mk [.ro, O1, O8, O2, O0, O4, O0] [(3, .at (.int .i64)), (4, .at (.ptr 1 0)), (8, .at (.ptr 2 0)), (9, .at (.ptr 3 0)), (10, .at (.ptr 5 0))]
noncomputable def Zzz : Spec := Spec.mk [.ro, O8, Oc, O0] [(8, .at (.ptr 1 0)), (9, .at (.ptr 2 0))]
noncomputable def Z77 : LoopDef (Tup Z3P × OutD) := .plain ZlH Zzz (Int × Int × Int × Int × Int × List (Int × Int)) (fun k x => Z8i k x.1.2.1.1 x.1.2.1.2.1 x.1.2.1.2.2.1 x.1.2.2.1.1 x.1.2.2.1.2.1 x.1.2.2.1.2.2.1 x.1.2.2.2.1.1 x.1.2.2.2.1.2.1 x.1.2.2.2.2.1 x.1.2.2.2.2.2.1.1 x.1.2.2.2.2.2.1.2.1 x.1.2.2.2.2.2.2.1 x.2.1) (fun z => (((), (z.1, z.2.1, z.2.2.1, ()), (z.2.2.2.1, z.2.2.2.2.1, (), ()), z.2.2.2.2.2, ()), ((), (), ()))) (fun y => (y.1.2.1.1, y.1.2.1.2.1, y.1.2.1.2.2.1, y.1.2.2.1.1, y.1.2.2.1.2.1, y.1.2.2.2.1)) (fun _ => rfl)
theorem ZAk (k : Nat) (b1_0 : Int) (b1_1 : Int) (b1_2 : List (Int × Int)) (b2_0 : Int) (b2_1 : Int) (b2_2 : Int) (b3_0 : Int) (b3_1 : Int) (o4 : List (Int × Int)) (b5_0 : Int) (b5_1 : Int) (o6 : List (Int × Int)) (v3 : Int) : ZcC k b1_0 b1_1 b1_2 b2_0 b2_1 b2_2 b3_0 b3_1 o4 b5_0 b5_1 o6 v3 = repl 2 (Z8i k b1_0 b1_1 b1_2 b2_0 b2_1 b2_2 b3_0 b3_1 o4 b5_0 b5_1 o6 v3) := by
 first
 | (simp only [ZcC, Z8i, Zy, ZV, Zz, ZA, Zx, Z9, if_true]; done)
 | (simp only [ZcC, Z8i, Zy, ZV, Zz, ZA, Zx, Z9, if_true]; simp only [Z4Q, Z4K, Z8t, Z9]; simp only [Zai]; exact Z6s ⟨fun h => by simp only [h, and_self], fun h => by simp only [h, and_self]⟩)
noncomputable def Zir : Nat → Int × Int × List (Int × Int) → List Int → List (Int × Int × Int) → Int → Option ((Int × Int × Int) × Int × Int × List (Int × Int))
 | 0, _, _, _, _ => none
 | k + 1, p0, p1, p2, p3 =>
  Option.bind (Z9C k (p0.1, p0.2.1, p0.2.2)) fun z0 => Option.bind (Zaq k p0.1 p0.2.1 p0.2.2 (0 : Int) (0 : Int) (0 : Int) (0 : Int) (0 : Int) [] z0.1 z0.2.1 z0.2.2 p1 p2 p3 (0 : Int) (0 : Int)) fun z11 => LR.on z11 (fun y11 => Option.bind (Z8i k y11.1 y11.2.1 y11.2.2.1 y11.2.2.2.1 y11.2.2.2.2.1 y11.2.2.2.2.2.1 y11.2.2.2.2.2.2.1 y11.2.2.2.2.2.2.2.1 y11.2.2.2.2.2.2.2.2.1 y11.2.2.2.2.2.2.2.2.2.1 y11.2.2.2.2.2.2.2.2.2.2.1 y11.2.2.2.2.2.2.2.2.2.2.2.1 y11.2.2.2.2.2.2.2.2.2.2.2.2) fun z12 => some ((z12.1, z12.2.1, z12.2.2.1), z12.2.2.2.1, z12.2.2.2.2.1, z12.2.2.2.2.2)) fun r11 => some r11
noncomputable def Z91 : FnDef := .of Zza Z3P ((Int × Int × Int) × Int × Int × List (Int × Int)) (fun k x => Zir k x.1 x.2.1 x.2.2.1 x.2.2.2.1) ZlD Zm6 Zoh
noncomputable def Z4F : Code := Try.f103.body.getD .skip
noncomputable def Z7 : Ctx (Tup Z3P × OutD) := { T := T, G := [(101, Z5L.E), (112, Z90.E), (113, Z93.E), (114, Z6t.E), (115, Z6n.E), (85, Z4E.E)], mvs := [], no := 0, n := 111, res := resOf T Zza Z3P Try.f103.results.toList, loops := [(2, Z9b.E), (0, Z9h.E)], regs := [(9, Z82.E), (11, Z7i.E), (26, Z78.E), (27, Z77.E)], conds := [(52, Z1q.E)], cuts := [] }
theorem Z8Z (k : Nat) : EnvOK Try.prog k Z7.G := (EnvOK.cons (ZwP k) (EnvOK.cons (ZGq k) (EnvOK.cons (ZGw k) (EnvOK.cons (ZDX k) (EnvOK.cons (ZEP k) (EnvOK.cons (Zin k) (EnvOK.nil mixed)))))))
noncomputable def ZgR : Array Oper := (findReg 9 Z4F).getD #[]
theorem ZCu (k : Nat) (x : Zoc.D) : execD Z7.T Z7.G Z7.mvs k ZgR (Z82.inp.st Z7.n x) (outK Z7 Z82) = Zdu k x.1.2.1.1 x.1.2.1.2.1 x.1.2.1.2.2.1 x.1.2.2.1.1 x.1.2.2.1.2.1 x.1.2.2.2.1 x.1.2.2.2.2.1.1 x.1.2.2.2.2.1.2.1 x.1.2.2.2.2.2.1 x.2.1 x.2.2.2.2.2.1 := by kernel_rfl
theorem Zzs (k : Nat) : EOK Try.prog Z7 k Z82.E (.region 9 ZgR true) := Z8y (D := Z82) (m := 2) T_ok (Z8Z k) (fun x => (ZCu k x).trans (ZC2 k x.1.2.1.1 x.1.2.1.2.1 x.1.2.1.2.2.1 x.1.2.2.1.1 x.1.2.2.1.2.1 x.1.2.2.2.1 x.1.2.2.2.2.1.1 x.1.2.2.2.2.1.2.1 x.1.2.2.2.2.2.1 x.2.1 x.2.2.2.2.2.1))
noncomputable def ZfM : Array Oper := (findReg 11 Z4F).getD #[]
theorem ZAp (k : Nat) (x : Zlz.D) : execD Z7.T Z7.G Z7.mvs k ZfM (Z7i.inp.st Z7.n x) (outK Z7 Z7i) = ZcH k x.1.2.1.1 x.1.2.1.2.1 x.1.2.1.2.2.1 x.1.2.2.1.1 x.1.2.2.1.2.1 x.1.2.2.2.1 x.1.2.2.2.2.1.1 x.1.2.2.2.2.1.2.1 x.1.2.2.2.2.2.1 x.2.1 x.2.2.2.2.2.1 := by kernel_rfl
theorem Zy5 (k : Nat) : EOK Try.prog Z7 k Z7i.E (.region 11 ZfM true) := Z8y (D := Z7i) (m := 2) T_ok (Z8Z k) (fun x => (ZAp k x).trans (ZAv k x.1.2.1.1 x.1.2.1.2.1 x.1.2.1.2.2.1 x.1.2.2.1.1 x.1.2.2.1.2.1 x.1.2.2.2.1 x.1.2.2.2.2.1.1 x.1.2.2.2.2.1.2.1 x.1.2.2.2.2.2.1 x.2.1 x.2.2.2.2.2.1))
noncomputable def ZfZ : Array Oper := (findReg 26 Z4F).getD #[]
theorem ZA8 (k : Nat) (x : ZmB.D) : execD Z7.T Z7.G Z7.mvs k ZfZ (Z78.inp.st Z7.n x) (outK Z7 Z78) = ZbZ k x.1.2.1.1 x.1.2.1.2.1 x.1.2.1.2.2.1 x.1.2.2.1.1 x.1.2.2.1.2.1 x.1.2.2.2.1 x.1.2.2.2.2.1.1 x.1.2.2.2.2.1.2.1 x.1.2.2.2.2.2.1 x.2.1 x.2.2.2.2.2.1 := by kernel_rfl
theorem Zy7 (k : Nat) : EOK Try.prog Z7 k Z78.E (.region 26 ZfZ true) := Z8y (D := Z78) (m := 2) T_ok (Z8Z k) (fun x => (ZA8 k x).trans (ZzF k x.1.2.1.1 x.1.2.1.2.1 x.1.2.1.2.2.1 x.1.2.2.1.1 x.1.2.2.1.2.1 x.1.2.2.2.1 x.1.2.2.2.2.1.1 x.1.2.2.2.2.1.2.1 x.1.2.2.2.2.2.1 x.2.1 x.2.2.2.2.2.1))
noncomputable def ZfL : Array Oper := (findReg 27 Z4F).getD #[]
theorem ZAP (k : Nat) (x : ZlH.D) : execD Z7.T Z7.G Z7.mvs k ZfL (Z77.inp.st Z7.n x) (outK Z7 Z77) = ZcC k x.1.2.1.1 x.1.2.1.2.1 x.1.2.1.2.2.1 x.1.2.2.1.1 x.1.2.2.1.2.1 x.1.2.2.1.2.2.1 x.1.2.2.2.1.1 x.1.2.2.2.1.2.1 x.1.2.2.2.2.1 x.1.2.2.2.2.2.1.1 x.1.2.2.2.2.2.1.2.1 x.1.2.2.2.2.2.2.1 x.2.1 := by kernel_rfl
theorem Zyk (k : Nat) : EOK Try.prog Z7 k Z77.E (.region 27 ZfL true) := Z8y (D := Z77) (m := 2) T_ok (Z8Z k) (fun x => (ZAP k x).trans (ZAk k x.1.2.1.1 x.1.2.1.2.1 x.1.2.1.2.2.1 x.1.2.2.1.1 x.1.2.2.1.2.1 x.1.2.2.1.2.2.1 x.1.2.2.2.1.1 x.1.2.2.2.1.2.1 x.1.2.2.2.2.1 x.1.2.2.2.2.2.1.1 x.1.2.2.2.2.2.1.2.1 x.1.2.2.2.2.2.2.1 x.2.1))
noncomputable def Zc4 : Code := ((findCond 52 Z4F).map (·.1)).getD .skip
noncomputable def Zc2 : Code := ((findCond 52 Z4F).map (·.2)).getD .skip
theorem ZzG (k : Nat) (i : Z1q.inp.D) : Z1q.lp k i = branch (Z1q.inp.st Z7.n i) (.tmp 52) (fun st => exec Z7 k Zc4 st (outK Z7 Z1q) (fun _ _ => none) Z1q.mkB) (fun st => exec Z7 k Zc2 st (outK Z7 Z1q) (fun _ _ => none) Z1q.mkB) := by kernel_rfl
theorem ZxZ (k : Nat) : EOK Try.prog Z7 k Z1q.E (.cond (.tmp 52) Zc4 Zc2) := ZqA (D := Z1q) T_ok (Z8Z k) (ZzG k) (@LOK.by _ _ _ _ Zc4 [] (by kernel_rfl) AllOK.nil) (@LOK.by _ _ _ _ Zc2 [] (by kernel_rfl) AllOK.nil)
noncomputable def Zec : Code := (findLoop 2 Z4F).getD .skip
theorem ZCL (k : Nat) (x : Zia.D) : Z9b.lp (k + 1) x = loopK Z7 Z9b 2 Zec k x := by kernel_rfl
theorem ZDc (k : Nat) : LOK Try.prog Z7 k Zec := LOK.by [] (by kernel_rfl) AllOK.nil
theorem ZCV (x : Zia.D) : Z9b.lp 0 x = none := by kernel_rfl
theorem ZBh (k : Nat) : EOK Try.prog Z7 k Z9b.E (.block 2 (.loop Zec)) := Z4 T_ok Z8Z ZCV ZCL ZDc k
noncomputable def Zei : Code := (findLoop 0 Z4F).getD .skip
theorem ZD5 (k : Nat) (x : Zii.D) : Z9h.lp (k + 1) x = loopK Z7 Z9h 0 Zei k x := by kernel_rfl
theorem ZCP (k : Nat) : LOK Try.prog Z7 k Zei := LOK.by [(Z82.E, .region 9 ZgR true), (Z7i.E, .region 11 ZfM true), (Z1q.E, .cond (.tmp 52) Zc4 Zc2), (Z9b.E, .block 2 (.loop Zec)), (Z78.E, .region 26 ZfZ true)] (by kernel_rfl) (AllOK.cons (Zzs k) (AllOK.cons (Zy5 k) (AllOK.cons (ZxZ k) (AllOK.cons (ZBh k) (AllOK.cons (Zy7 k) AllOK.nil)))))
theorem ZD2 (x : Zii.D) : Z9h.lp 0 x = none := by kernel_rfl
theorem ZAV (k : Nat) : EOK Try.prog Z7 k Z9h.E (.block 0 (.loop Zei)) := Z4 T_ok Z8Z ZD2 ZD5 ZCP k
theorem ZGS (k : Nat) (x : Tup Z91.ps) : Z91.f (k + 1) x = fnK Z91 Z7 Z4F k x := by kernel_rfl
theorem ZGI (x : Tup Z91.ps) : Z91.f 0 x = none := by kernel_rfl
theorem ZGT (k : Nat) : LOK Try.prog Z7 k Z4F := LOK.by [(Z9h.E, .block 0 (.loop Zei)), (Z77.E, .region 27 ZfL true)] (by kernel_rfl) (AllOK.cons (ZAV k) (AllOK.cons (Zyk k) AllOK.nil))
theorem ZH7 (k : Nat) : SoundAt Try.prog k 103 Z91.E := @Z5 Try.prog Z91 Z7 103 Try.f103 Z4F (by kernel_rfl) (by kernel_rfl) (by kernel_rfl) Try.func103 (by kernel_rfl) (by kernel_rfl) (by kernel_rfl) T_ok Z8Z ZGT ZGI ZGS k
end
end
section
noncomputable section
noncomputable def ZcV : List PK := [PK.mk .bool false none false none]
noncomputable def ZsS : List PK := [PK.mk (.pair I6 (.pair I6 (.slice 73 P6))) true none false none]
noncomputable def ZpH (r : Bool) : Tup ZcV × OutD := ((r, ()), none)
noncomputable def ZqK : Tup ZcV × OutD → Option (Bool)
 | (a, none) => some (a.1)
 | _ => none
theorem Zyq : ∀ b r, ZqK b = some r → ZpH r = b := by
 rintro ⟨a, _ | _⟩ r h <;> cases h; rfl
noncomputable def Zfj : Nat → Int × Int × List (Int × Int) → Option Bool
 | 0, _ => none
 | k + 1, p0 =>
  Option.bind (ZfB k (p0.1, p0.2.1, p0.2.2)) fun z0 => if z0 = true then some (decide ((↑(List.length p0.2.2) : Int) ≤ 30)) else some false
noncomputable def Z6y : FnDef := .of ZsS ZcV (Bool) (fun k x => Zfj k x.1) ZpH ZqK Zyq
noncomputable def Zjy : Code := Try.f56.body.getD .skip
noncomputable def Zfu : Ctx (Tup ZcV × OutD) := { T := T, G := [(71, Z6m.E)], mvs := [], no := 0, n := 11, res := resOf T ZsS ZcV Try.f56.results.toList, loops := [], regs := [], conds := [], cuts := [] }
theorem ZEo (k : Nat) : EnvOK Try.prog k Zfu.G := (EnvOK.cons (ZDV k) (EnvOK.nil mixed))
theorem ZEZ (k : Nat) (x : Tup Z6y.ps) : Z6y.f (k + 1) x = fnK Z6y Zfu Zjy k x := by kernel_rfl
theorem ZDR (x : Tup Z6y.ps) : Z6y.f 0 x = none := by kernel_rfl
theorem ZEx (k : Nat) : LOK Try.prog Zfu k Zjy := LOK.by [] (by kernel_rfl) AllOK.nil
theorem ZE4 (k : Nat) : SoundAt Try.prog k 56 Z6y.E := @Z5 Try.prog Z6y Zfu 56 Try.f56 Zjy (by kernel_rfl) (by kernel_rfl) (by kernel_rfl) Try.func56 (by kernel_rfl) (by kernel_rfl) (by kernel_rfl) T_ok ZEo ZEx ZDR ZEZ k
noncomputable def Z4D : List PK := [PK.mk .bool false none false none]
noncomputable def ZhE : List PK := [PK.mk (.pair I6 (.pair I6 (.slice 73 P6))) true none false none, PK.mk (.slice 3 I6) false none false none]
noncomputable def Zcy (r : Bool) : Tup Z4D × OutD := ((r, ()), none)
noncomputable def Zca : Tup Z4D × OutD → Option (Bool)
 | (a, none) => some (a.1)
 | _ => none
theorem Zeu : ∀ b r, Zca b = some r → Zcy r = b := by
 rintro ⟨a, _ | _⟩ r h <;> cases h; rfl
noncomputable def Z3A : Nat → Int → Int → List (Int × Int) → List Int → Int → Int → Option (LR Unit Bool)
 | 0, _, _, _, _, _, _ => none
 | k + 1, b1_0, b1_1, b1_2, v15, v16, v17 =>
  if decide (v17 < v16) = true then if (0 : Int) ≤ v17 then if v17 < (↑(List.length v15) : Int) then if decide (List.getD v15 (Int.toNat v17) (0 : Int) < 0) = true then some (LR.ret false) else if decide (List.getD v15 (Int.toNat v17) (0 : Int) ≥ b1_1) = true then some (LR.ret false) else Z3A k b1_0 b1_1 b1_2 v15 v16 (wrap64 (v17 + 1)) else none else none else some (LR.go ())
noncomputable def ZaY : Spec := Spec.mk [.ro, O1] [(2, .at (.ptr 1 0)), (15, .at (.snap 0 I6)), (16, .at (.int .i64)), (17, .at (.int .i64))]
noncomputable def ZpB : Spec := Spec.mk [.ro] []
noncomputable def Z2X : LoopDef (Tup Z4D × OutD) := .rets ZaY ZpB (Unit) (Bool) (fun k x => Z3A k x.1.2.1.1 x.1.2.1.2.1 x.1.2.1.2.2.1 x.2.2.1 x.2.2.2.1 x.2.2.2.2.1) (fun z => (((), ()), (()))) (fun y => ()) (fun _ => rfl) Zcy Zca Zeu
noncomputable def Z9X : Nat → Int × Int × List (Int × Int) → List Int → Option Bool
 | 0, _, _ => none
 | k + 1, p0, p1 =>
  Option.bind (ZbR k (p0.1, p0.2.1, p0.2.2)) fun z0 => if (!z0) = true then some false else if decide ((↑(List.length p1) : Int) > 60) = true then some false else Option.bind (Z3A k p0.1 p0.2.1 p0.2.2 p1 (↑(List.length p1) : Int) (0 : Int)) fun z1 => LR.on z1 (fun y1 => some true) fun r1 => some r1
noncomputable def Z2b : FnDef := .of ZhE Z4D (Bool) (fun k x => Z9X k x.1 x.2.1) Zcy Zca Zeu
noncomputable def Z9N : Code := Try.f62.body.getD .skip
noncomputable def Z3k : Ctx (Tup Z4D × OutD) := { T := T, G := [(61, Z3X.E)], mvs := [], no := 0, n := 30, res := resOf T ZhE Z4D Try.f62.results.toList, loops := [(0, Z2X.E)], regs := [], conds := [], cuts := [] }
theorem ZhS (k : Nat) : EnvOK Try.prog k Z3k.G := (EnvOK.cons (ZqS k) (EnvOK.nil mixed))
noncomputable def Z7v : Code := (findLoop 0 Z9N).getD .skip
theorem Zp9 (k : Nat) (x : ZaY.D) : Z2X.lp (k + 1) x = loopK Z3k Z2X 0 Z7v k x := by kernel_rfl
theorem ZoA (k : Nat) : LOK Try.prog Z3k k Z7v := LOK.by [] (by kernel_rfl) AllOK.nil
theorem ZoW (x : ZaY.D) : Z2X.lp 0 x = none := by kernel_rfl
theorem Znt (k : Nat) : EOK Try.prog Z3k k Z2X.E (.block 0 (.loop Z7v)) := Z4 T_ok ZhS ZoW Zp9 ZoA k
theorem ZtU (k : Nat) (x : Tup Z2b.ps) : Z2b.f (k + 1) x = fnK Z2b Z3k Z9N k x := by kernel_rfl
theorem ZuL (x : Tup Z2b.ps) : Z2b.f 0 x = none := by kernel_rfl
theorem Zud (k : Nat) : LOK Try.prog Z3k k Z9N := LOK.by [(Z2X.E, .block 0 (.loop Z7v))] (by kernel_rfl) (AllOK.cons (Znt k) AllOK.nil)
theorem Zv1 (k : Nat) : SoundAt Try.prog k 62 Z2b.E := @Z5 Try.prog Z2b Z3k 62 Try.f62 Z9N (by kernel_rfl) (by kernel_rfl) (by kernel_rfl) Try.func62 (by kernel_rfl) (by kernel_rfl) (by kernel_rfl) T_ok ZhS Zud ZuL ZtU k
noncomputable def Z2p : List PK := [PK.mk (.slice 81 T6) false none false none]
noncomputable def Zgh : List PK := [PK.mk (.pair I6 (.pair I6 (.slice 73 P6))) true none false none]
noncomputable def Zfd (r : List (Int × Int × Int)) : Tup Z2p × OutD := ((r, ()), none)
noncomputable def Zf6 : Tup Z2p × OutD → Option (List (Int × Int × Int))
 | (a, none) => some (a.1)
 | _ => none
theorem ZkG : ∀ b r, Zf6 b = some r → Zfd r = b := by
 rintro ⟨a, _ | _⟩ r h <;> cases h; rfl
noncomputable def Z11 : Nat → Int → Int → List (Int × Int) → List (Int × Int × Int) → Int → Int → Int → Int → List (Int × Int) → Int → Int → Option (Int × Int × List (Int × Int) × List (Int × Int × Int) × List (Int × Int) × Int × Int)
 | 0, _, _, _, _, _, _, _, _, _, _, _ => none
 | k + 1, b1_0, b1_1, b1_2, o2, b3_0, b3_1, v4, v6, v9, v10, v11 =>
  if decide (v6 ≤ 3) = true then Option.bind (Zeq k (b3_0, b3_1) v6) fun z0 => if z0 = true then if b1_1 = 0 then none else if b1_1 = 0 then none else if List.length o2 + List.length [(v6, wrap64 (Int.tdiv v4 b1_1), Int.tmod v4 b1_1)] ≤ (140737488355328 / 24 : Nat) then Z11 k b1_0 b1_1 b1_2 (o2 ++ [(v6, wrap64 (Int.tdiv v4 b1_1), Int.tmod v4 b1_1)]) b3_0 b3_1 v4 (wrap64 (v6 + 1)) v9 v10 v11 else none else Z11 k b1_0 b1_1 b1_2 o2 b3_0 b3_1 v4 (wrap64 (v6 + 1)) v9 v10 v11 else some (b1_0, b1_1, b1_2, o2, v9, v10, v11)
noncomputable def Z9B : Spec := Spec.mk [.ro, O1, Of, .box 73 [.int .i64, .int .i64]] [(1, .at (.ptr 1 0)), (3, .at (.sl 2)), (4, .at (.int .i64)), (5, .at (.ptr 3 0)), (6, .at (.int .i64)), (9, .at (.snap 0 P6)), (10, .at (.int .i64)), (11, .at (.int .i64))]
noncomputable def ZmA : Spec := Spec.mk [.ro, O1, Of] [(1, .at (.ptr 1 0)), (3, .at (.sl 2)), (9, .at (.snap 0 P6)), (10, .at (.int .i64)), (11, .at (.int .i64))]
noncomputable def Z2r : LoopDef (Tup Z2p × OutD) := .plain Z9B ZmA (Int × Int × List (Int × Int) × List (Int × Int × Int) × List (Int × Int) × Int × Int) (fun k x => Z11 k x.1.2.1.1 x.1.2.1.2.1 x.1.2.1.2.2.1 x.1.2.2.1 x.1.2.2.2.1.1 x.1.2.2.2.1.2.1 x.2.2.2.1 x.2.2.2.2.2.1 x.2.2.2.2.2.2.1 x.2.2.2.2.2.2.2.1 x.2.2.2.2.2.2.2.2.1) (fun z => (((), (z.1, z.2.1, z.2.2.1, ()), z.2.2.2.1, ()), ((), (), z.2.2.2.2.1, z.2.2.2.2.2.1, z.2.2.2.2.2.2, ()))) (fun y => (y.1.2.1.1, y.1.2.1.2.1, y.1.2.1.2.2.1, y.1.2.2.1, y.2.2.2.1, y.2.2.2.2.1, y.2.2.2.2.2.1)) (fun _ => rfl)
noncomputable def Z1M : Nat → Int → Int → List (Int × Int) → List (Int × Int × Int) → List (Int × Int) → Int → Int → Option (List (Int × Int × Int))
 | 0, _, _, _, _, _, _, _ => none
 | k + 1, b1_0, b1_1, b1_2, o2, v9, v10, v11 =>
  if decide (v11 < v10) = true then if (0 : Int) ≤ v11 then if v11 < (↑(List.length v9) : Int) then Option.bind (Z11 k b1_0 b1_1 b1_2 o2 (Prod.fst (List.getD v9 (Int.toNat v11) ((0 : Int), (0 : Int)))) (Prod.snd (List.getD v9 (Int.toNat v11) ((0 : Int), (0 : Int)))) v11 (1 : Int) v9 v10 v11) fun z1 => Z1M k z1.1 z1.2.1 z1.2.2.1 z1.2.2.2.1 z1.2.2.2.2.1 z1.2.2.2.2.2.1 (wrap64 (z1.2.2.2.2.2.2 + 1)) else none else none else some o2
noncomputable def Z9r : Spec := Spec.mk [.ro, O1, Of] [(1, .at (.ptr 1 0)), (3, .at (.sl 2)), (9, .at (.snap 0 P6)), (10, .at (.int .i64)), (11, .at (.int .i64))]
noncomputable def ZlS : Spec := Spec.mk [.ro, Of] [(3, .at (.sl 1))]
noncomputable def Z2z : LoopDef (Tup Z2p × OutD) := .plain Z9r ZlS (List (Int × Int × Int)) (fun k x => Z1M k x.1.2.1.1 x.1.2.1.2.1 x.1.2.1.2.2.1 x.1.2.2.1 x.2.2.2.1 x.2.2.2.2.1 x.2.2.2.2.2.1) (fun z => (((), z, ()), ((), ()))) (fun y => (y.1.2.1)) (fun _ => rfl)
noncomputable def Z8k : Nat → Int × Int × List (Int × Int) → Option (List (Int × Int × Int))
 | 0, _ => none
 | k + 1, p0 =>
  Option.bind (Z1M k p0.1 p0.2.1 p0.2.2 [] p0.2.2 (↑(List.length p0.2.2) : Int) (0 : Int)) fun z2 => some z2
noncomputable def Z1C : FnDef := .of Zgh Z2p (List (Int × Int × Int)) (fun k x => Z8k k x.1) Zfd Zf6 ZkG
noncomputable def Z4Y : Code := Try.f64.body.getD .skip
noncomputable def ZZ : Ctx (Tup Z2p × OutD) := { T := T, G := [(77, Z5n.E)], mvs := [], no := 0, n := 38, res := resOf T Zgh Z2p Try.f64.results.toList, loops := [(2, Z2r.E), (0, Z2z.E)], regs := [], conds := [], cuts := [] }
theorem ZbH (k : Nat) : EnvOK Try.prog k ZZ.G := (EnvOK.cons (ZD4 k) (EnvOK.nil mixed))
noncomputable def Z5t : Code := (findLoop 2 Z4Y).getD .skip
theorem Zmj (k : Nat) (x : Z9B.D) : Z2r.lp (k + 1) x = loopK ZZ Z2r 2 Z5t k x := by kernel_rfl
theorem Zml (k : Nat) : LOK Try.prog ZZ k Z5t := LOK.by [] (by kernel_rfl) AllOK.nil
theorem Zl0 (x : Z9B.D) : Z2r.lp 0 x = none := by kernel_rfl
theorem Zko (k : Nat) : EOK Try.prog ZZ k Z2r.E (.block 2 (.loop Z5t)) := Z4 T_ok ZbH Zl0 Zmj Zml k
noncomputable def Z5A : Code := (findLoop 0 Z4Y).getD .skip
theorem Zl7 (k : Nat) (x : Z9r.D) : Z2z.lp (k + 1) x = loopK ZZ Z2z 0 Z5A k x := by kernel_rfl
theorem ZmK (k : Nat) : LOK Try.prog ZZ k Z5A := LOK.by [(Z2r.E, .block 2 (.loop Z5t))] (by kernel_rfl) (AllOK.cons (Zko k) AllOK.nil)
theorem Zl4 (x : Z9r.D) : Z2z.lp 0 x = none := by kernel_rfl
theorem Zkr (k : Nat) : EOK Try.prog ZZ k Z2z.E (.block 0 (.loop Z5A)) := Z4 T_ok ZbH Zl4 Zl7 ZmK k
theorem Zq4 (k : Nat) (x : Tup Z1C.ps) : Z1C.f (k + 1) x = fnK Z1C ZZ Z4Y k x := by kernel_rfl
theorem Zqu (x : Tup Z1C.ps) : Z1C.f 0 x = none := by kernel_rfl
theorem ZpO (k : Nat) : LOK Try.prog ZZ k Z4Y := LOK.by [(Z2z.E, .block 0 (.loop Z5A))] (by kernel_rfl) (AllOK.cons (Zkr k) AllOK.nil)
theorem ZpN (k : Nat) : SoundAt Try.prog k 64 Z1C.E := @Z5 Try.prog Z1C ZZ 64 Try.f64 Z4Y (by kernel_rfl) (by kernel_rfl) (by kernel_rfl) Try.func64 (by kernel_rfl) (by kernel_rfl) (by kernel_rfl) T_ok ZbH ZpO Zqu Zq4 k
noncomputable def Z53 : List PK := [PK.mk (.slice 94 T6) false none false none, PK.mk (.pair I6 (.pair I6 (.slice 73 P6))) true none false none]
noncomputable def ZiM : List PK := [PK.mk (.pair I6 (.pair I6 (.slice 73 P6))) true none false none, PK.mk (.slice 81 T6) false none false none, PK.mk (.slice 3 I6) false none false none]
noncomputable def Zi0 (r : List (Int × Int × Int) × Int × Int × List (Int × Int)) : Tup Z53 × OutD := ((r.1, r.2, ()), none)
noncomputable def ZhF : Tup Z53 × OutD → Option (List (Int × Int × Int) × Int × Int × List (Int × Int))
 | (a, none) => some (a.1, a.2.1)
 | _ => none
theorem ZoC : ∀ b r, ZhF b = some r → Zi0 r = b := by
 rintro ⟨a, _ | _⟩ r h <;> cases h; rfl
noncomputable def Z43 : Nat → Int → Int → List (Int × Int) → Int → Int → List (Int × Int) → List Int → List Int → List (Int × Int × Int) → List Int → Int → Int → Option (Int × Int × List (Int × Int) × Int × Int × List (Int × Int) × List (Int × Int × Int))
 | 0, _, _, _, _, _, _, _, _, _, _, _, _ => none
 | k + 1, b1_0, b1_1, o2, b3_0, b3_1, o4, o5, o6, o7, v22, v23, v24 =>
  if decide (v24 < v23) = true then if (0 : Int) ≤ v24 then if v24 < (↑(List.length v22) : Int) then Option.bind (Zbo k (b3_0, b3_1, o4) o5 o6 (List.getD v22 (Int.toNat v24) (0 : Int))) fun z3 => if List.length o7 + List.length [(z3.1.1, z3.1.2.1, z3.1.2.2)] ≤ (140737488355328 / 24 : Nat) then Z43 k b1_0 b1_1 o2 b3_0 b3_1 z3.2 o5 o6 (o7 ++ [(z3.1.1, z3.1.2.1, z3.1.2.2)]) v22 v23 (wrap64 (v24 + 1)) else none else none else none else some (b1_0, b1_1, o2, b3_0, b3_1, o4, o7)
noncomputable def ZbS : Spec := Spec.mk [.ro, O7, O0, O2, O0, O3, O3, Opq] [(7, .at (.ptr 1 0)), (8, .at (.ptr 3 0)), (9, .at (.sl 5)), (10, .at (.sl 6)), (11, .at (.sl 7)), (22, .at (.snap 0 I6)), (23, .at (.int .i64)), (24, .at (.int .i64))]
noncomputable def ZqR : Spec := Spec.mk [.ro, O7, O0, O2, O0, Opq] [(7, .at (.ptr 1 0)), (8, .at (.ptr 3 0)), (11, .at (.sl 5))]
noncomputable def Z3E : LoopDef (Tup Z53 × OutD) := .plain ZbS ZqR (Int × Int × List (Int × Int) × Int × Int × List (Int × Int) × List (Int × Int × Int)) (fun k x => Z43 k x.1.2.1.1 x.1.2.1.2.1 x.1.2.2.1 x.1.2.2.2.1.1 x.1.2.2.2.1.2.1 x.1.2.2.2.2.1 x.1.2.2.2.2.2.1 x.1.2.2.2.2.2.2.1 x.1.2.2.2.2.2.2.2.1 x.2.2.2.2.2.2.1 x.2.2.2.2.2.2.2.1 x.2.2.2.2.2.2.2.2.1) (fun z => (((), (z.1, z.2.1, (), ()), z.2.2.1, (z.2.2.2.1, z.2.2.2.2.1, (), ()), z.2.2.2.2.2.1, z.2.2.2.2.2.2, ()), ((), (), (), ()))) (fun y => (y.1.2.1.1, y.1.2.1.2.1, y.1.2.2.1, y.1.2.2.2.1.1, y.1.2.2.2.1.2.1, y.1.2.2.2.2.1, y.1.2.2.2.2.2.1)) (fun _ => rfl)
noncomputable def Zat : Nat → Int × Int × List (Int × Int) → List (Int × Int × Int) → List Int → Option (List (Int × Int × Int) × Int × Int × List (Int × Int))
 | 0, _, _, _ => none
 | k + 1, p0, p1, p2 =>
  Option.bind (Zc3 k (p0.1, p0.2.1, p0.2.2)) fun z0 => Option.bind (Z9W k (p0.1, p0.2.1, p0.2.2)) fun z1 => Option.bind (Z9V k (p0.1, p0.2.1, p0.2.2) p1) fun z2 => Option.bind (Z43 k (0 : Int) (0 : Int) [] z0.1 z0.2.1 z0.2.2 z1 z2 [] p2 (↑(List.length p2) : Int) (0 : Int)) fun z4 => some (z4.2.2.2.2.2.2, z4.2.2.2.1, z4.2.2.2.2.1, z4.2.2.2.2.2.1)
noncomputable def Z2C : FnDef := .of ZiM Z53 (List (Int × Int × Int) × Int × Int × List (Int × Int)) (fun k x => Zat k x.1 x.2.1 x.2.2.1) Zi0 ZhF ZoC
noncomputable def ZaS : Code := Try.f76.body.getD .skip
noncomputable def Z3I : Ctx (Tup Z53 × OutD) := { T := T, G := [(90, Z3J.E), (91, Z29.E), (92, Z28.E), (93, Z39.E)], mvs := [], no := 0, n := 39, res := resOf T ZiM Z53 Try.f76.results.toList, loops := [(0, Z3E.E)], regs := [], conds := [], cuts := [] }
theorem ZiN (k : Nat) : EnvOK Try.prog k Z3I.G := (EnvOK.cons (ZA5 k) (EnvOK.cons (ZtI k) (EnvOK.cons (Zu1 k) (EnvOK.cons (Zyu k) (EnvOK.nil mixed)))))
noncomputable def Z7X : Code := (findLoop 0 ZaS).getD .skip
theorem Zqy (k : Nat) (x : ZbS.D) : Z3E.lp (k + 1) x = loopK Z3I Z3E 0 Z7X k x := by kernel_rfl
theorem Zra (k : Nat) : LOK Try.prog Z3I k Z7X := LOK.by [] (by kernel_rfl) AllOK.nil
theorem Zqq (x : ZbS.D) : Z3E.lp 0 x = none := by kernel_rfl
theorem Zpm (k : Nat) : EOK Try.prog Z3I k Z3E.E (.block 0 (.loop Z7X)) := Z4 T_ok ZiN Zqq Zqy Zra k
theorem Zvs (k : Nat) (x : Tup Z2C.ps) : Z2C.f (k + 1) x = fnK Z2C Z3I ZaS k x := by kernel_rfl
theorem ZvE (x : Tup Z2C.ps) : Z2C.f 0 x = none := by kernel_rfl
theorem Zw0 (k : Nat) : LOK Try.prog Z3I k ZaS := LOK.by [(Z3E.E, .block 0 (.loop Z7X))] (by kernel_rfl) (AllOK.cons (Zpm k) AllOK.nil)
theorem ZvI (k : Nat) : SoundAt Try.prog k 76 Z2C.E := @Z5 Try.prog Z2C Z3I 76 Try.f76 ZaS (by kernel_rfl) (by kernel_rfl) (by kernel_rfl) Try.func76 (by kernel_rfl) (by kernel_rfl) (by kernel_rfl) T_ok ZiN Zw0 ZvE Zvs k
noncomputable def Z40 : List PK := [PK.mk (.pair I6 (.pair I6 (.slice 73 P6))) true none false none]
noncomputable def Zhj : List PK := [PK.mk (.pair (.slice 5 (.int .u8)) (.pair I6 (.int .u64))) false none false (some 89), PK.mk I6 false none false none, PK.mk I6 false none false none]
noncomputable def Zgk (r : (Int × Int × List (Int × Int)) × Int × Int) : Tup Z40 × OutD := ((r.1, ()), some ⟨Ty.pair (Ty.slice (5 : Nat) (Ty.int .u8)) (Ty.pair (Ty.int .i64) (Ty.int .u64)), [([], r.2)]⟩)
noncomputable def ZbM : Tup Z40 × OutD → Option ((Int × Int × List (Int × Int)) × Int × Int)
 | (a, some ⟨u, ys⟩) => if h : u = Ty.pair (Ty.slice (5 : Nat) (Ty.int .u8)) (Ty.pair (Ty.int .i64) (Ty.int .u64)) then (match castU h ys with
  | [([], y)] => some (a.1, y)
  | _ => none) else none
 | _ => none
theorem Zlp : ∀ b r, ZbM b = some r → Zgk r = b := by
 rintro ⟨a, o⟩ r h
 cases o with
 | none => cases h
 | some s =>
  obtain ⟨u, ys⟩ := s
  simp only [ZbM] at h
  split at h
  ·rename_i hu
   subst hu
   match ys, h with
   | [], h => cases (show (none : Option _) = some r from h)
   | [([], y)], h => injection (show some _ = some r from h) with h; subst h; rfl
   | [(_ :: _, y)], h => cases (show (none : Option _) = some r from h)
   | (h1, _) :: _ :: _, h => cases h1 <;> cases (show (none : Option _) = some r from h)
  ·cases h
noncomputable def Z8 : Nat → Int → Int → List Int → Int → Int → List (Int × Int) → Int → Int → List (Int × Int) → Int → Int → Int → Option (Int × Int × List Int × Int × Int × List (Int × Int) × Int × Int × List (Int × Int))
 | 0, _, _, _, _, _, _, _, _, _, _, _, _ => none
 | k + 1, b1_1, b1_2, o2, b3_0, b3_1, o4, b5_0, b5_1, o6, v1, v2, v8 =>
  if decide ((↑(List.length o6) : Int) < wrap64 (v1 * v2)) = true then Option.bind (ZC k (o2, b1_1, b1_2) v8) fun z1 => if z1.1 = true then Option.bind (Z4e k (o2, z1.2.1, z1.2.2)) fun z2 => if decide (z2.1.1 = 5) = true then Option.bind (ZC k (o2, z2.2.1, z2.2.2) (3 : Int)) fun z3 => if (!z3.1) = true then Option.bind (Z1 k (o2, z3.2.1, z3.2.2) (2 : Int)) fun z4 => if List.length o6 + List.length [((3 : Int), z4.1)] ≤ (140737488355328 / 16 : Nat) then Z8 k z4.2.1 z4.2.2 o2 b3_0 b3_1 o4 b5_0 b5_1 (o6 ++ [((3 : Int), z4.1)]) v1 v2 v8 else none else if List.length o6 + List.length [(z2.1.1, z2.1.2)] ≤ (140737488355328 / 16 : Nat) then Z8 k z3.2.1 z3.2.2 o2 b3_0 b3_1 o4 b5_0 b5_1 (o6 ++ [(z2.1.1, z2.1.2)]) v1 v2 v8 else none else if List.length o6 + List.length [(z2.1.1, z2.1.2)] ≤ (140737488355328 / 16 : Nat) then Z8 k z2.2.1 z2.2.2 o2 b3_0 b3_1 o4 b5_0 b5_1 (o6 ++ [(z2.1.1, z2.1.2)]) v1 v2 v8 else none else Option.bind (ZC k (o2, z1.2.1, z1.2.2) (3 : Int)) fun z5 => if z5.1 = true then Option.bind (Z4e k (o2, z5.2.1, z5.2.2)) fun z6 => if decide (z6.1.1 = 5) = true then Option.bind (ZC k (o2, z6.2.1, z6.2.2) (3 : Int)) fun z7 => if (!z7.1) = true then Option.bind (Z1 k (o2, z7.2.1, z7.2.2) (2 : Int)) fun z8 => if List.length o6 + List.length [((3 : Int), z8.1)] ≤ (140737488355328 / 16 : Nat) then Z8 k z8.2.1 z8.2.2 o2 b3_0 b3_1 o4 b5_0 b5_1 (o6 ++ [((3 : Int), z8.1)]) v1 v2 v8 else none else if List.length o6 + List.length [(z6.1.1, z6.1.2)] ≤ (140737488355328 / 16 : Nat) then Z8 k z7.2.1 z7.2.2 o2 b3_0 b3_1 o4 b5_0 b5_1 (o6 ++ [(z6.1.1, z6.1.2)]) v1 v2 v8 else none else if List.length o6 + List.length [(z6.1.1, z6.1.2)] ≤ (140737488355328 / 16 : Nat) then Z8 k z6.2.1 z6.2.2 o2 b3_0 b3_1 o4 b5_0 b5_1 (o6 ++ [(z6.1.1, z6.1.2)]) v1 v2 v8 else none else if List.length o6 + List.length [((0 : Int), (0 : Int))] ≤ (140737488355328 / 16 : Nat) then Z8 k z5.2.1 z5.2.2 o2 b3_0 b3_1 o4 b5_0 b5_1 (o6 ++ [((0 : Int), (0 : Int))]) v1 v2 v8 else none else some (b1_1, b1_2, o2, b3_0, b3_1, o4, b5_0, b5_1, o6)
noncomputable def Zae : Spec := Spec.mk [.ro, O6, Obq, O2, O0, O4, O0] [(0, .at (.ptr 1 0)), (1, .at (.int .i64)), (2, .at (.int .i64)), (6, .at (.ptr 3 0)), (7, .at (.ptr 5 0)), (8, .at (.int .i64))]
noncomputable def ZmX : Spec := Spec.mk [.ro, O6, Obq, O2, O0, O4, O0] [(6, .at (.ptr 3 0)), (7, .at (.ptr 5 0))]
noncomputable def Z2J : LoopDef (Tup Z40 × OutD) := .plain Zae ZmX (Int × Int × List Int × Int × Int × List (Int × Int) × Int × Int × List (Int × Int)) (fun k x => Z8 k x.1.2.1.2.1 x.1.2.1.2.2.1 x.1.2.2.1 x.1.2.2.2.1.1 x.1.2.2.2.1.2.1 x.1.2.2.2.2.1 x.1.2.2.2.2.2.1.1 x.1.2.2.2.2.2.1.2.1 x.1.2.2.2.2.2.2.1 x.2.2.1 x.2.2.2.1 x.2.2.2.2.2.2.1) (fun z => (((), ((), z.1, z.2.1, ()), z.2.2.1, (z.2.2.2.1, z.2.2.2.2.1, (), ()), z.2.2.2.2.2.1, (z.2.2.2.2.2.2.1, z.2.2.2.2.2.2.2.1, (), ()), z.2.2.2.2.2.2.2.2, ()), ((), (), ()))) (fun y => (y.1.2.1.2.1, y.1.2.1.2.2.1, y.1.2.2.1, y.1.2.2.2.1.1, y.1.2.2.2.1.2.1, y.1.2.2.2.2.1, y.1.2.2.2.2.2.1.1, y.1.2.2.2.2.2.1.2.1, y.1.2.2.2.2.2.2.1)) (fun _ => rfl)
noncomputable def Z1g : Nat → List Int × Int × Int → Int → Int → Option ((Int × Int × List (Int × Int)) × Int × Int)
 | 0, _, _, _ => none
 | k + 1, p0, p1, p2 =>
  Option.bind (Zb k (p0.1, p0.2.1, p0.2.2) [(1 : Int), (2 : Int), (2 : Int)]) fun z0 => Option.bind (Z8 k z0.2.1 z0.2.2 p0.1 (0 : Int) (0 : Int) [] p1 p2 [] p1 p2 z0.1) fun z9 => some ((z9.2.2.2.2.2.2.1, z9.2.2.2.2.2.2.2.1, z9.2.2.2.2.2.2.2.2), z9.1, z9.2.1)
noncomputable def Z16 : FnDef := .of Zhj Z40 ((Int × Int × List (Int × Int)) × Int × Int) (fun k x => Z1g k x.1 x.2.1 x.2.2.1) Zgk ZbM Zlp
noncomputable def Z8X : Code := Try.f82.body.getD .skip
noncomputable def Z2P : Ctx (Tup Z40 × OutD) := { T := T, G := [(84, ZI.E), (83, Z1r.E), (100, Z2m.E), (80, Zk.E)], mvs := [], no := 2, n := 51, res := resOf T Zhj Z40 Try.f82.results.toList, loops := [(0, Z2J.E)], regs := [], conds := [], cuts := [] }
theorem Zhx (k : Nat) : EnvOK Try.prog k Z2P.G := (EnvOK.cons (Z57 k) (EnvOK.cons (Zcq k) (EnvOK.cons (ZjX k) (EnvOK.cons (Z2n k) (EnvOK.nil mixed)))))
noncomputable def Z6B : Code := (findLoop 0 Z8X).getD .skip
theorem Znp (k : Nat) (x : Zae.D) : Z2J.lp (k + 1) x = loopK Z2P Z2J 0 Z6B k x := by kernel_rfl
theorem Znm (k : Nat) : LOK Try.prog Z2P k Z6B := LOK.by [] (by kernel_rfl) AllOK.nil
theorem Znv (x : Zae.D) : Z2J.lp 0 x = none := by kernel_rfl
theorem Zla (k : Nat) : EOK Try.prog Z2P k Z2J.E (.block 0 (.loop Z6B)) := Z4 T_ok Zhx Znv Znp Znm k
theorem Zrx (k : Nat) (x : Tup Z16.ps) : Z16.f (k + 1) x = fnK Z16 Z2P Z8X k x := by kernel_rfl
theorem ZsG (x : Tup Z16.ps) : Z16.f 0 x = none := by kernel_rfl
theorem ZrV (k : Nat) : LOK Try.prog Z2P k Z8X := LOK.by [(Z2J.E, .block 0 (.loop Z6B))] (by kernel_rfl) (AllOK.cons (Zla k) AllOK.nil)
theorem Zcg (k : Nat) : SoundAt Try.prog k 82 Z16.E := @Z5 Try.prog Z16 Z2P 82 Try.f82 Z8X (by kernel_rfl) (by kernel_rfl) (by kernel_rfl) Try.func82 (by kernel_rfl) (by kernel_rfl) (by kernel_rfl) T_ok Zhx ZrV ZsG Zrx k
noncomputable def Z9m : List PK := [PK.mk (.slice 94 T6) false none false none, PK.mk (.pair I6 (.pair I6 (.slice 73 P6))) true none false none]
noncomputable def Zvg : List PK := [PK.mk (.pair I6 (.pair I6 (.slice 73 P6))) true none false none, PK.mk (.slice 81 T6) false none false none, PK.mk (.slice 3 I6) false none false none]
noncomputable def ZsZ (r : List (Int × Int × Int) × Int × Int × List (Int × Int)) : Tup Z9m × OutD := ((r.1, r.2, ()), none)
noncomputable def Zta : Tup Z9m × OutD → Option (List (Int × Int × Int) × Int × Int × List (Int × Int))
 | (a, none) => some (a.1, a.2.1)
 | _ => none
theorem ZAx : ∀ b r, Zta b = some r → ZsZ r = b := by
 rintro ⟨a, _ | _⟩ r h <;> cases h; rfl
noncomputable def Z5x : Nat → Int → Int → List (Int × Int) → Int → Int → List (Int × Int) → List (Int × Int × Int) → List Int → Option (Int × Int × List (Int × Int) × Int × Int × List (Int × Int) × List Int × List (Int × Int × Int) × List Int) := fun k b1_0 b1_1 b1_2 b2_0 b2_1 o3 v1 v2 =>
    Option.bind (Z9C k (b1_0, b1_1, b1_2)) fun z0 => Option.bind (Z5Q k (b1_0, b1_1, b1_2)) fun z1 => some (b2_0, b2_1, o3, z0.1, z0.2.1, z0.2.2, z1, v1, v2)
noncomputable def Zcj : Nat → Int → Int → List (Int × Int) → Int → Int → List (Int × Int) → List (Int × Int × Int) → List Int → Option (List (Int × Int × List (Int × Int) × Int × Int × List (Int × Int) × List Int × List (Int × Int × Int) × List Int)) := fun k b1_0 b1_1 b1_2 b2_0 b2_1 o3 v1 v2 =>
    joinL (Option.bind (Z9C k (b1_0, b1_1, b1_2)) fun z2 => joinL (Option.bind (Z5Q k (b1_0, b1_1, b1_2)) fun z3 => some [(b2_0, b2_1, o3, z2.1, z2.2.1, z2.2.2, z3, v1, v2)]) (Option.bind (Z5Q k (b1_0, b1_1, b1_2)) fun z4 => some [(b2_0, b2_1, o3, z2.1, z2.2.1, z2.2.2, z4, v1, v2)])) (Option.bind (Z9C k (b1_0, b1_1, b1_2)) fun z5 => Option.bind (Z5Q k (b1_0, b1_1, b1_2)) fun z6 => some [(b2_0, b2_1, o3, z5.1, z5.2.1, z5.2.2, z6, v1, v2)])
noncomputable def Zme : Spec := Spec.mk [.ro, O1, Oc, O0] [(1, .at (.snap 0 T6)), (2, .at (.snap 0 I6)), (3, .at (.ptr 1 0)), (7, .at (.ptr 2 0))]
noncomputable def ZAK : Spec := Spec.mk [.ro, O7, O0, O2, O0, O3] [(1, .at (.snap 0 T6)), (2, .at (.snap 0 I6)), (7, .at (.ptr 1 0)), (8, .at (.ptr 3 0)), (9, .at (.sl 5))]
noncomputable def Z6X : LoopDef (Tup Z9m × OutD) := .plain Zme ZAK (Int × Int × List (Int × Int) × Int × Int × List (Int × Int) × List Int × List (Int × Int × Int) × List Int) (fun k x => Z5x k x.1.2.1.1 x.1.2.1.2.1 x.1.2.1.2.2.1 x.1.2.2.1.1 x.1.2.2.1.2.1 x.1.2.2.2.1 x.2.1 x.2.2.1) (fun z => (((), (z.1, z.2.1, (), ()), z.2.2.1, (z.2.2.2.1, z.2.2.2.2.1, (), ()), z.2.2.2.2.2.1, z.2.2.2.2.2.2.1, ()), (z.2.2.2.2.2.2.2.1, z.2.2.2.2.2.2.2.2, (), (), (), ()))) (fun y => (y.1.2.1.1, y.1.2.1.2.1, y.1.2.2.1, y.1.2.2.2.1.1, y.1.2.2.2.1.2.1, y.1.2.2.2.2.1, y.1.2.2.2.2.2.1, y.2.1, y.2.2.1)) (fun _ => rfl)
theorem Zzo (k : Nat) (b1_0 : Int) (b1_1 : Int) (b1_2 : List (Int × Int)) (b2_0 : Int) (b2_1 : Int) (o3 : List (Int × Int)) (v1 : List (Int × Int × Int)) (v2 : List Int) : Zcj k b1_0 b1_1 b1_2 b2_0 b2_1 o3 v1 v2 = repl 3 (Z5x k b1_0 b1_1 b1_2 b2_0 b2_1 o3 v1 v2) := by
 first
 | (simp only [Zcj, Z5x, Zy, ZV, Zz, ZA, Zx, Z9, if_true]; done)
 | (simp only [Zcj, Z5x, Zy, ZV, Zz, ZA, Zx, Z9, if_true]; simp only [Z4Q, Z4K, Z8t, Z9]; simp only [Zai]; exact Z6s ⟨fun h => by simp only [h, and_self], fun h => by simp only [h, and_self]⟩)
noncomputable def Z9d : Nat → Int → Int → List (Int × Int) → Int → Int → List (Int × Int) → List Int → List (Int × Int × Int) → List (Int × Int × Int) → List Int → Int → Int → Option (Int × Int × List (Int × Int) × Int × Int × List (Int × Int) × List (Int × Int × Int))
 | 0, _, _, _, _, _, _, _, _, _, _, _, _ => none
 | k + 1, b1_0, b1_1, o2, b3_0, b3_1, o4, o5, o6, v1, v19, v20, v21 =>
  if decide (v21 < v20) = true then if (0 : Int) ≤ v21 then if v21 < (↑(List.length v19) : Int) then Option.bind (Zir k (b3_0, b3_1, o4) o5 v1 (List.getD v19 (Int.toNat v21) (0 : Int))) fun z8 => if List.length o6 + List.length [(z8.1.1, z8.1.2.1, z8.1.2.2)] ≤ (140737488355328 / 24 : Nat) then Z9d k b1_0 b1_1 o2 z8.2.1 z8.2.2.1 z8.2.2.2 o5 (o6 ++ [(z8.1.1, z8.1.2.1, z8.1.2.2)]) v1 v19 v20 (wrap64 (v21 + 1)) else none else none else none else some (b1_0, b1_1, o2, b3_0, b3_1, o4, o6)
noncomputable def Zhq : Spec := Spec.mk [.ro, O7, O0, O2, O0, O3, Opq] [(1, .at (.snap 0 T6)), (7, .at (.ptr 1 0)), (8, .at (.ptr 3 0)), (9, .at (.sl 5)), (10, .at (.sl 6)), (19, .at (.snap 0 I6)), (20, .at (.int .i64)), (21, .at (.int .i64))]
noncomputable def ZBV : Spec := Spec.mk [.ro, O7, O0, O2, O0, Opq] [(7, .at (.ptr 1 0)), (8, .at (.ptr 3 0)), (10, .at (.sl 5))]
noncomputable def Z7S : LoopDef (Tup Z9m × OutD) := .plain Zhq ZBV (Int × Int × List (Int × Int) × Int × Int × List (Int × Int) × List (Int × Int × Int)) (fun k x => Z9d k x.1.2.1.1 x.1.2.1.2.1 x.1.2.2.1 x.1.2.2.2.1.1 x.1.2.2.2.1.2.1 x.1.2.2.2.2.1 x.1.2.2.2.2.2.1 x.1.2.2.2.2.2.2.1 x.2.1 x.2.2.2.2.2.2.1 x.2.2.2.2.2.2.2.1 x.2.2.2.2.2.2.2.2.1) (fun z => (((), (z.1, z.2.1, (), ()), z.2.2.1, (z.2.2.2.1, z.2.2.2.2.1, (), ()), z.2.2.2.2.2.1, z.2.2.2.2.2.2, ()), ((), (), (), ()))) (fun y => (y.1.2.1.1, y.1.2.1.2.1, y.1.2.2.1, y.1.2.2.2.1.1, y.1.2.2.2.1.2.1, y.1.2.2.2.2.1, y.1.2.2.2.2.2.1)) (fun _ => rfl)
noncomputable def ZgG : Nat → Int × Int × List (Int × Int) → List (Int × Int × Int) → List Int → Option (List (Int × Int × Int) × Int × Int × List (Int × Int))
 | 0, _, _, _ => none
 | k + 1, p0, p1, p2 =>
  Option.bind (Z5x k p0.1 p0.2.1 p0.2.2 (0 : Int) (0 : Int) [] p1 p2) fun z7 => Option.bind (Z9d k z7.1 z7.2.1 z7.2.2.1 z7.2.2.2.1 z7.2.2.2.2.1 z7.2.2.2.2.2.1 z7.2.2.2.2.2.2.1 [] z7.2.2.2.2.2.2.2.1 z7.2.2.2.2.2.2.2.2 (↑(List.length z7.2.2.2.2.2.2.2.2) : Int) (0 : Int)) fun z9 => some (z9.2.2.2.2.2.2, z9.2.2.2.1, z9.2.2.2.2.1, z9.2.2.2.2.2.1)
noncomputable def Z7M : FnDef := .of Zvg Z9m (List (Int × Int × Int) × Int × Int × List (Int × Int)) (fun k x => ZgG k x.1 x.2.1 x.2.2.1) ZsZ Zta ZAx
noncomputable def ZdS : Code := Try.f87.body.getD .skip
noncomputable def Z2s : Ctx (Tup Z9m × OutD) := { T := T, G := [(101, Z5L.E), (102, Z4m.E), (103, Z91.E)], mvs := [], no := 0, n := 41, res := resOf T Zvg Z9m Try.f87.results.toList, loops := [(0, Z7S.E)], regs := [(1, Z6X.E)], conds := [], cuts := [] }
theorem Zlo (k : Nat) : EnvOK Try.prog k Z2s.G := (EnvOK.cons (ZwP k) (EnvOK.cons (ZC3 k) (EnvOK.cons (ZH7 k) (EnvOK.nil mixed))))
noncomputable def ZfK : Array Oper := (findReg 1 ZdS).getD #[]
theorem ZzR (k : Nat) (x : Zme.D) : execD Z2s.T Z2s.G Z2s.mvs k ZfK (Z6X.inp.st Z2s.n x) (outK Z2s Z6X) = Zcj k x.1.2.1.1 x.1.2.1.2.1 x.1.2.1.2.2.1 x.1.2.2.1.1 x.1.2.2.1.2.1 x.1.2.2.2.1 x.2.1 x.2.2.1 := by kernel_rfl
theorem ZyK (k : Nat) : EOK Try.prog Z2s k Z6X.E (.region 1 ZfK true) := Z8y (D := Z6X) (m := 3) T_ok (Zlo k) (fun x => (ZzR k x).trans (Zzo k x.1.2.1.1 x.1.2.1.2.1 x.1.2.1.2.2.1 x.1.2.2.1.1 x.1.2.2.1.2.1 x.1.2.2.2.1 x.2.1 x.2.2.1))
noncomputable def Zdx : Code := (findLoop 0 ZdS).getD .skip
theorem ZBi (k : Nat) (x : Zhq.D) : Z7S.lp (k + 1) x = loopK Z2s Z7S 0 Zdx k x := by kernel_rfl
theorem ZBp (k : Nat) : LOK Try.prog Z2s k Zdx := LOK.by [] (by kernel_rfl) AllOK.nil
theorem ZBA (x : Zhq.D) : Z7S.lp 0 x = none := by kernel_rfl
theorem ZA2 (k : Nat) : EOK Try.prog Z2s k Z7S.E (.block 0 (.loop Zdx)) := Z4 T_ok Zlo ZBA ZBi ZBp k
theorem ZFr (k : Nat) (x : Tup Z7M.ps) : Z7M.f (k + 1) x = fnK Z7M Z2s ZdS k x := by kernel_rfl
theorem ZFm (x : Tup Z7M.ps) : Z7M.f 0 x = none := by kernel_rfl
theorem ZFe (k : Nat) : LOK Try.prog Z2s k ZdS := LOK.by [(Z6X.E, .region 1 ZfK true), (Z7S.E, .block 0 (.loop Zdx))] (by kernel_rfl) (AllOK.cons (ZyK k) (AllOK.cons (ZA2 k) AllOK.nil))
theorem ZFB (k : Nat) : SoundAt Try.prog k 87 Z7M.E := @Z5 Try.prog Z7M Z2s 87 Try.f87 ZdS (by kernel_rfl) (by kernel_rfl) (by kernel_rfl) Try.func87 (by kernel_rfl) (by kernel_rfl) (by kernel_rfl) T_ok Zlo ZFe ZFm ZFr k
noncomputable def Z5y : List PK := [PK.mk P6 true none false none]
noncomputable def Zhk : List PK := [PK.mk (.pair (.slice 5 (.int .u8)) (.pair I6 (.int .u64))) false none false (some 89)]
noncomputable def Zg6 (r : (Int × Int) × Int × Int) : Tup Z5y × OutD := ((r.1, ()), some ⟨Ty.pair (Ty.slice (5 : Nat) (Ty.int .u8)) (Ty.pair (Ty.int .i64) (Ty.int .u64)), [([], r.2)]⟩)
noncomputable def ZbQ : Tup Z5y × OutD → Option ((Int × Int) × Int × Int)
 | (a, some ⟨u, ys⟩) => if h : u = Ty.pair (Ty.slice (5 : Nat) (Ty.int .u8)) (Ty.pair (Ty.int .i64) (Ty.int .u64)) then (match castU h ys with
  | [([], y)] => some (a.1, y)
  | _ => none) else none
 | _ => none
theorem ZlI : ∀ b r, ZbQ b = some r → Zg6 r = b := by
 rintro ⟨a, o⟩ r h
 cases o with
 | none => cases h
 | some s =>
  obtain ⟨u, ys⟩ := s
  simp only [ZbQ] at h
  split at h
  ·rename_i hu
   subst hu
   match ys, h with
   | [], h => cases (show (none : Option _) = some r from h)
   | [([], y)], h => injection (show some _ = some r from h) with h; subst h; rfl
   | [(_ :: _, y)], h => cases (show (none : Option _) = some r from h)
   | (h1, _) :: _ :: _, h => cases h1 <;> cases (show (none : Option _) = some r from h)
  ·cases h
noncomputable def Z1f : Nat → List Int × Int × Int → Option ((Int × Int) × Int × Int)
 | 0, _ => none
 | k + 1, p0 =>
  Option.bind (Z4e k (p0.1, p0.2.1, p0.2.2)) fun z0 => Option.bind (Z1 k (p0.1, z0.2.1, z0.2.2) (20 : Int)) fun z1 => if decide (z1.1 = 0) = true then Option.bind (Zb k (p0.1, z1.2.1, z1.2.2) [(-1 : Int), (8 : Int)]) fun z2 => some ((z2.1, z0.1.2), z2.2.1, z2.2.2) else if decide (z1.1 = 1) = true then Option.bind (Zb k (p0.1, z1.2.1, z1.2.2) [(-1 : Int), (1 : Int), (2 : Int)]) fun z3 => some ((z0.1.1, z3.1), z3.2.1, z3.2.2) else some ((z0.1.1, z0.1.2), z1.2.1, z1.2.2)
noncomputable def Z1U : FnDef := .of Zhk Z5y ((Int × Int) × Int × Int) (fun k x => Z1f k x.1) Zg6 ZbQ ZlI
noncomputable def ZcB : Code := Try.f99.body.getD .skip
noncomputable def Z8O : Ctx (Tup Z5y × OutD) := { T := T, G := [(100, Z2m.E), (80, Zk.E), (84, ZI.E)], mvs := [], no := 2, n := 21, res := resOf T Zhk Z5y Try.f99.results.toList, loops := [], regs := [], conds := [], cuts := [] }
theorem Zsd (k : Nat) : EnvOK Try.prog k Z8O.G := (EnvOK.cons (ZjX k) (EnvOK.cons (Z2n k) (EnvOK.cons (Z57 k) (EnvOK.nil mixed))))
theorem ZrS (k : Nat) (x : Tup Z1U.ps) : Z1U.f (k + 1) x = fnK Z1U Z8O ZcB k x := by kernel_rfl
theorem Zsb (x : Tup Z1U.ps) : Z1U.f 0 x = none := by kernel_rfl
theorem Zsk (k : Nat) : LOK Try.prog Z8O k ZcB := LOK.by [] (by kernel_rfl) AllOK.nil
theorem ZsA (k : Nat) : SoundAt Try.prog k 99 Z1U.E := @Z5 Try.prog Z1U Z8O 99 Try.f99 ZcB (by kernel_rfl) (by kernel_rfl) (by kernel_rfl) Try.func99 (by kernel_rfl) (by kernel_rfl) (by kernel_rfl) T_ok Zsd Zsk Zsb ZrS k
end
end
end Go.Proofs.Ytkbikniinjalbaa.Vs
