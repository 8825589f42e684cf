/- The proof, part 6. -/
import Derived.Test.Ytkbikniinjalbaaqltm4
set_option maxRecDepth 100000
set_option maxHeartbeats 2000000
set_option linter.unusedVariables false
set_option linter.unusedSimpArgs false
namespace Go.Proofs.Ytkbikniinjalbaa.Vs
open Go.RowKit
noncomputable section
noncomputable def Zak : List PK := [PK.mk .bool false none false none]
noncomputable def Ztv : List PK := [PK.mk (.slice 28 (.slice 3 I6)) false none false none, PK.mk (.slice 28 (.slice 3 I6)) false none false none]
noncomputable def Zid (r : Bool) : Tup Zak × OutD := ((r, ()), none)
noncomputable def Zik : Tup Zak × OutD → Option (Bool)
 | (a, none) => some (a.1)
 | _ => none
theorem Zk4 : ∀ b r, Zik b = some r → Zid r = b := by
 rintro ⟨a, _ | _⟩ r h <;> cases h; rfl
noncomputable def Z8h : Nat → List (List Int) → List (List Int) → Int → Int → Option (LR Unit Bool)
 | 0, _, _, _, _ => none
 | k + 1, v0, v1, v12, v13 =>
  if decide (v13 < v12) = true then if (0 : Int) ≤ v13 then if v13 < (↑(List.length v0) : Int) then if (0 : Int) ≤ v13 then if v13 < (↑(List.length v1) : Int) then Option.bind (Z7L k (List.getD v0 (Int.toNat v13) []) (List.getD v1 (Int.toNat v13) [])) fun z0 => if (!z0) = true then some (LR.ret false) else Z8h k v0 v1 v12 (wrap64 (v13 + 1)) else none else none else none else none else some (LR.go ())
noncomputable def Zg0 : Spec := Spec.mk [.ro] [(0, .at (.snap 0 (.slice 3 I6))), (1, .at (.snap 0 (.slice 3 I6))), (12, .at (.int .i64)), (13, .at (.int .i64))]
noncomputable def ZAO : Spec := Spec.mk [.ro] []
noncomputable def Z6T : LoopDef (Tup Zak × OutD) := .rets Zg0 ZAO (Unit) (Bool) (fun k x => Z8h k x.2.1 x.2.2.1 x.2.2.2.1 x.2.2.2.2.1) (fun z => (((), ()), (()))) (fun y => ()) (fun _ => rfl) Zid Zik Zk4
noncomputable def Zam : Nat → List (List Int) → List (List Int) → Option Bool
 | 0, _, _ => none
 | k + 1, p0, p1 =>
  if decide ((↑(List.length p0) : Int) ≠ (↑(List.length p1) : Int)) = true then some false else Option.bind (Z8h k p0 p1 (↑(List.length p0) : Int) (0 : Int)) fun z1 => LR.on z1 (fun y1 => some true) fun r1 => some r1
noncomputable def Z6v : FnDef := .of Ztv Zak (Bool) (fun k x => Zam k x.1 x.2.1) Zid Zik Zk4
noncomputable def ZfH : Code := Try.f28.body.getD .skip
noncomputable def Z8v : Ctx (Tup Zak × OutD) := { T := T, G := [(24, Z5M.E)], mvs := [], no := 0, n := 27, res := resOf T Ztv Zak Try.f28.results.toList, loops := [(0, Z6T.E)], regs := [], conds := [], cuts := [] }
theorem ZtC (k : Nat) : EnvOK Try.prog k Z8v.G := (EnvOK.cons (Zvt k) (EnvOK.nil mixed))
noncomputable def ZcD : Code := (findLoop 0 ZfH).getD .skip
theorem ZAN (k : Nat) (x : Zg0.D) : Z6T.lp (k + 1) x = loopK Z8v Z6T 0 ZcD k x := by kernel_rfl
theorem ZAL (k : Nat) : LOK Try.prog Z8v k ZcD := LOK.by [] (by kernel_rfl) AllOK.nil
theorem Zzp (x : Zg0.D) : Z6T.lp 0 x = none := by kernel_rfl
theorem ZyN (k : Nat) : EOK Try.prog Z8v k Z6T.E (.block 0 (.loop ZcD)) := Z4 T_ok ZtC Zzp ZAN ZAL k
theorem ZF7 (k : Nat) (x : Tup Z6v.ps) : Z6v.f (k + 1) x = fnK Z6v Z8v ZfH k x := by kernel_rfl
theorem ZEa (x : Tup Z6v.ps) : Z6v.f 0 x = none := by kernel_rfl
theorem ZFb (k : Nat) : LOK Try.prog Z8v k ZfH := LOK.by [(Z6T.E, .block 0 (.loop ZcD))] (by kernel_rfl) (AllOK.cons (ZyN k) AllOK.nil)
theorem ZEC (k : Nat) : SoundAt Try.prog k 28 Z6v.E := @Z5 Try.prog Z6v Z8v 28 Try.f28 ZfH (by kernel_rfl) (by kernel_rfl) (by kernel_rfl) Try.func28 (by kernel_rfl) (by kernel_rfl) (by kernel_rfl) T_ok ZtC ZFb ZEa ZF7 k
noncomputable def Z4f : List PK := [PK.mk (.slice 3 I6) false none false none]
noncomputable def Zkd : List PK := [PK.mk (.slice 28 (.slice 3 I6)) false none false none, PK.mk (.slice 3 I6) false none false none]
noncomputable def ZiS (r : List Int) : Tup Z4f × OutD := ((r, ()), none)
noncomputable def ZiL : Tup Z4f × OutD → Option (List Int)
 | (a, none) => some (a.1)
 | _ => none
theorem Zqc : ∀ b r, ZiL b = some r → ZiS r = b := by
 rintro ⟨a, _ | _⟩ r h <;> cases h; rfl
noncomputable def Z3f : Nat → List Int → List Int → Int → List Int → List (List Int) → Int → Int → List Int → Int → Int → Option (List Int × List Int × List (List Int) × Int × Int)
 | 0, _, _, _, _, _, _, _, _, _, _ => none
 | k + 1, o1, v1, v6, v7, v10, v11, v12, v17, v18, v19 =>
  if decide (v19 < v18) = true then if (0 : Int) ≤ v19 then if v19 < (↑(List.length v17) : Int) then if (0 : Int) ≤ List.getD v17 (Int.toNat v19) (0 : Int) then if List.getD v17 (Int.toNat v19) (0 : Int) < (↑(List.length v7) : Int) then if decide (List.getD v7 (Int.toNat (List.getD v17 (Int.toNat v19) (0 : Int))) (0 : Int) ≠ 0) = true then Option.bind (Zh9 k o1 (wrap64 (v6 - 1))) fun z0 => Z3f k z0 v1 v6 v7 v10 v11 v12 v17 v18 (wrap64 (v19 + 1)) else Z3f k o1 v1 v6 v7 v10 v11 v12 v17 v18 (wrap64 (v19 + 1)) else none else none else none else none else some (o1, v1, v10, v11, v12)
noncomputable def Zcv : Spec := Spec.mk [.ro, O3] [(1, .at (.snap 0 I6)), (5, .at (.sl 1)), (6, .at (.int .i64)), (7, .at (.snap 0 I6)), (10, .at (.snap 0 (.slice 3 I6))), (11, .at (.int .i64)), (12, .at (.int .i64)), (17, .at (.snap 0 I6)), (18, .at (.int .i64)), (19, .at (.int .i64))]
noncomputable def Zry : Spec := Spec.mk [.ro, O3] [(1, .at (.snap 0 I6)), (5, .at (.sl 1)), (10, .at (.snap 0 (.slice 3 I6))), (11, .at (.int .i64)), (12, .at (.int .i64))]
noncomputable def Z3U : LoopDef (Tup Z4f × OutD) := .plain Zcv Zry (List Int × List Int × List (List Int) × Int × Int) (fun k x => Z3f k x.1.2.1 x.2.1 x.2.2.2.1 x.2.2.2.2.1 x.2.2.2.2.2.1 x.2.2.2.2.2.2.1 x.2.2.2.2.2.2.2.1 x.2.2.2.2.2.2.2.2.1 x.2.2.2.2.2.2.2.2.2.1 x.2.2.2.2.2.2.2.2.2.2.1) (fun z => (((), z.1, ()), (z.2.1, (), z.2.2.1, z.2.2.2.1, z.2.2.2.2, ()))) (fun y => (y.1.2.1, y.2.1, y.2.2.2.1, y.2.2.2.2.1, y.2.2.2.2.2.1)) (fun _ => rfl)
noncomputable def Z4v : Nat → List Int → List Int → List (List Int) → Int → Int → Option (List Int)
 | 0, _, _, _, _, _ => none
 | k + 1, o1, v1, v10, v11, v12 =>
  if decide (v12 < v11) = true then if (0 : Int) ≤ v12 then if v12 < (↑(List.length v10) : Int) then Option.bind (Z3f k o1 v1 v12 (List.getD v10 (Int.toNat v12) []) v10 v11 v12 v1 (↑(List.length v1) : Int) (0 : Int)) fun z1 => Z4v k z1.1 z1.2.1 z1.2.2.1 z1.2.2.2.1 (wrap64 (z1.2.2.2.2 + 1)) else none else none else some o1
noncomputable def Zcf : Spec := Spec.mk [.ro, O3] [(1, .at (.snap 0 I6)), (5, .at (.sl 1)), (10, .at (.snap 0 (.slice 3 I6))), (11, .at (.int .i64)), (12, .at (.int .i64))]
noncomputable def Zs7 : Spec := Spec.mk [.ro, O3] [(5, .at (.sl 1))]
noncomputable def Z42 : LoopDef (Tup Z4f × OutD) := .plain Zcf Zs7 (List Int) (fun k x => Z4v k x.1.2.1 x.2.1 x.2.2.2.1 x.2.2.2.2.1 x.2.2.2.2.2.1) (fun z => (((), z, ()), ((), ()))) (fun y => (y.1.2.1)) (fun _ => rfl)
noncomputable def Z63 : Nat → List (List Int) → List Int → Option (List Int)
 | 0, _, _ => none
 | k + 1, p0, p1 =>
  Option.bind (Z4v k [] p1 p0 (↑(List.length p0) : Int) (0 : Int)) fun z2 => some z2
noncomputable def Z2k : FnDef := .of Zkd Z4f (List Int) (fun k x => Z63 k x.1 x.2.1) ZiS ZiL Zqc
noncomputable def Z8F : Code := Try.f49.body.getD .skip
noncomputable def Z1I : Ctx (Tup Z4f × OutD) := { T := T, G := [(68, Z7E.E)], mvs := [], no := 0, n := 35, res := resOf T Zkd Z4f Try.f49.results.toList, loops := [(2, Z3U.E), (0, Z42.E)], regs := [], conds := [], cuts := [] }
theorem ZeT (k : Nat) : EnvOK Try.prog k Z1I.G := (EnvOK.cons (ZG0 k) (EnvOK.nil mixed))
noncomputable def Z8R : Code := (findLoop 2 Z8F).getD .skip
theorem ZrQ (k : Nat) (x : Zcv.D) : Z3U.lp (k + 1) x = loopK Z1I Z3U 2 Z8R k x := by kernel_rfl
theorem Zsw (k : Nat) : LOK Try.prog Z1I k Z8R := LOK.by [] (by kernel_rfl) AllOK.nil
theorem Zsx (x : Zcv.D) : Z3U.lp 0 x = none := by kernel_rfl
theorem Zrc (k : Nat) : EOK Try.prog Z1I k Z3U.E (.block 2 (.loop Z8R)) := Z4 T_ok ZeT Zsx ZrQ Zsw k
noncomputable def Z8T : Code := (findLoop 0 Z8F).getD .skip
theorem Zsv (k : Nat) (x : Zcf.D) : Z42.lp (k + 1) x = loopK Z1I Z42 0 Z8T k x := by kernel_rfl
theorem ZrK (k : Nat) : LOK Try.prog Z1I k Z8T := LOK.by [(Z3U.E, .block 2 (.loop Z8R))] (by kernel_rfl) (AllOK.cons (Zrc k) AllOK.nil)
theorem Zrv (x : Zcf.D) : Z42.lp 0 x = none := by kernel_rfl
theorem ZqN (k : Nat) : EOK Try.prog Z1I k Z42.E (.block 0 (.loop Z8T)) := Z4 T_ok ZeT Zrv Zsv ZrK k
theorem Zxl (k : Nat) (x : Tup Z2k.ps) : Z2k.f (k + 1) x = fnK Z2k Z1I Z8F k x := by kernel_rfl
theorem ZyQ (x : Tup Z2k.ps) : Z2k.f 0 x = none := by kernel_rfl
theorem ZxM (k : Nat) : LOK Try.prog Z1I k Z8F := LOK.by [(Z42.E, .block 0 (.loop Z8T))] (by kernel_rfl) (AllOK.cons (ZqN k) AllOK.nil)
theorem ZjM (k : Nat) : SoundAt Try.prog k 49 Z2k.E := @Z5 Try.prog Z2k Z1I 49 Try.f49 Z8F (by kernel_rfl) (by kernel_rfl) (by kernel_rfl) Try.func49 (by kernel_rfl) (by kernel_rfl) (by kernel_rfl) T_ok ZeT ZxM ZyQ Zxl k
noncomputable def Z6Z : List PK := [PK.mk I6 false none false none]
noncomputable def Zm8 : List PK := [PK.mk (.slice 28 (.slice 3 I6)) false none false none, PK.mk I6 false none false none]
noncomputable def Zk0 (r : Int) : Tup Z6Z × OutD := ((r, ()), none)
noncomputable def Zk3 : Tup Z6Z × OutD → Option (Int)
 | (a, none) => some (a.1)
 | _ => none
theorem Zs6 : ∀ b r, Zk3 b = some r → Zk0 r = b := by
 rintro ⟨a, _ | _⟩ r h <;> cases h; rfl
noncomputable def Z5k : Nat → List (List Int) → Int → Int → Int → Option Int
 | 0, _, _, _, _ => none
 | k + 1, o1, v5, v13, v14 =>
  if decide (v14 < v13) = true then if (0 : Int) ≤ v14 then if v14 < (↑(List.length o1) : Int) then Option.bind (Z4R k v5 (↑(List.length (List.getD o1 (Int.toNat v14) [])) : Int)) fun z2 => Z5k k o1 z2 v13 (wrap64 (v14 + 1)) else none else none else some v5
noncomputable def Zdg : Spec := Spec.mk [.ro, O5] [(5, .at (.int .i64)), (12, .at (.sl 1)), (13, .at (.int .i64)), (14, .at (.int .i64))]
noncomputable def Zu7 : Spec := Spec.mk [.ro] [(5, .at (.int .i64))]
noncomputable def Z4u : LoopDef (Tup Z6Z × OutD) := .plain Zdg Zu7 (Int) (fun k x => Z5k k x.1.2.1 x.2.1 x.2.2.2.1 x.2.2.2.2.1) (fun z => (((), ()), (z, ()))) (fun y => (y.2.1)) (fun _ => rfl)
noncomputable def Zcc : Nat → List (List Int) → Int → Option Int
 | 0, _, _ => none
 | k + 1, p0, p1 =>
  Option.bind (Z4X k p0 [p1]) fun z0 => Option.bind (ZbF k z0) fun z1 => Option.bind (Z5k k z1 (0 : Int) (↑(List.length z1) : Int) (0 : Int)) fun z3 => some z3
noncomputable def Z3F : FnDef := .of Zm8 Z6Z (Int) (fun k x => Zcc k x.1 x.2.1) Zk0 Zk3 Zs6
noncomputable def Zc7 : Code := Try.f54.body.getD .skip
noncomputable def Z4S : Ctx (Tup Z6Z × OutD) := { T := T, G := [(35, Z1W.E), (55, Z3Z.E), (70, Z4O.E)], mvs := [], no := 0, n := 24, res := resOf T Zm8 Z6Z Try.f54.results.toList, loops := [(0, Z4u.E)], regs := [], conds := [], cuts := [] }
theorem ZlT (k : Nat) : EnvOK Try.prog k Z4S.G := (EnvOK.cons (ZfY k) (EnvOK.cons (Zqf k) (EnvOK.cons (Ztm k) (EnvOK.nil mixed))))
noncomputable def Z9I : Code := (findLoop 0 Zc7).getD .skip
theorem ZuA (k : Nat) (x : Zdg.D) : Z4u.lp (k + 1) x = loopK Z4S Z4u 0 Z9I k x := by kernel_rfl
theorem ZuI (k : Nat) : LOK Try.prog Z4S k Z9I := LOK.by [] (by kernel_rfl) AllOK.nil
theorem Zun (x : Zdg.D) : Z4u.lp 0 x = none := by kernel_rfl
theorem Zru (k : Nat) : EOK Try.prog Z4S k Z4u.E (.block 0 (.loop Z9I)) := Z4 T_ok ZlT Zun ZuA ZuI k
theorem ZzT (k : Nat) (x : Tup Z3F.ps) : Z3F.f (k + 1) x = fnK Z3F Z4S Zc7 k x := by kernel_rfl
theorem Zzw (x : Tup Z3F.ps) : Z3F.f 0 x = none := by kernel_rfl
theorem ZAQ (k : Nat) : LOK Try.prog Z4S k Zc7 := LOK.by [(Z4u.E, .block 0 (.loop Z9I))] (by kernel_rfl) (AllOK.cons (Zru k) AllOK.nil)
theorem ZAJ (k : Nat) : SoundAt Try.prog k 54 Z3F.E := @Z5 Try.prog Z3F Z4S 54 Try.f54 Zc7 (by kernel_rfl) (by kernel_rfl) (by kernel_rfl) Try.func54 (by kernel_rfl) (by kernel_rfl) (by kernel_rfl) T_ok ZlT ZAQ Zzw ZzT k
noncomputable def Z9a : List PK := [PK.mk .bool false none false none]
noncomputable def Zrj : List PK := [PK.mk (.slice 71 (.slice 94 T6)) false none false none, PK.mk (.slice 71 (.slice 94 T6)) false none false none, PK.mk (.slice 3 I6) false none false none]
noncomputable def ZhD (r : Bool) : Tup Z9a × OutD := ((r, ()), none)
noncomputable def Zh5 : Tup Z9a × OutD → Option (Bool)
 | (a, none) => some (a.1)
 | _ => none
theorem ZiV : ∀ b r, Zh5 b = some r → ZhD r = b := by
 rintro ⟨a, _ | _⟩ r h <;> cases h; rfl
noncomputable def Z6V : Nat → List (List (Int × Int × Int)) → List (List (Int × Int × Int)) → List Int → Int → Int → Option (LR Unit Bool)
 | 0, _, _, _, _, _ => none
 | k + 1, v0, v1, v9, v10, v11 =>
  if decide (v11 < v10) = true then if (0 : Int) ≤ v11 then if v11 < (↑(List.length v9) : Int) then if (0 : Int) ≤ List.getD v9 (Int.toNat v11) (0 : Int) then if List.getD v9 (Int.toNat v11) (0 : Int) < (↑(List.length v0) : Int) then if (0 : Int) ≤ List.getD v9 (Int.toNat v11) (0 : Int) then if List.getD v9 (Int.toNat v11) (0 : Int) < (↑(List.length v1) : Int) then Option.bind (Z2i k (List.getD v0 (Int.toNat (List.getD v9 (Int.toNat v11) (0 : Int))) []) (List.getD v1 (Int.toNat (List.getD v9 (Int.toNat v11) (0 : Int))) [])) fun z0 => if (!z0) = true then some (LR.ret false) else Z6V k v0 v1 v9 v10 (wrap64 (v11 + 1)) else none else none else none else none else none else none else some (LR.go ())
noncomputable def Zey : Spec := Spec.mk [.ro] [(0, .at (.snap 0 (.slice 94 T6))), (1, .at (.snap 0 (.slice 94 T6))), (9, .at (.snap 0 I6)), (10, .at (.int .i64)), (11, .at (.int .i64))]
noncomputable def ZxG : Spec := Spec.mk [.ro] []
noncomputable def Z64 : LoopDef (Tup Z9a × OutD) := .rets Zey ZxG (Unit) (Bool) (fun k x => Z6V k x.2.1 x.2.2.1 x.2.2.2.1 x.2.2.2.2.1 x.2.2.2.2.2.1) (fun z => (((), ()), (()))) (fun y => ()) (fun _ => rfl) ZhD Zh5 ZiV
noncomputable def ZbD : Nat → List (List (Int × Int × Int)) → List (List (Int × Int × Int)) → List Int → Option Bool
 | 0, _, _, _ => none
 | k + 1, p0, p1, p2 =>
  Option.bind (Z6V k p0 p1 p2 (↑(List.length p2) : Int) (0 : Int)) fun z1 => LR.on z1 (fun y1 => some true) fun r1 => some r1
noncomputable def Z46 : FnDef := .of Zrj Z9a (Bool) (fun k x => ZbD k x.1 x.2.1 x.2.2.1) ZhD Zh5 ZiV
noncomputable def Zeo : Code := Try.f65.body.getD .skip
noncomputable def Z7g : Ctx (Tup Z9a × OutD) := { T := T, G := [(78, Zh.E)], mvs := [], no := 0, n := 26, res := resOf T Zrj Z9a Try.f65.results.toList, loops := [(0, Z64.E)], regs := [], conds := [], cuts := [] }
theorem ZpM (k : Nat) : EnvOK Try.prog k Z7g.G := (EnvOK.cons (ZeM k) (EnvOK.nil mixed))
noncomputable def Zbe : Code := (findLoop 0 Zeo).getD .skip
theorem ZyA (k : Nat) (x : Zey.D) : Z64.lp (k + 1) x = loopK Z7g Z64 0 Zbe k x := by kernel_rfl
theorem ZxY (k : Nat) : LOK Try.prog Z7g k Zbe := LOK.by [] (by kernel_rfl) AllOK.nil
theorem Zyo (x : Zey.D) : Z64.lp 0 x = none := by kernel_rfl
theorem Zvw (k : Nat) : EOK Try.prog Z7g k Z64.E (.block 0 (.loop Zbe)) := Z4 T_ok ZpM Zyo ZyA ZxY k
theorem ZCA (k : Nat) (x : Tup Z46.ps) : Z46.f (k + 1) x = fnK Z46 Z7g Zeo k x := by kernel_rfl
theorem ZDm (x : Tup Z46.ps) : Z46.f 0 x = none := by kernel_rfl
theorem ZCS (k : Nat) : LOK Try.prog Z7g k Zeo := LOK.by [(Z64.E, .block 0 (.loop Zbe))] (by kernel_rfl) (AllOK.cons (Zvw k) AllOK.nil)
theorem Zq1 (k : Nat) : SoundAt Try.prog k 65 Z46.E := @Z5 Try.prog Z46 Z7g 65 Try.f65 Zeo (by kernel_rfl) (by kernel_rfl) (by kernel_rfl) Try.func65 (by kernel_rfl) (by kernel_rfl) (by kernel_rfl) T_ok ZpM ZCS ZDm ZCA k
noncomputable def ZbV : List PK := [PK.mk .bool false none false none]
noncomputable def Zvu : List PK := [PK.mk (.slice 3 I6) false none false none, PK.mk I6 false none false none, PK.mk I6 false none false none]
noncomputable def Zj6 (r : Bool) : Tup ZbV × OutD := ((r, ()), none)
noncomputable def Zjn : Tup ZbV × OutD → Option (Bool)
 | (a, none) => some (a.1)
 | _ => none
theorem Zmb : ∀ b r, Zjn b = some r → Zj6 r = b := by
 rintro ⟨a, _ | _⟩ r h <;> cases h; rfl
noncomputable def Z9c : Nat → Int → Int → List Int → Int → Int → Option (LR Unit Bool)
 | 0, _, _, _, _, _ => none
 | k + 1, v1, v2, v9, v10, v11 =>
  if decide (v11 < v10) = true then if (0 : Int) ≤ v11 then if v11 < (↑(List.length v9) : Int) then Option.bind (Z92 k (List.getD v9 (Int.toNat v11) (0 : Int)) v1 v2) fun z0 => if (!z0) = true then some (LR.ret false) else Z9c k v1 v2 v9 v10 (wrap64 (v11 + 1)) else none else none else some (LR.go ())
noncomputable def ZgF : Spec := Spec.mk [.ro] [(1, .at (.int .i64)), (2, .at (.int .i64)), (9, .at (.snap 0 I6)), (10, .at (.int .i64)), (11, .at (.int .i64))]
noncomputable def ZCx : Spec := Spec.mk [.ro] []
noncomputable def Z7Y : LoopDef (Tup ZbV × OutD) := .rets ZgF ZCx (Unit) (Bool) (fun k x => Z9c k x.2.1 x.2.2.1 x.2.2.2.1 x.2.2.2.2.1 x.2.2.2.2.2.1) (fun z => (((), ()), (()))) (fun y => ()) (fun _ => rfl) Zj6 Zjn Zmb
noncomputable def ZgO : Nat → List Int → Int → Int → Option Bool
 | 0, _, _, _ => none
 | k + 1, p0, p1, p2 =>
  Option.bind (Z9c k p1 p2 p0 (↑(List.length p0) : Int) (0 : Int)) fun z1 => LR.on z1 (fun y1 => some true) fun r1 => some r1
noncomputable def Z7P : FnDef := .of Zvu ZbV (Bool) (fun k x => ZgO k x.1 x.2.1 x.2.2.1) Zj6 Zjn Zmb
noncomputable def Zh4 : Code := Try.f72.body.getD .skip
noncomputable def Z9u : Ctx (Tup ZbV × OutD) := { T := T, G := [(85, Z4E.E)], mvs := [], no := 0, n := 21, res := resOf T Zvu ZbV Try.f72.results.toList, loops := [(0, Z7Y.E)], regs := [], conds := [], cuts := [] }
theorem Zwl (k : Nat) : EnvOK Try.prog k Z9u.G := (EnvOK.cons (Zin k) (EnvOK.nil mixed))
noncomputable def Zdy : Code := (findLoop 0 Zh4).getD .skip
theorem ZAU (k : Nat) (x : ZgF.D) : Z7Y.lp (k + 1) x = loopK Z9u Z7Y 0 Zdy k x := by kernel_rfl
theorem ZCn (k : Nat) : LOK Try.prog Z9u k Zdy := LOK.by [] (by kernel_rfl) AllOK.nil
theorem ZBZ (x : ZgF.D) : Z7Y.lp 0 x = none := by kernel_rfl
theorem ZAq (k : Nat) : EOK Try.prog Z9u k Z7Y.E (.block 0 (.loop Zdy)) := Z4 T_ok Zwl ZBZ ZAU ZCn k
theorem ZFV (k : Nat) (x : Tup Z7P.ps) : Z7P.f (k + 1) x = fnK Z7P Z9u Zh4 k x := by kernel_rfl
theorem ZFO (x : Tup Z7P.ps) : Z7P.f 0 x = none := by kernel_rfl
theorem ZFF (k : Nat) : LOK Try.prog Z9u k Zh4 := LOK.by [(Z7Y.E, .block 0 (.loop Zdy))] (by kernel_rfl) (AllOK.cons (ZAq k) AllOK.nil)
theorem ZFx (k : Nat) : SoundAt Try.prog k 72 Z7P.E := @Z5 Try.prog Z7P Z9u 72 Try.f72 Zh4 (by kernel_rfl) (by kernel_rfl) (by kernel_rfl) Try.func72 (by kernel_rfl) (by kernel_rfl) (by kernel_rfl) T_ok Zwl ZFF ZFO ZFV k
noncomputable def Z5X : List PK := [PK.mk .bool false none false none]
noncomputable def Zk9 : List PK := [PK.mk (.slice 73 P6) false none false none]
noncomputable def ZdY (r : Bool) : Tup Z5X × OutD := ((r, ()), none)
noncomputable def ZdE : Tup Z5X × OutD → Option (Bool)
 | (a, none) => some (a.1)
 | _ => none
theorem Zgm : ∀ b r, ZdE b = some r → ZdY r = b := by
 rintro ⟨a, _ | _⟩ r h <;> cases h; rfl
noncomputable def Z4B : Nat → List (Int × Int) → Int → Int → Option (LR Unit Bool)
 | 0, _, _, _ => none
 | k + 1, v8, v9, v10 =>
  if decide (v10 < v9) = true then if (0 : Int) ≤ v10 then if v10 < (↑(List.length v8) : Int) then Option.bind (Zag k (Prod.fst (List.getD v8 (Int.toNat v10) ((0 : Int), (0 : Int))), Prod.snd (List.getD v8 (Int.toNat v10) ((0 : Int), (0 : Int))))) fun z0 => if (!z0) = true then some (LR.ret false) else Z4B k v8 v9 (wrap64 (v10 + 1)) else none else none else some (LR.go ())
noncomputable def Zcw : Spec := Spec.mk [.ro] [(8, .at (.snap 0 P6)), (9, .at (.int .i64)), (10, .at (.int .i64))]
noncomputable def ZrI : Spec := Spec.mk [.ro] []
noncomputable def Z45 : LoopDef (Tup Z5X × OutD) := .rets Zcw ZrI (Unit) (Bool) (fun k x => Z4B k x.2.1 x.2.2.1 x.2.2.2.1) (fun z => (((), ()), (()))) (fun y => ()) (fun _ => rfl) ZdY ZdE Zgm
noncomputable def Zbg : Nat → List (Int × Int) → Option Bool
 | 0, _ => none
 | k + 1, p0 =>
  if decide ((↑(List.length p0) : Int) > 90) = true then some false else Option.bind (Z4B k p0 (↑(List.length p0) : Int) (0 : Int)) fun z1 => LR.on z1 (fun y1 => some true) fun r1 => some r1
noncomputable def Z3d : FnDef := .of Zk9 Z5X (Bool) (fun k x => Zbg k x.1) ZdY ZdE Zgm
noncomputable def Zbf : Code := Try.f75.body.getD .skip
noncomputable def Z4c : Ctx (Tup Z5X × OutD) := { T := T, G := [(89, Z3Q.E)], mvs := [], no := 0, n := 18, res := resOf T Zk9 Z5X Try.f75.results.toList, loops := [(0, Z45.E)], regs := [], conds := [], cuts := [] }
theorem ZjU (k : Nat) : EnvOK Try.prog k Z4c.G := (EnvOK.cons (Zj7 k) (EnvOK.nil mixed))
noncomputable def Z8W : Code := (findLoop 0 Zbf).getD .skip
theorem Zs1 (k : Nat) (x : Zcw.D) : Z45.lp (k + 1) x = loopK Z4c Z45 0 Z8W k x := by kernel_rfl
theorem ZsI (k : Nat) : LOK Try.prog Z4c k Z8W := LOK.by [] (by kernel_rfl) AllOK.nil
theorem ZsJ (x : Zcw.D) : Z45.lp 0 x = none := by kernel_rfl
theorem Zqt (k : Nat) : EOK Try.prog Z4c k Z45.E (.block 0 (.loop Z8W)) := Z4 T_ok ZjU ZsJ Zs1 ZsI k
theorem ZyM (k : Nat) (x : Tup Z3d.ps) : Z3d.f (k + 1) x = fnK Z3d Z4c Zbf k x := by kernel_rfl
theorem ZxH (x : Tup Z3d.ps) : Z3d.f 0 x = none := by kernel_rfl
theorem Zyb (k : Nat) : LOK Try.prog Z4c k Zbf := LOK.by [(Z45.E, .block 0 (.loop Z8W))] (by kernel_rfl) (AllOK.cons (Zqt k) AllOK.nil)
theorem Zy6 (k : Nat) : SoundAt Try.prog k 75 Z3d.E := @Z5 Try.prog Z3d Z4c 75 Try.f75 Zbf (by kernel_rfl) (by kernel_rfl) (by kernel_rfl) Try.func75 (by kernel_rfl) (by kernel_rfl) (by kernel_rfl) T_ok ZjU Zyb ZxH ZyM k
noncomputable def Z8B : List PK := [PK.mk I6 false none false none]
noncomputable def ZjN : List PK := [PK.mk (.pair (.slice 5 (.int .u8)) (.pair I6 (.int .u64))) false none false (some 89), PK.mk I6 false none false none]
noncomputable def ZiG (r : Int × Int × Int) : Tup Z8B × OutD := ((r.1, ()), some ⟨Ty.pair (Ty.slice (5 : Nat) (Ty.int .u8)) (Ty.pair (Ty.int .i64) (Ty.int .u64)), [([], r.2)]⟩)
noncomputable def ZdP : Tup Z8B × OutD → Option (Int × Int × Int)
 | (a, some ⟨u, ys⟩) => if h : u = Ty.pair (Ty.slice (5 : Nat) (Ty.int .u8)) (Ty.pair (Ty.int .i64) (Ty.int .u64)) then (match castU h ys with
  | [([], y)] => some (a.1, y)
  | _ => none) else none
 | _ => none
theorem ZpF : ∀ b r, ZdP b = some r → ZiG r = b := by
 rintro ⟨a, o⟩ r h
 cases o with
 | none => cases h
 | some s =>
  obtain ⟨u, ys⟩ := s
  simp only [ZdP] at h
  split at h
  ·rename_i hu
   subst hu
   match ys, h with
   | [], h => cases (show (none : Option _) = some r from h)
   | [([], y)], h => injection (show some _ = some r from h) with h; subst h; rfl
   | [(_ :: _, y)], h => cases (show (none : Option _) = some r from h)
   | (h1, _) :: _ :: _, h => cases h1 <;> cases (show (none : Option _) = some r from h)
  ·cases h
noncomputable def Z1 : Nat → List Int × Int × Int → Int → Option (Int × Int × Int)
 | 0, _, _ => none
 | k + 1, p0, p1 =>
  if decide (p1 ≤ 1) = true then some ((0 : Int), p0.2.1, p0.2.2) else Option.bind (Z5Z k (p0.1, p0.2.1, p0.2.2)) fun z0 => if decide (p1 > 200) = true then Option.bind (Z5Z k (p0.1, z0.2.1, z0.2.2)) fun z1 => if p1 = 0 then none else some (Int.tmod (wrap64 (wrap64 (z0.1 * (256 : Int)) + z1.1)) p1, z1.2.1, z1.2.2) else if p1 = 0 then none else some (Int.tmod z0.1 p1, z0.2.1, z0.2.2)
noncomputable def Zk : FnDef := .of ZjN Z8B (Int × Int × Int) (fun k x => Z1 k x.1 x.2.1) ZiG ZdP ZpF
noncomputable def ZeC : Code := Try.f80.body.getD .skip
noncomputable def Zbm : Ctx (Tup Z8B × OutD) := { T := T, G := [(97, Z3b.E)], mvs := [], no := 2, n := 20, res := resOf T ZjN Z8B Try.f80.results.toList, loops := [], regs := [], conds := [], cuts := [] }
theorem ZyD (k : Nat) : EnvOK Try.prog k Zbm.G := (EnvOK.cons (Zxu k) (EnvOK.nil mixed))
theorem Zy3 (k : Nat) (x : Tup Zk.ps) : Zk.f (k + 1) x = fnK Zk Zbm ZeC k x := by kernel_rfl
theorem Zxj (x : Tup Zk.ps) : Zk.f 0 x = none := by kernel_rfl
theorem Zxx (k : Nat) : LOK Try.prog Zbm k ZeC := LOK.by [] (by kernel_rfl) AllOK.nil
theorem Z2n (k : Nat) : SoundAt Try.prog k 80 Zk.E := @Z5 Try.prog Zk Zbm 80 Try.f80 ZeC (by kernel_rfl) (by kernel_rfl) (by kernel_rfl) Try.func80 (by kernel_rfl) (by kernel_rfl) (by kernel_rfl) T_ok ZyD Zxx Zxj Zy3 k
noncomputable def ZcZ : List PK := [PK.mk .bool false none false none]
noncomputable def Ztt : List PK := [PK.mk P6 true none false none]
noncomputable def ZpI (r : Bool) : Tup ZcZ × OutD := ((r, ()), none)
noncomputable def Zrl : Tup ZcZ × OutD → Option (Bool)
 | (a, none) => some (a.1)
 | _ => none
theorem ZxI : ∀ b r, Zrl b = some r → ZpI r = b := by
 rintro ⟨a, _ | _⟩ r h <;> cases h; rfl
noncomputable def Zfq : Nat → Int × Int → Option Bool
 | 0, _ => none
 | k + 1, p0 =>
  Option.bind (Z92 k p0.1 (0 : Int) (7 : Int)) fun z0 => if z0 = true then if decide (p0.2 = 0) = true then some true else if decide (p0.2 = 1) = true then Option.bind (Z3K k (p0.1, p0.2)) fun z1 => some z1 else some false else some false
noncomputable def Z6p : FnDef := .of Ztt ZcZ (Bool) (fun k x => Zfq k x.1) ZpI Zrl ZxI
noncomputable def Zjh : Code := Try.f86.body.getD .skip
noncomputable def Zfw : Ctx (Tup ZcZ × OutD) := { T := T, G := [(85, Z4E.E), (96, Z1t.E)], mvs := [], no := 0, n := 20, res := resOf T Ztt ZcZ Try.f86.results.toList, loops := [], regs := [], conds := [], cuts := [] }
theorem ZEA (k : Nat) : EnvOK Try.prog k Zfw.G := (EnvOK.cons (Zin k) (EnvOK.cons (ZbY k) (EnvOK.nil mixed)))
theorem ZED (k : Nat) (x : Tup Z6p.ps) : Z6p.f (k + 1) x = fnK Z6p Zfw Zjh k x := by kernel_rfl
theorem ZE9 (x : Tup Z6p.ps) : Z6p.f 0 x = none := by kernel_rfl
theorem ZFa (k : Nat) : LOK Try.prog Zfw k Zjh := LOK.by [] (by kernel_rfl) AllOK.nil
theorem ZEq (k : Nat) : SoundAt Try.prog k 86 Z6p.E := @Z5 Try.prog Z6p Zfw 86 Try.f86 Zjh (by kernel_rfl) (by kernel_rfl) (by kernel_rfl) Try.func86 (by kernel_rfl) (by kernel_rfl) (by kernel_rfl) T_ok ZEA ZFa ZE9 ZED k
noncomputable def ZcM : List PK := [PK.mk .bool false none false none]
noncomputable def Ztc : List PK := [PK.mk P6 true none false none, PK.mk I6 false none false none]
noncomputable def ZqJ (r : Bool) : Tup ZcM × OutD := ((r, ()), none)
noncomputable def ZpY : Tup ZcM × OutD → Option (Bool)
 | (a, none) => some (a.1)
 | _ => none
theorem ZxN : ∀ b r, ZpY b = some r → ZqJ r = b := by
 rintro ⟨a, _ | _⟩ r h <;> cases h; rfl
noncomputable def ZfI : Nat → Int × Int → Int → Option Bool
 | 0, _, _ => none
 | k + 1, p0, p1 =>
  if decide (p1 = 1) = true then Option.bind (Z3K k (p0.1, p0.2)) fun z0 => some z0 else if decide (p1 = 2) = true then some true else if decide (p1 = 3) = true then Option.bind (Z3K k (p0.1, p0.2)) fun z1 => if z1 = true then some true else if decide (p0.1 = 1) = true then some true else some (decide (p0.1 = 2)) else some false
noncomputable def Z6k : FnDef := .of Ztc ZcM (Bool) (fun k x => ZfI k x.1 x.2.1) ZqJ ZpY ZxN
noncomputable def Zjq : Code := Try.f88.body.getD .skip
noncomputable def ZfA : Ctx (Tup ZcM × OutD) := { T := T, G := [(96, Z1t.E)], mvs := [], no := 0, n := 26, res := resOf T Ztc ZcM Try.f88.results.toList, loops := [], regs := [], conds := [], cuts := [] }
theorem ZEV (k : Nat) : EnvOK Try.prog k ZfA.G := (EnvOK.cons (ZbY k) (EnvOK.nil mixed))
theorem ZEj (k : Nat) (x : Tup Z6k.ps) : Z6k.f (k + 1) x = fnK Z6k ZfA Zjq k x := by kernel_rfl
theorem ZDS (x : Tup Z6k.ps) : Z6k.f 0 x = none := by kernel_rfl
theorem ZEr (k : Nat) : LOK Try.prog ZfA k Zjq := LOK.by [] (by kernel_rfl) AllOK.nil
theorem ZEi (k : Nat) : SoundAt Try.prog k 88 Z6k.E := @Z5 Try.prog Z6k ZfA 88 Try.f88 Zjq (by kernel_rfl) (by kernel_rfl) (by kernel_rfl) Try.func88 (by kernel_rfl) (by kernel_rfl) (by kernel_rfl) T_ok ZEV ZEr ZDS ZEj k
noncomputable def Z1w : List PK := [PK.mk (.slice 3 I6) false none false none]
noncomputable def ZhH : List PK := [PK.mk (.pair I6 (.pair I6 (.slice 73 P6))) true none false none]
noncomputable def Zh2 (r : List Int) : Tup Z1w × OutD := ((r, ()), none)
noncomputable def ZgT : Tup Z1w × OutD → Option (List Int)
 | (a, none) => some (a.1)
 | _ => none
theorem Znk : ∀ b r, ZgT b = some r → Zh2 r = b := by
 rintro ⟨a, _ | _⟩ r h <;> cases h; rfl
noncomputable def Z3z : Nat → Int → Int → List (Int × Int) → List Int → Int → Int → Option (Int × Int × List (Int × Int) × List Int)
 | 0, _, _, _, _, _, _ => none
 | k + 1, b1_0, b1_1, b1_2, o2, v17, v18 =>
  if decide (v18 < v17) = true then if (0 : Int) ≤ v18 then if v18 < (↑(List.length o2) : Int) then Z3z k b1_0 b1_1 b1_2 (List.set o2 (Int.toNat v18) (-1 : Int)) v17 (wrap64 (v18 + 1)) else none else none else some (b1_0, b1_1, b1_2, o2)
noncomputable def Zb7 : Spec := Spec.mk [.ro, O1, O3] [(1, .at (.ptr 1 0)), (3, .at (.sl 2)), (17, .at (.int .i64)), (18, .at (.int .i64))]
noncomputable def ZoB : Spec := Spec.mk [.ro, O1, O3] [(1, .at (.ptr 1 0)), (3, .at (.sl 2))]
noncomputable def Z2R : LoopDef (Tup Z1w × OutD) := .plain Zb7 ZoB (Int × Int × List (Int × Int) × List Int) (fun k x => Z3z k x.1.2.1.1 x.1.2.1.2.1 x.1.2.1.2.2.1 x.1.2.2.1 x.2.2.2.1 x.2.2.2.2.1) (fun z => (((), (z.1, z.2.1, z.2.2.1, ()), z.2.2.2, ()), ((), (), ()))) (fun y => (y.1.2.1.1, y.1.2.1.2.1, y.1.2.1.2.2.1, y.1.2.2.1)) (fun _ => rfl)
noncomputable def Z1B : Nat → Int → Int → List (Int × Int) → List Int → List Int → List Int → Int → List (Int × Int) → Int → Int → Int → Int → Option (Int × Int × List (Int × Int) × List Int × List Int × Int × List (Int × Int) × Int × Int)
 | 0, _, _, _, _, _, _, _, _, _, _, _, _ => none
 | k + 1, b1_0, b1_1, b1_2, o2, o3, o4, v5, v26, v27, v28, v60, v61 =>
  if decide (v61 < v60) = true then if (0 : Int) ≤ v61 then if v61 < (↑(List.length o4) : Int) then if (0 : Int) ≤ List.getD o4 (Int.toNat v61) (0 : Int) then if List.getD o4 (Int.toNat v61) (0 : Int) < (↑(List.length b1_2) : Int) then Option.bind (ZaR k (Prod.fst (List.getD b1_2 (Int.toNat (List.getD o4 (Int.toNat v61) (0 : Int))) ((0 : Int), (0 : Int))), Prod.snd (List.getD b1_2 (Int.toNat (List.getD o4 (Int.toNat v61) (0 : Int))) ((0 : Int), (0 : Int))))) fun z3 => if z3 = true then if (0 : Int) ≤ List.getD o4 (Int.toNat v61) (0 : Int) then if List.getD o4 (Int.toNat v61) (0 : Int) < (↑(List.length o2) : Int) then if decide (List.getD o2 (Int.toNat (List.getD o4 (Int.toNat v61) (0 : Int))) (0 : Int) < 0) = true then if (0 : Int) ≤ List.getD o4 (Int.toNat v61) (0 : Int) then if List.getD o4 (Int.toNat v61) (0 : Int) < (↑(List.length o2) : Int) then if List.length o3 + List.length [List.getD o4 (Int.toNat v61) (0 : Int)] ≤ (140737488355328 / 8 : Nat) then Z1B k b1_0 b1_1 b1_2 (List.set o2 (Int.toNat (List.getD o4 (Int.toNat v61) (0 : Int))) v5) (o3 ++ [List.getD o4 (Int.toNat v61) (0 : Int)]) o4 v5 v26 v27 v28 v60 (wrap64 (v61 + 1)) else none else none else none else Z1B k b1_0 b1_1 b1_2 o2 o3 o4 v5 v26 v27 v28 v60 (wrap64 (v61 + 1)) else none else none else Z1B k b1_0 b1_1 b1_2 o2 o3 o4 v5 v26 v27 v28 v60 (wrap64 (v61 + 1)) else none else none else none else none else some (b1_0, b1_1, b1_2, o2, o3, v5, v26, v27, v28)
noncomputable def Zb9 : Spec := Spec.mk [.ro, O1, O3, O3, O3] [(1, .at (.ptr 1 0)), (3, .at (.sl 2)), (5, .at (.int .i64)), (8, .at (.sl 3)), (26, .at (.snap 0 P6)), (27, .at (.int .i64)), (28, .at (.int .i64)), (59, .at (.sl 4)), (60, .at (.int .i64)), (61, .at (.int .i64))]
noncomputable def ZoM : Spec := Spec.mk [.ro, O1, O3, O3] [(1, .at (.ptr 1 0)), (3, .at (.sl 2)), (5, .at (.int .i64)), (8, .at (.sl 3)), (26, .at (.snap 0 P6)), (27, .at (.int .i64)), (28, .at (.int .i64))]
noncomputable def Z2V : LoopDef (Tup Z1w × OutD) := .plain Zb9 ZoM (Int × Int × List (Int × Int) × List Int × List Int × Int × List (Int × Int) × Int × Int) (fun k x => Z1B k x.1.2.1.1 x.1.2.1.2.1 x.1.2.1.2.2.1 x.1.2.2.1 x.1.2.2.2.1 x.1.2.2.2.2.1 x.2.2.2.1 x.2.2.2.2.2.1 x.2.2.2.2.2.2.1 x.2.2.2.2.2.2.2.1 x.2.2.2.2.2.2.2.2.2.1 x.2.2.2.2.2.2.2.2.2.2.1) (fun z => (((), (z.1, z.2.1, z.2.2.1, ()), z.2.2.2.1, z.2.2.2.2.1, ()), ((), (), z.2.2.2.2.2.1, (), z.2.2.2.2.2.2.1, z.2.2.2.2.2.2.2.1, z.2.2.2.2.2.2.2.2, ()))) (fun y => (y.1.2.1.1, y.1.2.1.2.1, y.1.2.1.2.2.1, y.1.2.2.1, y.1.2.2.2.1, y.2.2.2.1, y.2.2.2.2.2.1, y.2.2.2.2.2.2.1, y.2.2.2.2.2.2.2.1)) (fun _ => rfl)
noncomputable def Z2y : Nat → Int → Int → List (Int × Int) → List Int → List Int → Int → List (Int × Int) → Int → Int → Option (Int × Int × List (Int × Int) × List Int × Int × List (Int × Int) × Int × Int)
 | 0, _, _, _, _, _, _, _, _, _ => none
 | k + 1, b1_0, b1_1, b1_2, o2, o3, v5, v26, v27, v28 =>
  if decide ((↑(List.length o3) : Int) > 0) = true then if (0 : Int) < (↑(List.length o3) : Int) then if (1 : Int) ≤ (↑(List.length o3) : Int) then if (↑(List.length o3) : Int) ≤ (↑(List.length o3) : Int) then Option.bind (Zdi k (b1_0, b1_1, b1_2) (List.getD o3 (Int.toNat (0 : Int)) (0 : Int))) fun z2 => Option.bind (Z1B k b1_0 b1_1 b1_2 o2 (List.drop (Int.toNat (1 : Int)) o3) z2 v5 v26 v27 v28 (↑(List.length z2) : Int) (0 : Int)) fun z4 => Z2y k z4.1 z4.2.1 z4.2.2.1 z4.2.2.2.1 z4.2.2.2.2.1 z4.2.2.2.2.2.1 z4.2.2.2.2.2.2.1 z4.2.2.2.2.2.2.2.1 z4.2.2.2.2.2.2.2.2 else none else none else none else some (b1_0, b1_1, b1_2, o2, v5, v26, v27, v28)
noncomputable def Zb2 : Spec := Spec.mk [.ro, O1, O3, O3] [(1, .at (.ptr 1 0)), (3, .at (.sl 2)), (5, .at (.int .i64)), (8, .at (.sl 3)), (26, .at (.snap 0 P6)), (27, .at (.int .i64)), (28, .at (.int .i64))]
noncomputable def Zp3 : Spec := Spec.mk [.ro, O1, O3] [(1, .at (.ptr 1 0)), (3, .at (.sl 2)), (5, .at (.int .i64)), (26, .at (.snap 0 P6)), (27, .at (.int .i64)), (28, .at (.int .i64))]
noncomputable def Z32 : LoopDef (Tup Z1w × OutD) := .plain Zb2 Zp3 (Int × Int × List (Int × Int) × List Int × Int × List (Int × Int) × Int × Int) (fun k x => Z2y k x.1.2.1.1 x.1.2.1.2.1 x.1.2.1.2.2.1 x.1.2.2.1 x.1.2.2.2.1 x.2.2.2.1 x.2.2.2.2.2.1 x.2.2.2.2.2.2.1 x.2.2.2.2.2.2.2.1) (fun z => (((), (z.1, z.2.1, z.2.2.1, ()), z.2.2.2.1, ()), ((), (), z.2.2.2.2.1, z.2.2.2.2.2.1, z.2.2.2.2.2.2.1, z.2.2.2.2.2.2.2, ()))) (fun y => (y.1.2.1.1, y.1.2.1.2.1, y.1.2.1.2.2.1, y.1.2.2.1, y.2.2.2.1, y.2.2.2.2.1, y.2.2.2.2.2.1, y.2.2.2.2.2.2.1)) (fun _ => rfl)
noncomputable def Z1a : Nat → Int → Int → List (Int × Int) → List Int → Int → List (Int × Int) → Int → Int → Option (List Int)
 | 0, _, _, _, _, _, _, _, _ => none
 | k + 1, b1_0, b1_1, b1_2, o2, v5, v26, v27, v28 =>
  if decide (v28 < v27) = true then if (0 : Int) ≤ v28 then if v28 < (↑(List.length v26) : Int) then Option.bind (ZaR k (Prod.fst (List.getD v26 (Int.toNat v28) ((0 : Int), (0 : Int))), Prod.snd (List.getD v26 (Int.toNat v28) ((0 : Int), (0 : Int))))) fun z1 => if (!z1) = true then Z1a k b1_0 b1_1 b1_2 o2 v5 v26 v27 (wrap64 (v28 + 1)) else if (0 : Int) ≤ v28 then if v28 < (↑(List.length o2) : Int) then if decide (List.getD o2 (Int.toNat v28) (0 : Int) ≥ 0) = true then Z1a k b1_0 b1_1 b1_2 o2 v5 v26 v27 (wrap64 (v28 + 1)) else if (0 : Int) ≤ v28 then if v28 < (↑(List.length o2) : Int) then Option.bind (Z2y k b1_0 b1_1 b1_2 (List.set o2 (Int.toNat v28) v5) [v28] v5 v26 v27 v28) fun z5 => Z1a k z5.1 z5.2.1 z5.2.2.1 z5.2.2.2.1 (wrap64 (z5.2.2.2.2.1 + 1)) z5.2.2.2.2.2.1 z5.2.2.2.2.2.2.1 (wrap64 (z5.2.2.2.2.2.2.2 + 1)) else none else none else none else none else none else none else some o2
noncomputable def Zb0 : Spec := Spec.mk [.ro, O1, O3] [(1, .at (.ptr 1 0)), (3, .at (.sl 2)), (5, .at (.int .i64)), (26, .at (.snap 0 P6)), (27, .at (.int .i64)), (28, .at (.int .i64))]
noncomputable def Zpe : Spec := Spec.mk [.ro, O3] [(3, .at (.sl 1))]
noncomputable def Z2T : LoopDef (Tup Z1w × OutD) := .plain Zb0 Zpe (List Int) (fun k x => Z1a k x.1.2.1.1 x.1.2.1.2.1 x.1.2.1.2.2.1 x.1.2.2.1 x.2.2.2.1 x.2.2.2.2.1 x.2.2.2.2.2.1 x.2.2.2.2.2.2.1) (fun z => (((), z, ()), ((), ()))) (fun y => (y.1.2.1)) (fun _ => rfl)
noncomputable def Z9W : Nat → Int × Int × List (Int × Int) → Option (List Int)
 | 0, _ => none
 | k + 1, p0 =>
  if Int.toNat (↑(List.length p0.2.2) : Int) * (8 : Nat) ≤ (281474976710656 : Nat) then Option.bind (Z3z k p0.1 p0.2.1 p0.2.2 (List.replicate (Int.toNat (↑(List.length p0.2.2) : Int)) (0 : Int)) (↑(List.length (List.replicate (Int.toNat (↑(List.length p0.2.2) : Int)) (0 : Int))) : Int) (0 : Int)) fun z0 => Option.bind (Z1a k z0.1 z0.2.1 z0.2.2.1 z0.2.2.2 (0 : Int) z0.2.2.1 (↑(List.length z0.2.2.1) : Int) (0 : Int)) fun z6 => some z6 else none
noncomputable def Z29 : FnDef := .of ZhH Z1w (List Int) (fun k x => Z9W k x.1) Zh2 ZgT Znk
noncomputable def Z3n : Code := Try.f91.body.getD .skip
noncomputable def Zf : Ctx (Tup Z1w × OutD) := { T := T, G := [(104, Z4j.E), (105, Z4o.E)], mvs := [56], no := 0, n := 91, res := resOf T ZhH Z1w Try.f91.results.toList, loops := [(0, Z2R.E), (6, Z2V.E), (4, Z32.E), (2, Z2T.E)], regs := [], conds := [], cuts := [] }
theorem Z6H (k : Nat) : EnvOK Try.prog k Zf.G := (EnvOK.cons (ZCj k) (EnvOK.cons (ZBt k) (EnvOK.nil mixed)))
noncomputable def Z7u : Code := (findLoop 0 Z3n).getD .skip
theorem Zp4 (k : Nat) (x : Zb7.D) : Z2R.lp (k + 1) x = loopK Zf Z2R 0 Z7u k x := by kernel_rfl
theorem ZoV (k : Nat) : LOK Try.prog Zf k Z7u := LOK.by [] (by kernel_rfl) AllOK.nil
theorem Zpj (x : Zb7.D) : Z2R.lp 0 x = none := by kernel_rfl
theorem Znf (k : Nat) : EOK Try.prog Zf k Z2R.E (.block 0 (.loop Z7u)) := Z4 T_ok Z6H Zpj Zp4 ZoV k
noncomputable def Z7p : Code := (findLoop 6 Z3n).getD .skip
theorem Zpb (k : Nat) (x : Zb9.D) : Z2V.lp (k + 1) x = loopK Zf Z2V 6 Z7p k x := by kernel_rfl
theorem Zpd (k : Nat) : LOK Try.prog Zf k Z7p := LOK.by [] (by kernel_rfl) AllOK.nil
theorem Zpc (x : Zb9.D) : Z2V.lp 0 x = none := by kernel_rfl
theorem ZmZ (k : Nat) : EOK Try.prog Zf k Z2V.E (.block 6 (.loop Z7p)) := Z4 T_ok Z6H Zpc Zpb Zpd k
noncomputable def Z7s : Code := (findLoop 4 Z3n).getD .skip
theorem Zpg (k : Nat) (x : Zb2.D) : Z32.lp (k + 1) x = loopK Zf Z32 4 Z7s k x := by kernel_rfl
theorem ZoE (k : Nat) : LOK Try.prog Zf k Z7s := LOK.by [(Z2V.E, .block 6 (.loop Z7p))] (by kernel_rfl) (AllOK.cons (ZmZ k) AllOK.nil)
theorem ZoH (x : Zb2.D) : Z32.lp 0 x = none := by kernel_rfl
theorem Zn3 (k : Nat) : EOK Try.prog Zf k Z32.E (.block 4 (.loop Z7s)) := Z4 T_ok Z6H ZoH Zpg ZoE k
noncomputable def Z7z : Code := (findLoop 2 Z3n).getD .skip
theorem ZoS (k : Nat) (x : Zb0.D) : Z2T.lp (k + 1) x = loopK Zf Z2T 2 Z7z k x := by kernel_rfl
theorem Zoq (k : Nat) : LOK Try.prog Zf k Z7z := LOK.by [(Z32.E, .block 4 (.loop Z7s))] (by kernel_rfl) (AllOK.cons (Zn3 k) AllOK.nil)
theorem ZoR (x : Zb0.D) : Z2T.lp 0 x = none := by kernel_rfl
theorem Znq (k : Nat) : EOK Try.prog Zf k Z2T.E (.block 2 (.loop Z7z)) := Z4 T_ok Z6H ZoR ZoS Zoq k
theorem ZuG (k : Nat) (x : Tup Z29.ps) : Z29.f (k + 1) x = fnK Z29 Zf Z3n k x := by kernel_rfl
theorem Zv7 (x : Tup Z29.ps) : Z29.f 0 x = none := by kernel_rfl
theorem ZuQ (k : Nat) : LOK Try.prog Zf k Z3n := LOK.by [(Z2R.E, .block 0 (.loop Z7u)), (Z2T.E, .block 2 (.loop Z7z))] (by kernel_rfl) (AllOK.cons (Znf k) (AllOK.cons (Znq k) AllOK.nil))
theorem ZtI (k : Nat) : SoundAt Try.prog k 91 Z29.E := @Z5 Try.prog Z29 Zf 91 Try.f91 Z3n (by kernel_rfl) (by kernel_rfl) (by kernel_rfl) Try.func91 (by kernel_rfl) (by kernel_rfl) (by kernel_rfl) T_ok Z6H ZuQ Zv7 ZuG k
noncomputable def Z9E : List PK := [PK.mk .bool false none false none]
noncomputable def ZkZ : List PK := [PK.mk P6 true none false none]
noncomputable def ZjK (r : Bool) : Tup Z9E × OutD := ((r, ()), none)
noncomputable def Zk7 : Tup Z9E × OutD → Option (Bool)
 | (a, none) => some (a.1)
 | _ => none
theorem Zsl : ∀ b r, Zk7 b = some r → ZjK r = b := by
 rintro ⟨a, _ | _⟩ r h <;> cases h; rfl
noncomputable def Z2Q : Nat → Int × Int → Option Bool
 | 0, _ => none
 | k + 1, p0 =>
  Option.bind (Zag k (p0.1, p0.2)) fun z0 => if z0 = true then if decide (p0.1 = 3) = true then some true else some (decide (p0.1 = 6)) else some false
noncomputable def Z2N : FnDef := .of ZkZ Z9E (Bool) (fun k x => Z2Q k x.1) ZjK Zk7 Zsl
noncomputable def ZfW : Code := Try.f94.body.getD .skip
noncomputable def Zcn : Ctx (Tup Z9E × OutD) := { T := T, G := [(89, Z3Q.E)], mvs := [], no := 0, n := 15, res := resOf T ZkZ Z9E Try.f94.results.toList, loops := [], regs := [], conds := [], cuts := [] }
theorem ZzW (k : Nat) : EnvOK Try.prog k Zcn.G := (EnvOK.cons (Zj7 k) (EnvOK.nil mixed))
theorem ZA0 (k : Nat) (x : Tup Z2N.ps) : Z2N.f (k + 1) x = fnK Z2N Zcn ZfW k x := by kernel_rfl
theorem ZzJ (x : Tup Z2N.ps) : Z2N.f 0 x = none := by kernel_rfl
theorem ZAM (k : Nat) : LOK Try.prog Zcn k ZfW := LOK.by [] (by kernel_rfl) AllOK.nil
theorem ZmC (k : Nat) : SoundAt Try.prog k 94 Z2N.E := @Z5 Try.prog Z2N Zcn 94 Try.f94 ZfW (by kernel_rfl) (by kernel_rfl) (by kernel_rfl) Try.func94 (by kernel_rfl) (by kernel_rfl) (by kernel_rfl) T_ok ZzW ZAM ZzJ ZA0 k
noncomputable def Z94 : List PK := [PK.mk (.pair I6 (.pair I6 (.slice 73 P6))) true none false none]
noncomputable def Zr0 : List PK := [PK.mk I6 false none false none, PK.mk I6 false none false none]
noncomputable def Zoi (r : Int × Int × List (Int × Int)) : Tup Z94 × OutD := ((r, ()), none)
noncomputable def Zo4 : Tup Z94 × OutD → Option (Int × Int × List (Int × Int))
 | (a, none) => some (a.1)
 | _ => none
theorem ZwA : ∀ b r, Zo4 b = some r → Zoi r = b := by
 rintro ⟨a, _ | _⟩ r h <;> cases h; rfl
noncomputable def Z73 : Nat → Int → Int → List (Int × Int) → Int → Int → List (Int × Int) → Int → Int → Int → Option (Int × Int × List (Int × Int) × Int × Int × List (Int × Int))
 | 0, _, _, _, _, _, _, _, _, _ => none
 | k + 1, b1_0, b1_1, o2, b3_0, b3_1, o4, v0, v1, v6 =>
  if decide (v6 < v0) = true then Option.bind (ZgX k v1 v6) fun z0 => if (0 : Int) ≤ wrap64 (wrap64 ((6 : Int) * v6) + 1) then if wrap64 (wrap64 ((6 : Int) * v6) + 1) < (↑(List.length o4) : Int) then if (0 : Int) ≤ wrap64 (wrap64 ((6 : Int) * v6) + 5) then if wrap64 (wrap64 ((6 : Int) * v6) + 5) < (↑(List.length (List.set o4 (Int.toNat (wrap64 (wrap64 ((6 : Int) * v6) + 1))) ((3 : Int), z0))) : Int) then Z73 k b1_0 b1_1 o2 b3_0 b3_1 (List.set (List.set o4 (Int.toNat (wrap64 (wrap64 ((6 : Int) * v6) + 1))) ((3 : Int), z0)) (Int.toNat (wrap64 (wrap64 ((6 : Int) * v6) + 5))) ((1 : Int), (0 : Int))) v0 v1 (wrap64 (v6 + 1)) else none else none else none else none else some (b1_0, b1_1, o2, b3_0, b3_1, o4)
noncomputable def ZeO : Spec := Spec.mk [.ro, O7, O0, O2, O0] [(0, .at (.int .i64)), (1, .at (.int .i64)), (4, .at (.ptr 1 0)), (5, .at (.ptr 3 0)), (6, .at (.int .i64))]
noncomputable def Zxn : Spec := Spec.mk [.ro, O7, O0, O2, O0] [(4, .at (.ptr 1 0)), (5, .at (.ptr 3 0))]
noncomputable def Z61 : LoopDef (Tup Z94 × OutD) := .plain ZeO Zxn (Int × Int × List (Int × Int) × Int × Int × List (Int × Int)) (fun k x => Z73 k x.1.2.1.1 x.1.2.1.2.1 x.1.2.2.1 x.1.2.2.2.1.1 x.1.2.2.2.1.2.1 x.1.2.2.2.2.1 x.2.1 x.2.2.1 x.2.2.2.2.2.1) (fun z => (((), (z.1, z.2.1, (), ()), z.2.2.1, (z.2.2.2.1, z.2.2.2.2.1, (), ()), z.2.2.2.2.2, ()), ((), (), ()))) (fun y => (y.1.2.1.1, y.1.2.1.2.1, y.1.2.2.1, y.1.2.2.2.1.1, y.1.2.2.2.1.2.1, y.1.2.2.2.2.1)) (fun _ => rfl)
noncomputable def Zef : Nat → Int → Int → Option (Int × Int × List (Int × Int))
 | 0, _, _ => none
 | k + 1, p0, p1 =>
  if (0 : Int) ≤ wrap64 ((6 : Int) * p0) then if Int.toNat (wrap64 ((6 : Int) * p0)) * (16 : Nat) ≤ (281474976710656 : Nat) then Option.bind (Z73 k (0 : Int) (0 : Int) [] (wrap64 ((2 : Int) * p0)) (3 : Int) (List.replicate (Int.toNat (wrap64 ((6 : Int) * p0))) ((0 : Int), (0 : Int))) p0 p1 (0 : Int)) fun z1 => some (z1.2.2.2.1, z1.2.2.2.2.1, z1.2.2.2.2.2) else none else none
noncomputable def Z5a : FnDef := .of Zr0 Z94 (Int × Int × List (Int × Int)) (fun k x => Zef k x.1 x.2.1) Zoi Zo4 ZwA
noncomputable def Zen : Code := Try.f95.body.getD .skip
noncomputable def Z74 : Ctx (Tup Z94 × OutD) := { T := T, G := [(108, Z7Q.E)], mvs := [], no := 0, n := 36, res := resOf T Zr0 Z94 Try.f95.results.toList, loops := [(0, Z61.E)], regs := [], conds := [], cuts := [] }
theorem ZpW (k : Nat) : EnvOK Try.prog k Z74.G := (EnvOK.cons (ZGi k) (EnvOK.nil mixed))
noncomputable def Zbi : Code := (findLoop 0 Zen).getD .skip
theorem ZxR (k : Nat) (x : ZeO.D) : Z61.lp (k + 1) x = loopK Z74 Z61 0 Zbi k x := by kernel_rfl
theorem ZxJ (k : Nat) : LOK Try.prog Z74 k Zbi := LOK.by [] (by kernel_rfl) AllOK.nil
theorem ZxE (x : ZeO.D) : Z61.lp 0 x = none := by kernel_rfl
theorem ZvC (k : Nat) : EOK Try.prog Z74 k Z61.E (.block 0 (.loop Zbi)) := Z4 T_ok ZpW ZxE ZxR ZxJ k
theorem ZDd (k : Nat) (x : Tup Z5a.ps) : Z5a.f (k + 1) x = fnK Z5a Z74 Zen k x := by kernel_rfl
theorem ZCG (x : Tup Z5a.ps) : Z5a.f 0 x = none := by kernel_rfl
theorem ZCF (k : Nat) : LOK Try.prog Z74 k Zen := LOK.by [(Z61.E, .block 0 (.loop Zbi))] (by kernel_rfl) (AllOK.cons (ZvC k) AllOK.nil)
theorem ZD3 (k : Nat) : SoundAt Try.prog k 95 Z5a.E := @Z5 Try.prog Z5a Z74 95 Try.f95 Zen (by kernel_rfl) (by kernel_rfl) (by kernel_rfl) Try.func95 (by kernel_rfl) (by kernel_rfl) (by kernel_rfl) T_ok ZpW ZCF ZCG ZDd k
noncomputable def Z3r : List PK := [PK.mk (.slice 3 I6) false none false none]
noncomputable def Zod : List PK := [PK.mk (.pair I6 (.pair I6 (.slice 73 P6))) true none false none]
noncomputable def ZlE (r : List Int) : Tup Z3r × OutD := ((r, ()), none)
noncomputable def Zll : Tup Z3r × OutD → Option (List Int)
 | (a, none) => some (a.1)
 | _ => none
theorem ZtQ : ∀ b r, Zll b = some r → ZlE r = b := by
 rintro ⟨a, _ | _⟩ r h <;> cases h; rfl
noncomputable def Z66 : Nat → Int → Int → List (Int × Int) → List Int → Int → Int → Option (Int × Int × List (Int × Int) × List Int)
 | 0, _, _, _, _, _, _ => none
 | k + 1, b1_0, b1_1, b1_2, o2, v17, v18 =>
  if decide (v18 < v17) = true then if (0 : Int) ≤ v18 then if v18 < (↑(List.length o2) : Int) then Z66 k b1_0 b1_1 b1_2 (List.set o2 (Int.toNat v18) (-1 : Int)) v17 (wrap64 (v18 + 1)) else none else none else some (b1_0, b1_1, b1_2, o2)
noncomputable def Ze2 : Spec := Spec.mk [.ro, O1, O3] [(1, .at (.ptr 1 0)), (3, .at (.sl 2)), (17, .at (.int .i64)), (18, .at (.int .i64))]
noncomputable def ZwL : Spec := Spec.mk [.ro, O1, O3] [(1, .at (.ptr 1 0)), (3, .at (.sl 2))]
noncomputable def Z5o : LoopDef (Tup Z3r × OutD) := .plain Ze2 ZwL (Int × Int × List (Int × Int) × List Int) (fun k x => Z66 k x.1.2.1.1 x.1.2.1.2.1 x.1.2.1.2.2.1 x.1.2.2.1 x.2.2.2.1 x.2.2.2.2.1) (fun z => (((), (z.1, z.2.1, z.2.2.1, ()), z.2.2.2, ()), ((), (), ()))) (fun y => (y.1.2.1.1, y.1.2.1.2.1, y.1.2.1.2.2.1, y.1.2.2.1)) (fun _ => rfl)
noncomputable def Z3c : Nat → Int → Int → List (Int × Int) → List Int → List Int → List Int → Int → Int → List (Int × Int) → Int → Int → Int → Int → Option (Int × Int × List (Int × Int) × List Int × List Int × Int × Int × List (Int × Int) × Int × Int)
 | 0, _, _, _, _, _, _, _, _, _, _, _, _, _ => none
 | k + 1, b1_0, b1_1, b1_2, o2, o3, o4, v5, v9, v26, v27, v28, v61, v62 =>
  if decide (v62 < v61) = true then if (0 : Int) ≤ v62 then if v62 < (↑(List.length o4) : Int) then if (0 : Int) ≤ List.getD o4 (Int.toNat v62) (0 : Int) then if List.getD o4 (Int.toNat v62) (0 : Int) < (↑(List.length b1_2) : Int) then Option.bind (ZcJ k (Prod.fst (List.getD b1_2 (Int.toNat (List.getD o4 (Int.toNat v62) (0 : Int))) ((0 : Int), (0 : Int))), Prod.snd (List.getD b1_2 (Int.toNat (List.getD o4 (Int.toNat v62) (0 : Int))) ((0 : Int), (0 : Int))))) fun z3 => if z3 = true then if (0 : Int) ≤ List.getD o4 (Int.toNat v62) (0 : Int) then if List.getD o4 (Int.toNat v62) (0 : Int) < (↑(List.length o2) : Int) then if decide (List.getD o2 (Int.toNat (List.getD o4 (Int.toNat v62) (0 : Int))) (0 : Int) < 0) = true then if (0 : Int) ≤ List.getD o4 (Int.toNat v62) (0 : Int) then if List.getD o4 (Int.toNat v62) (0 : Int) < (↑(List.length o2) : Int) then if List.length o3 + List.length [List.getD o4 (Int.toNat v62) (0 : Int)] ≤ (140737488355328 / 8 : Nat) then Z3c k b1_0 b1_1 b1_2 (List.set o2 (Int.toNat (List.getD o4 (Int.toNat v62) (0 : Int))) v5) (o3 ++ [List.getD o4 (Int.toNat v62) (0 : Int)]) o4 v5 v9 v26 v27 v28 v61 (wrap64 (v62 + 1)) else none else none else none else Z3c k b1_0 b1_1 b1_2 o2 o3 o4 v5 v9 v26 v27 v28 v61 (wrap64 (v62 + 1)) else none else none else Z3c k b1_0 b1_1 b1_2 o2 o3 o4 v5 v9 v26 v27 v28 v61 (wrap64 (v62 + 1)) else none else none else none else none else some (b1_0, b1_1, b1_2, o2, o3, v5, v9, v26, v27, v28)
noncomputable def ZdG : Spec := Spec.mk [.ro, O1, O3, O3, O3] [(1, .at (.ptr 1 0)), (3, .at (.sl 2)), (5, .at (.int .i64)), (8, .at (.sl 3)), (9, .at (.int .i64)), (26, .at (.snap 0 P6)), (27, .at (.int .i64)), (28, .at (.int .i64)), (60, .at (.sl 4)), (61, .at (.int .i64)), (62, .at (.int .i64))]
noncomputable def Zvy : Spec := Spec.mk [.ro, O1, O3, O3] [(1, .at (.ptr 1 0)), (3, .at (.sl 2)), (5, .at (.int .i64)), (8, .at (.sl 3)), (9, .at (.int .i64)), (26, .at (.snap 0 P6)), (27, .at (.int .i64)), (28, .at (.int .i64))]
noncomputable def Z5l : LoopDef (Tup Z3r × OutD) := .plain ZdG Zvy (Int × Int × List (Int × Int) × List Int × List Int × Int × Int × List (Int × Int) × Int × Int) (fun k x => Z3c k x.1.2.1.1 x.1.2.1.2.1 x.1.2.1.2.2.1 x.1.2.2.1 x.1.2.2.2.1 x.1.2.2.2.2.1 x.2.2.2.1 x.2.2.2.2.2.1 x.2.2.2.2.2.2.1 x.2.2.2.2.2.2.2.1 x.2.2.2.2.2.2.2.2.1 x.2.2.2.2.2.2.2.2.2.2.1 x.2.2.2.2.2.2.2.2.2.2.2.1) (fun z => (((), (z.1, z.2.1, z.2.2.1, ()), z.2.2.2.1, z.2.2.2.2.1, ()), ((), (), z.2.2.2.2.2.1, (), z.2.2.2.2.2.2.1, z.2.2.2.2.2.2.2.1, z.2.2.2.2.2.2.2.2.1, z.2.2.2.2.2.2.2.2.2, ()))) (fun y => (y.1.2.1.1, y.1.2.1.2.1, y.1.2.1.2.2.1, y.1.2.2.1, y.1.2.2.2.1, y.2.2.2.1, y.2.2.2.2.2.1, y.2.2.2.2.2.2.1, y.2.2.2.2.2.2.2.1, y.2.2.2.2.2.2.2.2.1)) (fun _ => rfl)
noncomputable def Z4g : Nat → Int → Int → List (Int × Int) → List Int → List Int → Int → Int → List (Int × Int) → Int → Int → Option (Int × Int × List (Int × Int) × List Int × Int × List (Int × Int) × Int × Int)
 | 0, _, _, _, _, _, _, _, _, _, _ => none
 | k + 1, b1_0, b1_1, b1_2, o2, o3, v5, v9, v26, v27, v28 =>
  if decide (v9 < (↑(List.length o3) : Int)) = true then if (0 : Int) ≤ v9 then if v9 < (↑(List.length o3) : Int) then Option.bind (Zfz k (b1_0, b1_1, b1_2) (List.getD o3 (Int.toNat v9) (0 : Int))) fun z2 => Option.bind (Z3c k b1_0 b1_1 b1_2 o2 o3 z2 v5 v9 v26 v27 v28 (↑(List.length z2) : Int) (0 : Int)) fun z4 => Z4g k z4.1 z4.2.1 z4.2.2.1 z4.2.2.2.1 z4.2.2.2.2.1 z4.2.2.2.2.2.1 (wrap64 (z4.2.2.2.2.2.2.1 + 1)) z4.2.2.2.2.2.2.2.1 z4.2.2.2.2.2.2.2.2.1 z4.2.2.2.2.2.2.2.2.2 else none else none else some (b1_0, b1_1, b1_2, o2, v5, v26, v27, v28)
noncomputable def Ze5 : Spec := Spec.mk [.ro, O1, O3, O3] [(1, .at (.ptr 1 0)), (3, .at (.sl 2)), (5, .at (.int .i64)), (8, .at (.sl 3)), (9, .at (.int .i64)), (26, .at (.snap 0 P6)), (27, .at (.int .i64)), (28, .at (.int .i64))]
noncomputable def Zvi : Spec := Spec.mk [.ro, O1, O3] [(1, .at (.ptr 1 0)), (3, .at (.sl 2)), (5, .at (.int .i64)), (26, .at (.snap 0 P6)), (27, .at (.int .i64)), (28, .at (.int .i64))]
noncomputable def Z54 : LoopDef (Tup Z3r × OutD) := .plain Ze5 Zvi (Int × Int × List (Int × Int) × List Int × Int × List (Int × Int) × Int × Int) (fun k x => Z4g k x.1.2.1.1 x.1.2.1.2.1 x.1.2.1.2.2.1 x.1.2.2.1 x.1.2.2.2.1 x.2.2.2.1 x.2.2.2.2.2.1 x.2.2.2.2.2.2.1 x.2.2.2.2.2.2.2.1 x.2.2.2.2.2.2.2.2.1) (fun z => (((), (z.1, z.2.1, z.2.2.1, ()), z.2.2.2.1, ()), ((), (), z.2.2.2.2.1, z.2.2.2.2.2.1, z.2.2.2.2.2.2.1, z.2.2.2.2.2.2.2, ()))) (fun y => (y.1.2.1.1, y.1.2.1.2.1, y.1.2.1.2.2.1, y.1.2.2.1, y.2.2.2.1, y.2.2.2.2.1, y.2.2.2.2.2.1, y.2.2.2.2.2.2.1)) (fun _ => rfl)
noncomputable def Z2h : Nat → Int → Int → List (Int × Int) → List Int → Int → List (Int × Int) → Int → Int → Option (List Int)
 | 0, _, _, _, _, _, _, _, _ => none
 | k + 1, b1_0, b1_1, b1_2, o2, v5, v26, v27, v28 =>
  if decide (v28 < v27) = true then if (0 : Int) ≤ v28 then if v28 < (↑(List.length v26) : Int) then Option.bind (ZcJ k (Prod.fst (List.getD v26 (Int.toNat v28) ((0 : Int), (0 : Int))), Prod.snd (List.getD v26 (Int.toNat v28) ((0 : Int), (0 : Int))))) fun z1 => if (!z1) = true then Z2h k b1_0 b1_1 b1_2 o2 v5 v26 v27 (wrap64 (v28 + 1)) else if (0 : Int) ≤ v28 then if v28 < (↑(List.length o2) : Int) then if decide (List.getD o2 (Int.toNat v28) (0 : Int) ≥ 0) = true then Z2h k b1_0 b1_1 b1_2 o2 v5 v26 v27 (wrap64 (v28 + 1)) else if (0 : Int) ≤ v28 then if v28 < (↑(List.length o2) : Int) then Option.bind (Z4g k b1_0 b1_1 b1_2 (List.set o2 (Int.toNat v28) v5) [v28] v5 (0 : Int) v26 v27 v28) fun z5 => Z2h k z5.1 z5.2.1 z5.2.2.1 z5.2.2.2.1 (wrap64 (z5.2.2.2.2.1 + 1)) z5.2.2.2.2.2.1 z5.2.2.2.2.2.2.1 (wrap64 (z5.2.2.2.2.2.2.2 + 1)) else none else none else none else none else none else none else some o2
noncomputable def ZdU : Spec := Spec.mk [.ro, O1, O3] [(1, .at (.ptr 1 0)), (3, .at (.sl 2)), (5, .at (.int .i64)), (26, .at (.snap 0 P6)), (27, .at (.int .i64)), (28, .at (.int .i64))]
noncomputable def ZvD : Spec := Spec.mk [.ro, O3] [(3, .at (.sl 1))]
noncomputable def Z55 : LoopDef (Tup Z3r × OutD) := .plain ZdU ZvD (List Int) (fun k x => Z2h k x.1.2.1.1 x.1.2.1.2.1 x.1.2.1.2.2.1 x.1.2.2.1 x.2.2.2.1 x.2.2.2.2.1 x.2.2.2.2.2.1 x.2.2.2.2.2.2.1) (fun z => (((), z, ()), ((), ()))) (fun y => (y.1.2.1)) (fun _ => rfl)
noncomputable def Z5Q : Nat → Int × Int × List (Int × Int) → Option (List Int)
 | 0, _ => none
 | k + 1, p0 =>
  if Int.toNat (↑(List.length p0.2.2) : Int) * (8 : Nat) ≤ (281474976710656 : Nat) then Option.bind (Z66 k p0.1 p0.2.1 p0.2.2 (List.replicate (Int.toNat (↑(List.length p0.2.2) : Int)) (0 : Int)) (↑(List.length (List.replicate (Int.toNat (↑(List.length p0.2.2) : Int)) (0 : Int))) : Int) (0 : Int)) fun z0 => Option.bind (Z2h k z0.1 z0.2.1 z0.2.2.1 z0.2.2.2 (0 : Int) z0.2.2.1 (↑(List.length z0.2.2.1) : Int) (0 : Int)) fun z6 => some z6 else none
noncomputable def Z4m : FnDef := .of Zod Z3r (List Int) (fun k x => Z5Q k x.1) ZlE Zll ZtQ
noncomputable def Z5T : Code := Try.f102.body.getD .skip
noncomputable def ZD : Ctx (Tup Z3r × OutD) := { T := T, G := [(110, Z6r.E), (111, Z6q.E)], mvs := [], no := 0, n := 92, res := resOf T Zod Z3r Try.f102.results.toList, loops := [(0, Z5o.E), (6, Z5l.E), (4, Z54.E), (2, Z55.E)], regs := [], conds := [], cuts := [] }
theorem Zaw (k : Nat) : EnvOK Try.prog k ZD.G := (EnvOK.cons (ZES k) (EnvOK.cons (ZE3 k) (EnvOK.nil mixed)))
noncomputable def ZaC : Code := (findLoop 0 Z5T).getD .skip
theorem Zwx (k : Nat) (x : Ze2.D) : Z5o.lp (k + 1) x = loopK ZD Z5o 0 ZaC k x := by kernel_rfl
theorem Zwo (k : Nat) : LOK Try.prog ZD k ZaC := LOK.by [] (by kernel_rfl) AllOK.nil
theorem Zw9 (x : Ze2.D) : Z5o.lp 0 x = none := by kernel_rfl
theorem ZtR (k : Nat) : EOK Try.prog ZD k Z5o.E (.block 0 (.loop ZaC)) := Z4 T_ok Zaw Zw9 Zwx Zwo k
noncomputable def ZaL : Code := (findLoop 6 Z5T).getD .skip
theorem ZvH (k : Nat) (x : ZdG.D) : Z5l.lp (k + 1) x = loopK ZD Z5l 6 ZaL k x := by kernel_rfl
theorem Zw1 (k : Nat) : LOK Try.prog ZD k ZaL := LOK.by [] (by kernel_rfl) AllOK.nil
theorem ZwW (x : ZdG.D) : Z5l.lp 0 x = none := by kernel_rfl
theorem Zvb (k : Nat) : EOK Try.prog ZD k Z5l.E (.block 6 (.loop ZaL)) := Z4 T_ok Zaw ZwW ZvH Zw1 k
noncomputable def ZaB : Code := (findLoop 4 Z5T).getD .skip
theorem ZvL (k : Nat) (x : Ze5.D) : Z54.lp (k + 1) x = loopK ZD Z54 4 ZaB k x := by kernel_rfl
theorem Zvh (k : Nat) : LOK Try.prog ZD k ZaB := LOK.by [(Z5l.E, .block 6 (.loop ZaL))] (by kernel_rfl) (AllOK.cons (Zvb k) AllOK.nil)
theorem Zvl (x : Ze5.D) : Z54.lp 0 x = none := by kernel_rfl
theorem ZtT (k : Nat) : EOK Try.prog ZD k Z54.E (.block 4 (.loop ZaB)) := Z4 T_ok Zaw Zvl ZvL Zvh k
noncomputable def Zau : Code := (findLoop 2 Z5T).getD .skip
theorem ZwT (k : Nat) (x : ZdU.D) : Z55.lp (k + 1) x = loopK ZD Z55 2 Zau k x := by kernel_rfl
theorem ZvV (k : Nat) : LOK Try.prog ZD k Zau := LOK.by [(Z54.E, .block 4 (.loop ZaB))] (by kernel_rfl) (AllOK.cons (ZtT k) AllOK.nil)
theorem ZvU (x : ZdU.D) : Z55.lp 0 x = none := by kernel_rfl
theorem ZuZ (k : Nat) : EOK Try.prog ZD k Z55.E (.block 2 (.loop Zau)) := Z4 T_ok Zaw ZvU ZwT ZvV k
theorem ZBg (k : Nat) (x : Tup Z4m.ps) : Z4m.f (k + 1) x = fnK Z4m ZD Z5T k x := by kernel_rfl
theorem ZCb (x : Tup Z4m.ps) : Z4m.f 0 x = none := by kernel_rfl
theorem ZCd (k : Nat) : LOK Try.prog ZD k Z5T := LOK.by [(Z5o.E, .block 0 (.loop ZaC)), (Z55.E, .block 2 (.loop Zau))] (by kernel_rfl) (AllOK.cons (ZtR k) (AllOK.cons (ZuZ k) AllOK.nil))
theorem ZC3 (k : Nat) : SoundAt Try.prog k 102 Z4m.E := @Z5 Try.prog Z4m ZD 102 Try.f102 Z5T (by kernel_rfl) (by kernel_rfl) (by kernel_rfl) Try.func102 (by kernel_rfl) (by kernel_rfl) (by kernel_rfl) T_ok Zaw ZCd ZCb ZBg k
noncomputable def ZcX : List PK := [PK.mk I6 false none false none, PK.mk .bool false none false none]
noncomputable def Zt6 : List PK := [PK.mk P6 true none false none, PK.mk I6 false none false none]
noncomputable def ZpT (r : Int × Bool) : Tup ZcX × OutD := ((r.1, r.2, ()), none)
noncomputable def Zqb : Tup ZcX × OutD → Option (Int × Bool)
 | (a, none) => some (a.1, a.2.1)
 | _ => none
theorem ZxC : ∀ b r, Zqb b = some r → ZpT r = b := by
 rintro ⟨a, _ | _⟩ r h <;> cases h; rfl
noncomputable def Zfl : Nat → Int × Int → Int → Option (Int × Bool)
 | 0, _, _ => none
 | k + 1, p0, p1 =>
  Option.bind (Zag k (p0.1, p0.2)) fun z0 => if (!z0) = true then some ((0 : Int), false) else if decide (p1 < (-1 : Int)) = true then some ((0 : Int), false) else if decide (p1 > 1) = true then some ((0 : Int), false) else if decide (p0.1 = 5) = true then some ((0 : Int), false) else if decide (p0.1 = 1) = true then some ((-1 : Int), true) else if decide (p0.1 = 2) = true then some ((1 : Int), true) else if decide (p0.1 = 3) = true then some (wrap64 (wrap64 ((2 : Int) * p0.2) - 1), true) else if decide (p0.1 = 6) = true then some (wrap64 (wrap64 ((2 : Int) * p0.2) - 1), true) else if decide (p0.1 = 4) = true then some (wrap64 ((0 : Int) - p1), true) else some ((0 : Int), true)
noncomputable def Z6x : FnDef := .of Zt6 ZcX (Int × Bool) (fun k x => Zfl k x.1 x.2.1) ZpT Zqb ZxC
noncomputable def Zj4 : Code := Try.f106.body.getD .skip
noncomputable def Zfo : Ctx (Tup ZcX × OutD) := { T := T, G := [(89, Z3Q.E)], mvs := [], no := 0, n := 39, res := resOf T Zt6 ZcX Try.f106.results.toList, loops := [], regs := [], conds := [], cuts := [] }
theorem ZDP (k : Nat) : EnvOK Try.prog k Zfo.G := (EnvOK.cons (Zj7 k) (EnvOK.nil mixed))
theorem ZE1 (k : Nat) (x : Tup Z6x.ps) : Z6x.f (k + 1) x = fnK Z6x Zfo Zj4 k x := by kernel_rfl
theorem ZEH (x : Tup Z6x.ps) : Z6x.f 0 x = none := by kernel_rfl
theorem ZE7 (k : Nat) : LOK Try.prog Zfo k Zj4 := LOK.by [] (by kernel_rfl) AllOK.nil
theorem ZEh (k : Nat) : SoundAt Try.prog k 106 Z6x.E := @Z5 Try.prog Z6x Zfo 106 Try.f106 Zj4 (by kernel_rfl) (by kernel_rfl) (by kernel_rfl) Try.func106 (by kernel_rfl) (by kernel_rfl) (by kernel_rfl) T_ok ZDP ZE7 ZEH ZE1 k
noncomputable def ZbG : List PK := [PK.mk (.slice 73 P6) false none false none]
noncomputable def Zwp : List PK := []
noncomputable def ZsV (r : List (Int × Int)) : Tup ZbG × OutD := ((r, ()), none)
noncomputable def ZtG : Tup ZbG × OutD → Option (List (Int × Int))
 | (a, none) => some (a.1)
 | _ => none
theorem ZAd : ∀ b r, ZtG b = some r → ZsV r = b := by
 rintro ⟨a, _ | _⟩ r h <;> cases h; rfl
noncomputable def Z5h : Nat → List (Int × Int) → Int → Option (List (Int × Int))
 | 0, _, _ => none
 | k + 1, o1, v2 =>
  if decide (v2 ≤ 7) = true then if List.length o1 + List.length [(v2, (0 : Int))] ≤ (140737488355328 / 16 : Nat) then Option.bind (Z3K k (v2, (1 : Int))) fun z0 => if z0 = true then if List.length (o1 ++ [(v2, (0 : Int))]) + List.length [(v2, (1 : Int))] ≤ (140737488355328 / 16 : Nat) then Z5h k (o1 ++ [(v2, (0 : Int))] ++ [(v2, (1 : Int))]) (wrap64 (v2 + 1)) else none else Z5h k (o1 ++ [(v2, (0 : Int))]) (wrap64 (v2 + 1)) else none else some o1
noncomputable def Zhi : Spec := Spec.mk [.ro, O0] [(1, .at (.sl 1)), (2, .at (.int .i64))]
noncomputable def ZAX : Spec := Spec.mk [.ro, O0] [(1, .at (.sl 1))]
noncomputable def Z8f : LoopDef (Tup ZbG × OutD) := .plain Zhi ZAX (List (Int × Int)) (fun k x => Z5h k x.1.2.1 x.2.2.1) (fun z => (((), z, ()), ((), ()))) (fun y => (y.1.2.1)) (fun _ => rfl)
noncomputable def Zh1 : Nat → Option (List (Int × Int))
 | 0 => none
 | k + 1 =>
  Option.bind (Z5h k [] (0 : Int)) fun z1 => some z1
noncomputable def Z7N : FnDef := .of Zwp ZbG (List (Int × Int)) (fun k x => Zh1 k) ZsV ZtG ZAd
noncomputable def ZgI : Code := Try.f109.body.getD .skip
noncomputable def Z9t : Ctx (Tup ZbG × OutD) := { T := T, G := [(96, Z1t.E)], mvs := [], no := 0, n := 22, res := resOf T Zwp ZbG Try.f109.results.toList, loops := [(0, Z8f.E)], regs := [], conds := [], cuts := [] }
theorem Zwn (k : Nat) : EnvOK Try.prog k Z9t.G := (EnvOK.cons (ZbY k) (EnvOK.nil mixed))
noncomputable def Zds : Code := (findLoop 0 ZgI).getD .skip
theorem ZC0 (k : Nat) (x : Zhi.D) : Z8f.lp (k + 1) x = loopK Z9t Z8f 0 Zds k x := by kernel_rfl
theorem ZCo (k : Nat) : LOK Try.prog Z9t k Zds := LOK.by [] (by kernel_rfl) AllOK.nil
theorem ZCs (x : Zhi.D) : Z8f.lp 0 x = none := by kernel_rfl
theorem Zzk (k : Nat) : EOK Try.prog Z9t k Z8f.E (.block 0 (.loop Zds)) := Z4 T_ok Zwn ZCs ZC0 ZCo k
theorem ZFR (k : Nat) (x : Tup Z7N.ps) : Z7N.f (k + 1) x = fnK Z7N Z9t ZgI k x := by kernel_rfl
theorem ZFi (x : Tup Z7N.ps) : Z7N.f 0 x = none := by kernel_rfl
theorem ZGc (k : Nat) : LOK Try.prog Z9t k ZgI := LOK.by [(Z8f.E, .block 0 (.loop Zds))] (by kernel_rfl) (AllOK.cons (Zzk k) AllOK.nil)
theorem ZFE (k : Nat) : SoundAt Try.prog k 109 Z7N.E := @Z5 Try.prog Z7N Z9t 109 Try.f109 ZgI (by kernel_rfl) (by kernel_rfl) (by kernel_rfl) Try.func109 (by kernel_rfl) (by kernel_rfl) (by kernel_rfl) T_ok Zwn ZGc ZFi ZFR k
noncomputable def Zal : List PK := []
noncomputable def Zt7 : List PK := [PK.mk (.pair I6 (.pair I6 (.slice 73 P6))) true (some (2, 73, .pair I6 I6)) false none, PK.mk (.slice 3 I6) false none false none, PK.mk I6 false none false none]
noncomputable def Zrp (r : List (Int × Int)) : Tup Zal × OutD := ((()), some ⟨Ty.pair (Ty.int .i64) (Ty.int .i64), r⟩)
noncomputable def Zic : Tup Zal × OutD → Option (List (Int × Int))
 | (a, some ⟨u, ys⟩) => if h : u = Ty.pair (Ty.int .i64) (Ty.int .i64) then some (castU h ys) else none
 | _ => none
theorem ZyE : ∀ b r, Zic b = some r → Zrp r = b := by
 rintro ⟨a, o⟩ r h
 cases o with
 | none => cases h
 | some s =>
  obtain ⟨u, ys⟩ := s
  simp only [Zic] at h
  split at h
  ·rename_i hu; subst hu; injection h with h; subst h; rfl
  ·cases h
noncomputable def Z3p : Nat → List (Int × Int) → Int → Int → List Int → Int → Int → Int → Option (List (Int × Int))
 | 0, _, _, _, _, _, _, _ => none
 | k + 1, o1, b2_0, b2_1, v1, v2, v28, v29 =>
  if decide (v29 < v28) = true then if (0 : Int) ≤ v29 then if v29 < (↑(List.length o1) : Int) then if decide (Prod.fst (List.getD o1 (Int.toNat v29) ((0 : Int), (0 : Int))) = 6) = true then if (0 : Int) ≤ v29 then if v29 < (↑(List.length v1) : Int) then if (0 : Int) ≤ v2 then if v2 < (↑(List.length v1) : Int) then if decide (List.getD v1 (Int.toNat v29) (0 : Int) = List.getD v1 (Int.toNat v2) (0 : Int)) = true then Option.bind (ZcY k (Prod.fst (List.getD o1 (Int.toNat v29) ((0 : Int), (0 : Int))), Prod.snd (List.getD o1 (Int.toNat v29) ((0 : Int), (0 : Int))))) fun z1 => if (0 : Int) ≤ v29 then if v29 < (↑(List.length o1) : Int) then Z3p k (List.set o1 (Int.toNat v29) (z1.1, z1.2)) b2_0 b2_1 v1 v2 v28 (wrap64 (v29 + 1)) else none else none else Z3p k o1 b2_0 b2_1 v1 v2 v28 (wrap64 (v29 + 1)) else none else none else none else none else Z3p k o1 b2_0 b2_1 v1 v2 v28 (wrap64 (v29 + 1)) else none else none else some o1
noncomputable def ZfO : Spec := Spec.mk [.ro, Ol, Og] [(1, .at (.snap 0 I6)), (2, .at (.int .i64)), (3, .at (.ptr 2 0)), (27, .at (.sl 1)), (28, .at (.int .i64)), (29, .at (.int .i64))]
noncomputable def ZzI : Spec := Spec.mk [.ro, Ol] []
noncomputable def Z72 : LoopDef (Tup Zal × OutD) := .plain ZfO ZzI (List (Int × Int)) (fun k x => Z3p k x.1.2.1 x.1.2.2.1.1 x.1.2.2.1.2.1 x.2.1 x.2.2.1 x.2.2.2.2.2.1 x.2.2.2.2.2.2.1) (fun z => (((), z, ()), (()))) (fun y => (y.1.2.1)) (fun _ => rfl)
noncomputable def Zft : Nat → Int × Int × List (Int × Int) → List Int → Int → Option (List (Int × Int))
 | 0, _, _, _ => none
 | k + 1, p0, p1, p2 =>
  if (0 : Int) ≤ p2 then if p2 < (↑(List.length p0.2.2) : Int) then if decide (Prod.fst (List.getD p0.2.2 (Int.toNat p2) ((0 : Int), (0 : Int))) = 3) = true then Option.bind (ZcY k (Prod.fst (List.getD p0.2.2 (Int.toNat p2) ((0 : Int), (0 : Int))), Prod.snd (List.getD p0.2.2 (Int.toNat p2) ((0 : Int), (0 : Int))))) fun z0 => if (0 : Int) ≤ p2 then if p2 < (↑(List.length p0.2.2) : Int) then some (List.set p0.2.2 (Int.toNat p2) (z0.1, z0.2)) else none else none else if decide (Prod.fst (List.getD p0.2.2 (Int.toNat p2) ((0 : Int), (0 : Int))) = 6) = true then Option.bind (Z3p k p0.2.2 p0.1 p0.2.1 p1 p2 (↑(List.length p0.2.2) : Int) (0 : Int)) fun z2 => some z2 else some p0.2.2 else none else none
noncomputable def Z6n : FnDef := .of Zt7 Zal (List (Int × Int)) (fun k x => Zft k x.1 x.2.1 x.2.2.1) Zrp Zic ZyE
noncomputable def ZfD : Code := Try.f115.body.getD .skip
noncomputable def Z8x : Ctx (Tup Zal × OutD) := { T := T, G := [(116, Z6i.E)], mvs := [], no := 1, n := 55, res := resOf T Zt7 Zal Try.f115.results.toList, loops := [(1, Z72.E)], regs := [], conds := [], cuts := [] }
theorem Zto (k : Nat) : EnvOK Try.prog k Z8x.G := (EnvOK.cons (ZF5 k) (EnvOK.nil mixed))
noncomputable def Zc6 : Code := (findLoop 1 ZfD).getD .skip
theorem Zzt (k : Nat) (x : ZfO.D) : Z72.lp (k + 1) x = loopK Z8x Z72 1 Zc6 k x := by kernel_rfl
theorem ZAy (k : Nat) : LOK Try.prog Z8x k Zc6 := LOK.by [] (by kernel_rfl) AllOK.nil
theorem ZAg (x : ZfO.D) : Z72.lp 0 x = none := by kernel_rfl
theorem ZyH (k : Nat) : EOK Try.prog Z8x k Z72.E (.block 1 (.loop Zc6)) := Z4 T_ok Zto ZAg Zzt ZAy k
theorem ZF4 (k : Nat) (x : Tup Z6n.ps) : Z6n.f (k + 1) x = fnK Z6n Z8x ZfD k x := by kernel_rfl
theorem ZEm (x : Tup Z6n.ps) : Z6n.f 0 x = none := by kernel_rfl
theorem ZE6 (k : Nat) : LOK Try.prog Z8x k ZfD := LOK.by [(Z72.E, .block 1 (.loop Zc6))] (by kernel_rfl) (AllOK.cons (ZyH k) AllOK.nil)
theorem ZEP (k : Nat) : SoundAt Try.prog k 115 Z6n.E := @Z5 Try.prog Z6n Z8x 115 Try.f115 ZfD (by kernel_rfl) (by kernel_rfl) (by kernel_rfl) Try.func115 (by kernel_rfl) (by kernel_rfl) (by kernel_rfl) T_ok Zto ZE6 ZEm ZF4 k
end
end Go.Proofs.Ytkbikniinjalbaa.Vs
