/- The proof, part 9. -/
import Derived.Test.YtmhfhiofcoggbaaGreatqT1m7
set_option maxRecDepth 100000
set_option maxHeartbeats 2000000
set_option linter.unusedVariables false
set_option linter.unusedSimpArgs false
namespace Go.Proofs.YtmhfhiofcoggbaaGreat.Vs
open Go.RowKit
section
noncomputable section
noncomputable def Z9s : List PK := [PK.mk I6 false none false none, PK.mk .bool false none false none]
noncomputable def Zlw : List PK := [PK.mk (.pair I6 (.pair I6 (.slice 76 P6))) true none false none]
noncomputable def ZkP (r : Int × Bool) : Tup Z9s × OutD := ((r.1, r.2, ()), none)
noncomputable def Zla : Tup Z9s × OutD → Option (Int × Bool)
 | (a, none) => some (a.1, a.2.1)
 | _ => none
theorem Zsy : ∀ b r, Zla b = some r → ZkP r = b := by
 rintro ⟨a, _ | _⟩ r h <;> cases h; rfl
noncomputable def Zcm : Nat → Int × Int × List (Int × Int) → Option (Int × Bool)
 | 0, _ => none
 | k + 1, p0 =>
  Option.bind (Z2q k (p0.1, p0.2.1, p0.2.2)) fun z0 => if (!z0) = true then some ((0 : Int), false) else Option.bind (Z4D k (p0.1, p0.2.1, p0.2.2)) fun z1 => some (z1, true)
noncomputable def Z3c : FnDef := .of Zlw Z9s (Int × Bool) (fun k x => Zcm k x.1) ZkP Zla Zsy
noncomputable def Zgs : Code := Tryz.f17.body.getD .skip
noncomputable def Zc1 : Ctx (Tup Z9s × OutD) := { T := T, G := [(38, ZT.E), (51, Z1R.E)], mvs := [], no := 0, n := 9, res := resOf T Zlw Z9s Tryz.f17.results.toList, loops := [], regs := [], conds := [], cuts := [] }
theorem ZAP (k : Nat) : EnvOK Tryz.prog k Zc1.G := (EnvOK.cons (Z6f k) (EnvOK.cons (ZeN k) (EnvOK.nil mixed)))
theorem ZBQ (k : Nat) (x : Tup Z3c.ps) : Z3c.f (k + 1) x = fnK Z3c Zc1 Zgs k x := by kernel_rfl
theorem ZBo (x : Tup Z3c.ps) : Z3c.f 0 x = none := by kernel_rfl
theorem ZCI (k : Nat) : LOK Tryz.prog Zc1 k Zgs := LOK.by [] (by kernel_rfl) AllOK.nil
theorem ZBq (k : Nat) : SoundAt Tryz.prog k 17 Z3c.E := @Z0 Tryz.prog Z3c Zc1 17 Tryz.f17 Zgs (by kernel_rfl) (by kernel_rfl) (by kernel_rfl) Tryz.func17 (by kernel_rfl) (by kernel_rfl) (by kernel_rfl) T_ok ZAP ZCI ZBo ZBQ k
noncomputable def ZbW : List PK := [PK.mk .bool false none false none]
noncomputable def ZrL : List PK := [PK.mk (.pair I6 (.slice 3 I6)) true none false none]
noncomputable def Zod (r : Bool) : Tup ZbW × OutD := ((r, ()), none)
noncomputable def ZnO : Tup ZbW × OutD → Option (Bool)
 | (a, none) => some (a.1)
 | _ => none
theorem Zwr : ∀ b r, ZnO b = some r → Zod r = b := by
 rintro ⟨a, _ | _⟩ r h <;> cases h; rfl
noncomputable def ZeG : Nat → Int × List Int → Option Bool
 | 0, _ => none
 | k + 1, p0 =>
  Option.bind (ZfP k (p0.1, p0.2)) fun z0 => if z0 = true then some (decide (p0.1 ≤ (3 : Int))) else some false
noncomputable def Z4L : FnDef := .of ZrL ZbW (Bool) (fun k x => ZeG k x.1) Zod ZnO Zwr
noncomputable def Zjd : Code := Tryz.f32.body.getD .skip
noncomputable def ZeT : Ctx (Tup ZbW × OutD) := { T := T, G := [(65, Z5F.E)], mvs := [], no := 0, n := 10, res := resOf T ZrL ZbW Tryz.f32.results.toList, loops := [], regs := [], conds := [], cuts := [] }
theorem ZFp (k : Nat) : EnvOK Tryz.prog k ZeT.G := (EnvOK.cons (ZHf k) (EnvOK.nil mixed))
theorem ZF1 (k : Nat) (x : Tup Z4L.ps) : Z4L.f (k + 1) x = fnK Z4L ZeT Zjd k x := by kernel_rfl
theorem ZFC (x : Tup Z4L.ps) : Z4L.f 0 x = none := by kernel_rfl
theorem ZFk (k : Nat) : LOK Tryz.prog ZeT k Zjd := LOK.by [] (by kernel_rfl) AllOK.nil
theorem ZE3 (k : Nat) : SoundAt Tryz.prog k 32 Z4L.E := @Z0 Tryz.prog Z4L ZeT 32 Tryz.f32 Zjd (by kernel_rfl) (by kernel_rfl) (by kernel_rfl) Tryz.func32 (by kernel_rfl) (by kernel_rfl) (by kernel_rfl) T_ok ZFp ZFk ZFC ZF1 k
noncomputable def Z51 : List PK := [PK.mk .bool false none false none]
noncomputable def ZhN : List PK := [PK.mk (.pair I6 (.pair I6 (.slice 76 P6))) true none false none, PK.mk I6 false none false none]
noncomputable def Zh8 (r : Bool) : Tup Z51 × OutD := ((r, ()), none)
noncomputable def ZgU : Tup Z51 × OutD → Option (Bool)
 | (a, none) => some (a.1)
 | _ => none
theorem ZlJ : ∀ b r, ZgU b = some r → Zh8 r = b := by
 rintro ⟨a, _ | _⟩ r h <;> cases h; rfl
noncomputable def Z8I : Nat → Int × Int × List (Int × Int) → Int → Option Bool
 | 0, _, _ => none
 | k + 1, p0, p1 =>
  Option.bind (Z2q k (p0.1, p0.2.1, p0.2.2)) fun z0 => if (!z0) = true then some false else if decide (p1 < 0) = true then some false else if decide (p1 > p0.2.1) = true then some false else if decide (p0.2.1 = 1) = true then some true else if decide (p0.2.1 = 2) = true then some true else if decide (p0.2.1 = 4) = true then some true else some (decide (p0.2.1 = 8))
noncomputable def Z1i : FnDef := .of ZhN Z51 (Bool) (fun k x => Z8I k x.1 x.2.1) Zh8 ZgU ZlJ
noncomputable def ZcC : Code := Tryz.f35.body.getD .skip
noncomputable def Z8z : Ctx (Tup Z51 × OutD) := { T := T, G := [(38, ZT.E)], mvs := [], no := 0, n := 36, res := resOf T ZhN Z51 Tryz.f35.results.toList, loops := [], regs := [], conds := [], cuts := [] }
theorem Ztd (k : Nat) : EnvOK Tryz.prog k Z8z.G := (EnvOK.cons (Z6f k) (EnvOK.nil mixed))
theorem Zsq (k : Nat) (x : Tup Z1i.ps) : Z1i.f (k + 1) x = fnK Z1i Z8z ZcC k x := by kernel_rfl
theorem Zsm (x : Tup Z1i.ps) : Z1i.f 0 x = none := by kernel_rfl
theorem Zsj (k : Nat) : LOK Tryz.prog Z8z k ZcC := LOK.by [] (by kernel_rfl) AllOK.nil
theorem Zs4 (k : Nat) : SoundAt Tryz.prog k 35 Z1i.E := @Z0 Tryz.prog Z1i Z8z 35 Tryz.f35 ZcC (by kernel_rfl) (by kernel_rfl) (by kernel_rfl) Tryz.func35 (by kernel_rfl) (by kernel_rfl) (by kernel_rfl) T_ok Ztd Zsj Zsm Zsq k
noncomputable def Z8t : List PK := [PK.mk .bool false none false none]
noncomputable def ZkF : List PK := [PK.mk (.pair I6 (.pair I6 (.slice 76 P6))) true none false none, PK.mk I6 false none false none]
noncomputable def Zk8 (r : Bool) : Tup Z8t × OutD := ((r, ()), none)
noncomputable def ZjR : Tup Z8t × OutD → Option (Bool)
 | (a, none) => some (a.1)
 | _ => none
theorem ZqO : ∀ b r, ZjR b = some r → Zk8 r = b := by
 rintro ⟨a, _ | _⟩ r h <;> cases h; rfl
noncomputable def Zb6 : Nat → Int × Int × List (Int × Int) → Int → Option Bool
 | 0, _, _ => none
 | k + 1, p0, p1 =>
  Option.bind (Z2q k (p0.1, p0.2.1, p0.2.2)) fun z0 => if z0 = true then if decide (p1 ≥ 0) = true then some (decide (p1 < p0.2.1)) else some false else some false
noncomputable def Z2y : FnDef := .of ZkF Z8t (Bool) (fun k x => Zb6 k x.1 x.2.1) Zk8 ZjR ZqO
noncomputable def Zfu : Code := Tryz.f39.body.getD .skip
noncomputable def Zb5 : Ctx (Tup Z8t × OutD) := { T := T, G := [(38, ZT.E)], mvs := [], no := 0, n := 17, res := resOf T ZkF Z8t Tryz.f39.results.toList, loops := [], regs := [], conds := [], cuts := [] }
theorem Zz5 (k : Nat) : EnvOK Tryz.prog k Zb5.G := (EnvOK.cons (Z6f k) (EnvOK.nil mixed))
theorem ZyG (k : Nat) (x : Tup Z2y.ps) : Z2y.f (k + 1) x = fnK Z2y Zb5 Zfu k x := by kernel_rfl
theorem Zzc (x : Tup Z2y.ps) : Z2y.f 0 x = none := by kernel_rfl
theorem ZzE (k : Nat) : LOK Tryz.prog Zb5 k Zfu := LOK.by [] (by kernel_rfl) AllOK.nil
theorem ZzQ (k : Nat) : SoundAt Tryz.prog k 39 Z2y.E := @Z0 Tryz.prog Z2y Zb5 39 Tryz.f39 Zfu (by kernel_rfl) (by kernel_rfl) (by kernel_rfl) Tryz.func39 (by kernel_rfl) (by kernel_rfl) (by kernel_rfl) T_ok Zz5 ZzE Zzc ZyG k
noncomputable def Z9c : List PK := [PK.mk .bool false none false none]
noncomputable def Zqy : List PK := [PK.mk (.pair I6 (.pair I6 (.pair (.slice 76 P6) (.pair (.slice 3 I6) (.slice 3 I6))))) true none false none, PK.mk (.pair I6 (.pair I6 (.slice 76 P6))) true none false none]
noncomputable def Zi1 (r : Bool) : Tup Z9c × OutD := ((r, ()), none)
noncomputable def Zi4 : Tup Z9c × OutD → Option (Bool)
 | (a, none) => some (a.1)
 | _ => none
theorem Zk5 : ∀ b r, Zi4 b = some r → Zi1 r = b := by
 rintro ⟨a, _ | _⟩ r h <;> cases h; rfl
noncomputable def Z6u : Nat → Int → Int → List (Int × Int) → List Int → List Int → Int → Int → List (Int × Int) → Int → Int → List (Int × Int) → List Int → List Int → Int → Int → Option (LR Unit Bool)
 | 0, _, _, _, _, _, _, _, _, _, _, _, _, _, _, _ => none
 | k + 1, b1_0, b1_1, b1_2, b1_3, b1_4, b2_0, b2_1, b2_2, b3_0, b3_1, o4, o5, v16, v17, v18 =>
  if decide (v18 < v17) = true then if (0 : Int) ≤ v18 then if v18 < (↑(List.length v16) : Int) then Option.bind (Z73 k (b3_0, b3_1, o4) o5 (List.getD v16 (Int.toNat v18) (0 : Int))) fun z2 => if (0 : Int) ≤ v18 then if v18 < (↑(List.length b1_4) : Int) then Option.bind (ZcM k (b2_0, b2_1, b2_2) (z2.1.1, z2.1.2.1, z2.1.2.2)) fun z3 => if decide (z3 ≠ List.getD b1_4 (Int.toNat v18) (0 : Int)) = true then some (LR.ret false) else Z6u k b1_0 b1_1 b1_2 b1_3 b1_4 b2_0 b2_1 b2_2 b3_0 b3_1 z2.2.2 o5 v16 v17 (wrap64 (v18 + 1)) else none else none else none else none else some (LR.go ())
noncomputable def Zfy : Spec := Spec.mk [.ro, O1, O0, O6, O2, O4] [(2, .at (.ptr 1 0)), (3, .at (.ptr 2 0)), (5, .at (.ptr 3 0)), (6, .at (.sl 5)), (16, .at (.snap 0 I6)), (17, .at (.int .i64)), (18, .at (.int .i64))]
noncomputable def Zys : Spec := Spec.mk [.ro] []
noncomputable def Z5w : LoopDef (Tup Z9c × OutD) := .rets Zfy Zys (Unit) (Bool) (fun k x => Z6u k x.1.2.1.1 x.1.2.1.2.1 x.1.2.1.2.2.1 x.1.2.1.2.2.2.1 x.1.2.1.2.2.2.2.1 x.1.2.2.1.1 x.1.2.2.1.2.1 x.1.2.2.1.2.2.1 x.1.2.2.2.1.1 x.1.2.2.2.1.2.1 x.1.2.2.2.2.1 x.1.2.2.2.2.2.1 x.2.2.2.2.2.1 x.2.2.2.2.2.2.1 x.2.2.2.2.2.2.2.1) (fun z => (((), ()), (()))) (fun y => ()) (fun _ => rfl) Zi1 Zi4 Zk5
noncomputable def Zby : Nat → Int × Int × List (Int × Int) × List Int × List Int → Int × Int × List (Int × Int) → Option Bool
 | 0, _, _ => none
 | k + 1, p0, p1 =>
  Option.bind (Z37 k (p1.1, p1.2.1, p1.2.2)) fun z0 => Option.bind (Z14 k (p1.1, p1.2.1, p1.2.2)) fun z1 => Option.bind (Z6u k p0.1 p0.2.1 p0.2.2.1 p0.2.2.2.1 p0.2.2.2.2 p1.1 p1.2.1 p1.2.2 z0.1 z0.2.1 z0.2.2 z1 p0.2.2.2.1 (↑(List.length p0.2.2.2.1) : Int) (0 : Int)) fun z4 => LR.on z4 (fun y4 => some true) fun r4 => some r4
noncomputable def Z3v : FnDef := .of Zqy Z9c (Bool) (fun k x => Zby k x.1 x.2.1) Zi1 Zi4 Zk5
noncomputable def Zel : Code := Tryz.f49.body.getD .skip
noncomputable def Z6H : Ctx (Tup Z9c × OutD) := { T := T, G := [(41, Z1p.E), (42, ZX.E), (40, Z7a.E), (82, Z36.E)], mvs := [], no := 0, n := 40, res := resOf T Zqy Z9c Tryz.f49.results.toList, loops := [(0, Z5w.E)], regs := [], conds := [], cuts := [] }
theorem Zrv (k : Nat) : EnvOK Tryz.prog k Z6H.G := (EnvOK.cons (ZgF k) (EnvOK.cons (Zdh k) (EnvOK.cons (ZAt k) (EnvOK.cons (ZBZ k) (EnvOK.nil mixed)))))
noncomputable def Zbi : Code := (findLoop 0 Zel).getD .skip
theorem Zyt (k : Nat) (x : Zfy.D) : Z5w.lp (k + 1) x = loopK Z6H Z5w 0 Zbi k x := by kernel_rfl
theorem Zzl (k : Nat) : LOK Tryz.prog Z6H k Zbi := LOK.by [] (by kernel_rfl) AllOK.nil
theorem Zz6 (x : Zfy.D) : Z5w.lp 0 x = none := by kernel_rfl
theorem ZwD (k : Nat) : EOK Tryz.prog Z6H k Z5w.E (.block 0 (.loop Zbi)) := Z2 T_ok Zrv Zz6 Zyt Zzl k
theorem ZFg (k : Nat) (x : Tup Z3v.ps) : Z3v.f (k + 1) x = fnK Z3v Z6H Zel k x := by kernel_rfl
theorem ZF7 (x : Tup Z3v.ps) : Z3v.f 0 x = none := by kernel_rfl
theorem ZEi (k : Nat) : LOK Tryz.prog Z6H k Zel := LOK.by [(Z5w.E, .block 0 (.loop Zbi))] (by kernel_rfl) (AllOK.cons (ZwD k) AllOK.nil)
theorem Zq9 (k : Nat) : SoundAt Tryz.prog k 49 Z3v.E := @Z0 Tryz.prog Z3v Z6H 49 Tryz.f49 Zel (by kernel_rfl) (by kernel_rfl) (by kernel_rfl) Tryz.func49 (by kernel_rfl) (by kernel_rfl) (by kernel_rfl) T_ok Zrv ZEi ZF7 ZFg k
noncomputable def Z3X : List PK := [PK.mk .bool false none false none]
noncomputable def ZiB : List PK := [PK.mk (.pair I6 (.pair I6 (.slice 76 P6))) true none false none, PK.mk (.slice 3 I6) false none false none]
noncomputable def Zcr (r : Bool) : Tup Z3X × OutD := ((r, ()), none)
noncomputable def ZcF : Tup Z3X × OutD → Option (Bool)
 | (a, none) => some (a.1)
 | _ => none
theorem Zf1 : ∀ b r, ZcF b = some r → Zcr r = b := by
 rintro ⟨a, _ | _⟩ r h <;> cases h; rfl
noncomputable def Z2Z : Nat → Int → Int → List (Int × Int) → List Int → Int → Int → Option (LR Unit Bool)
 | 0, _, _, _, _, _, _ => none
 | k + 1, b1_0, b1_1, b1_2, v15, v16, v17 =>
  if decide (v17 < v16) = true then if (0 : Int) ≤ v17 then if v17 < (↑(List.length v15) : Int) then if decide (List.getD v15 (Int.toNat v17) (0 : Int) < 0) = true then some (LR.ret false) else if decide (List.getD v15 (Int.toNat v17) (0 : Int) ≥ b1_1) = true then some (LR.ret false) else Z2Z k b1_0 b1_1 b1_2 v15 v16 (wrap64 (v17 + 1)) else none else none else some (LR.go ())
noncomputable def ZaU : Spec := Spec.mk [.ro, O0] [(2, .at (.ptr 1 0)), (15, .at (.snap 0 I6)), (16, .at (.int .i64)), (17, .at (.int .i64))]
noncomputable def Zp5 : Spec := Spec.mk [.ro] []
noncomputable def Z2r : LoopDef (Tup Z3X × OutD) := .rets ZaU Zp5 (Unit) (Bool) (fun k x => Z2Z k x.1.2.1.1 x.1.2.1.2.1 x.1.2.1.2.2.1 x.2.2.1 x.2.2.2.1 x.2.2.2.2.1) (fun z => (((), ()), (()))) (fun y => ()) (fun _ => rfl) Zcr ZcF Zf1
noncomputable def Z65 : Nat → Int × Int × List (Int × Int) → List Int → Option Bool
 | 0, _, _ => none
 | k + 1, p0, p1 =>
  Option.bind (Z2q k (p0.1, p0.2.1, p0.2.2)) fun z0 => if (!z0) = true then some false else if decide ((↑(List.length p1) : Int) > 60) = true then some false else Option.bind (Z2Z k p0.1 p0.2.1 p0.2.2 p1 (↑(List.length p1) : Int) (0 : Int)) fun z1 => LR.on z1 (fun y1 => some true) fun r1 => some r1
noncomputable def Z17 : FnDef := .of ZiB Z3X (Bool) (fun k x => Z65 k x.1 x.2.1) Zcr ZcF Zf1
noncomputable def Z9L : Code := Tryz.f58.body.getD .skip
noncomputable def Z2J : Ctx (Tup Z3X × OutD) := { T := T, G := [(38, ZT.E)], mvs := [], no := 0, n := 30, res := resOf T ZiB Z3X Tryz.f58.results.toList, loops := [(0, Z2r.E)], regs := [], conds := [], cuts := [] }
theorem Ziq (k : Nat) : EnvOK Tryz.prog k Z2J.G := (EnvOK.cons (Z6f k) (EnvOK.nil mixed))
noncomputable def Z7l : Code := (findLoop 0 Z9L).getD .skip
theorem Zpc (k : Nat) (x : ZaU.D) : Z2r.lp (k + 1) x = loopK Z2J Z2r 0 Z7l k x := by kernel_rfl
theorem Zpl (k : Nat) : LOK Tryz.prog Z2J k Z7l := LOK.by [] (by kernel_rfl) AllOK.nil
theorem Zpp (x : ZaU.D) : Z2r.lp 0 x = none := by kernel_rfl
theorem Zni (k : Nat) : EOK Tryz.prog Z2J k Z2r.E (.block 0 (.loop Z7l)) := Z2 T_ok Ziq Zpp Zpc Zpl k
theorem Zuu (k : Nat) (x : Tup Z17.ps) : Z17.f (k + 1) x = fnK Z17 Z2J Z9L k x := by kernel_rfl
theorem ZvS (x : Tup Z17.ps) : Z17.f 0 x = none := by kernel_rfl
theorem Zv4 (k : Nat) : LOK Tryz.prog Z2J k Z9L := LOK.by [(Z2r.E, .block 0 (.loop Z7l))] (by kernel_rfl) (AllOK.cons (Zni k) AllOK.nil)
theorem Zis (k : Nat) : SoundAt Tryz.prog k 58 Z17.E := @Z0 Tryz.prog Z17 Z2J 58 Tryz.f58 Z9L (by kernel_rfl) (by kernel_rfl) (by kernel_rfl) Tryz.func58 (by kernel_rfl) (by kernel_rfl) (by kernel_rfl) T_ok Ziq Zv4 ZvS Zuu k
noncomputable def Z4O : List PK := [PK.mk (.slice 40 T6) false none false none, PK.mk (.pair I6 (.pair I6 (.slice 76 P6))) true none false none]
noncomputable def ZjV : List PK := [PK.mk (.pair I6 (.pair I6 (.slice 76 P6))) true none false none, PK.mk (.slice 58 T6) false none false none, PK.mk (.slice 3 I6) false none false none]
noncomputable def Zir (r : List (Int × Int × Int) × Int × Int × List (Int × Int)) : Tup Z4O × OutD := ((r.1, r.2, ()), none)
noncomputable def ZiT : Tup Z4O × OutD → Option (List (Int × Int × Int) × Int × Int × List (Int × Int))
 | (a, none) => some (a.1, a.2.1)
 | _ => none
theorem Zot : ∀ b r, ZiT b = some r → Zir r = b := by
 rintro ⟨a, _ | _⟩ r h <;> cases h; rfl
noncomputable def Z3p : Nat → Int → Int → List (Int × Int) → Int → Int → List (Int × Int) → List Int → List Int → List (Int × Int × Int) → List Int → Int → Int → Option (Int × Int × List (Int × Int) × Int × Int × List (Int × Int) × List (Int × Int × Int))
 | 0, _, _, _, _, _, _, _, _, _, _, _, _ => none
 | k + 1, b1_0, b1_1, o2, b3_0, b3_1, o4, o5, o6, o7, v22, v23, v24 =>
  if decide (v24 < v23) = true then if (0 : Int) ≤ v24 then if v24 < (↑(List.length v22) : Int) then Option.bind (Zb2 k (b3_0, b3_1, o4) o5 o6 (List.getD v22 (Int.toNat v24) (0 : Int))) fun z3 => if List.length o7 + List.length [(z3.1.1, z3.1.2.1, z3.1.2.2)] ≤ (140737488355328 / 24 : Nat) then Z3p k b1_0 b1_1 o2 b3_0 b3_1 z3.2 o5 o6 (o7 ++ [(z3.1.1, z3.1.2.1, z3.1.2.2)]) v22 v23 (wrap64 (v24 + 1)) else none else none else none else some (b1_0, b1_1, o2, b3_0, b3_1, o4, o7)
noncomputable def Zbr : Spec := Spec.mk [.ro, O7, O2, O6, O2, O4, O4, Oh] [(7, .at (.ptr 1 0)), (8, .at (.ptr 3 0)), (9, .at (.sl 5)), (10, .at (.sl 6)), (11, .at (.sl 7)), (22, .at (.snap 0 I6)), (23, .at (.int .i64)), (24, .at (.int .i64))]
noncomputable def Zrn : Spec := Spec.mk [.ro, O7, O2, O6, O2, Oh] [(7, .at (.ptr 1 0)), (8, .at (.ptr 3 0)), (11, .at (.sl 5))]
noncomputable def Z2R : LoopDef (Tup Z4O × OutD) := .plain Zbr Zrn (Int × Int × List (Int × Int) × Int × Int × List (Int × Int) × List (Int × Int × Int)) (fun k x => Z3p k x.1.2.1.1 x.1.2.1.2.1 x.1.2.2.1 x.1.2.2.2.1.1 x.1.2.2.2.1.2.1 x.1.2.2.2.2.1 x.1.2.2.2.2.2.1 x.1.2.2.2.2.2.2.1 x.1.2.2.2.2.2.2.2.1 x.2.2.2.2.2.2.1 x.2.2.2.2.2.2.2.1 x.2.2.2.2.2.2.2.2.1) (fun z => (((), (z.1, z.2.1, (), ()), z.2.2.1, (z.2.2.2.1, z.2.2.2.2.1, (), ()), z.2.2.2.2.2.1, z.2.2.2.2.2.2, ()), ((), (), (), ()))) (fun y => (y.1.2.1.1, y.1.2.1.2.1, y.1.2.2.1, y.1.2.2.2.1.1, y.1.2.2.2.1.2.1, y.1.2.2.2.2.1, y.1.2.2.2.2.2.1)) (fun _ => rfl)
noncomputable def Z7x : Nat → Int × Int × List (Int × Int) → List (Int × Int × Int) → List Int → Option (List (Int × Int × Int) × Int × Int × List (Int × Int))
 | 0, _, _, _ => none
 | k + 1, p0, p1, p2 =>
  Option.bind (Z37 k (p0.1, p0.2.1, p0.2.2)) fun z0 => Option.bind (Z14 k (p0.1, p0.2.1, p0.2.2)) fun z1 => Option.bind (Z9F k (p0.1, p0.2.1, p0.2.2) p1) fun z2 => Option.bind (Z3p k (0 : Int) (0 : Int) [] z0.1 z0.2.1 z0.2.2 z1 z2 [] p2 (↑(List.length p2) : Int) (0 : Int)) fun z4 => some (z4.2.2.2.2.2.2, z4.2.2.2.1, z4.2.2.2.2.1, z4.2.2.2.2.2.1)
noncomputable def Z1k : FnDef := .of ZjV Z4O (List (Int × Int × Int) × Int × Int × List (Int × Int)) (fun k x => Z7x k x.1 x.2.1 x.2.2.1) Zir ZiT Zot
noncomputable def Zak : Code := Tryz.f59.body.getD .skip
noncomputable def Z39 : Ctx (Tup Z4O × OutD) := { T := T, G := [(41, Z1p.E), (42, ZX.E), (93, Z1y.E), (94, Z2w.E)], mvs := [], no := 0, n := 39, res := resOf T ZjV Z4O Tryz.f59.results.toList, loops := [(0, Z2R.E)], regs := [], conds := [], cuts := [] }
theorem ZjM (k : Nat) : EnvOK Tryz.prog k Z39.G := (EnvOK.cons (ZgF k) (EnvOK.cons (Zdh k) (EnvOK.cons (Zvx k) (EnvOK.cons (ZzU k) (EnvOK.nil mixed)))))
noncomputable def Z7S : Code := (findLoop 0 Zak).getD .skip
theorem ZrT (k : Nat) (x : Zbr.D) : Z2R.lp (k + 1) x = loopK Z39 Z2R 0 Z7S k x := by kernel_rfl
theorem ZrD (k : Nat) : LOK Tryz.prog Z39 k Z7S := LOK.by [] (by kernel_rfl) AllOK.nil
theorem Zry (x : Zbr.D) : Z2R.lp 0 x = none := by kernel_rfl
theorem ZpD (k : Nat) : EOK Tryz.prog Z39 k Z2R.E (.block 0 (.loop Z7S)) := Z2 T_ok ZjM Zry ZrT ZrD k
theorem Zxb (k : Nat) (x : Tup Z1k.ps) : Z1k.f (k + 1) x = fnK Z1k Z39 Zak k x := by kernel_rfl
theorem Zxw (x : Tup Z1k.ps) : Z1k.f 0 x = none := by kernel_rfl
theorem Zx8 (k : Nat) : LOK Tryz.prog Z39 k Zak := LOK.by [(Z2R.E, .block 0 (.loop Z7S))] (by kernel_rfl) (AllOK.cons (ZpD k) AllOK.nil)
theorem Zk3 (k : Nat) : SoundAt Tryz.prog k 59 Z1k.E := @Z0 Tryz.prog Z1k Z39 59 Tryz.f59 Zak (by kernel_rfl) (by kernel_rfl) (by kernel_rfl) Tryz.func59 (by kernel_rfl) (by kernel_rfl) (by kernel_rfl) T_ok ZjM Zx8 Zxw Zxb k
noncomputable def Z1Z : List PK := [PK.mk (.slice 58 T6) false none false none]
noncomputable def Zha : List PK := [PK.mk (.pair I6 (.pair I6 (.slice 76 P6))) true none false none]
noncomputable def ZfD (r : List (Int × Int × Int)) : Tup Z1Z × OutD := ((r, ()), none)
noncomputable def ZfC : Tup Z1Z × OutD → Option (List (Int × Int × Int))
 | (a, none) => some (a.1)
 | _ => none
theorem Zlk : ∀ b r, ZfC b = some r → ZfD r = b := by
 rintro ⟨a, _ | _⟩ r h <;> cases h; rfl
noncomputable def ZE : Nat → Int → Int → List (Int × Int) → List (Int × Int × Int) → Int → Int → Int → Int → List (Int × Int) → Int → Int → Option (Int × Int × List (Int × Int) × List (Int × Int × Int) × List (Int × Int) × Int × Int)
 | 0, _, _, _, _, _, _, _, _, _, _, _ => none
 | k + 1, b1_0, b1_1, b1_2, o2, b3_0, b3_1, v4, v6, v9, v10, v11 =>
  if decide (v6 ≤ 3) = true then Option.bind (ZbP k (b3_0, b3_1) v6) fun z0 => if z0 = true then if b1_1 = 0 then none else if b1_1 = 0 then none else if List.length o2 + List.length [(v6, wrap64 (Int.tdiv v4 b1_1), Int.tmod v4 b1_1)] ≤ (140737488355328 / 24 : Nat) then ZE k b1_0 b1_1 b1_2 (o2 ++ [(v6, wrap64 (Int.tdiv v4 b1_1), Int.tmod v4 b1_1)]) b3_0 b3_1 v4 (wrap64 (v6 + 1)) v9 v10 v11 else none else ZE k b1_0 b1_1 b1_2 o2 b3_0 b3_1 v4 (wrap64 (v6 + 1)) v9 v10 v11 else some (b1_0, b1_1, b1_2, o2, v9, v10, v11)
noncomputable def Z9q : Spec := Spec.mk [.ro, O0, Oc, Of] [(1, .at (.ptr 1 0)), (3, .at (.sl 2)), (4, .at (.int .i64)), (5, .at (.ptr 3 0)), (6, .at (.int .i64)), (9, .at (.snap 0 P6)), (10, .at (.int .i64)), (11, .at (.int .i64))]
noncomputable def ZlZ : Spec := Spec.mk [.ro, O0, Oc] [(1, .at (.ptr 1 0)), (3, .at (.sl 2)), (9, .at (.snap 0 P6)), (10, .at (.int .i64)), (11, .at (.int .i64))]
noncomputable def Z1T : LoopDef (Tup Z1Z × OutD) := .plain Z9q ZlZ (Int × Int × List (Int × Int) × List (Int × Int × Int) × List (Int × Int) × Int × Int) (fun k x => ZE k x.1.2.1.1 x.1.2.1.2.1 x.1.2.1.2.2.1 x.1.2.2.1 x.1.2.2.2.1.1 x.1.2.2.2.1.2.1 x.2.2.2.1 x.2.2.2.2.2.1 x.2.2.2.2.2.2.1 x.2.2.2.2.2.2.2.1 x.2.2.2.2.2.2.2.2.1) (fun z => (((), (z.1, z.2.1, z.2.2.1, ()), z.2.2.2.1, ()), ((), (), z.2.2.2.2.1, z.2.2.2.2.2.1, z.2.2.2.2.2.2, ()))) (fun y => (y.1.2.1.1, y.1.2.1.2.1, y.1.2.1.2.2.1, y.1.2.2.1, y.2.2.2.1, y.2.2.2.2.1, y.2.2.2.2.2.1)) (fun _ => rfl)
noncomputable def Z1h : Nat → Int → Int → List (Int × Int) → List (Int × Int × Int) → List (Int × Int) → Int → Int → Option (List (Int × Int × Int))
 | 0, _, _, _, _, _, _, _ => none
 | k + 1, b1_0, b1_1, b1_2, o2, v9, v10, v11 =>
  if decide (v11 < v10) = true then if (0 : Int) ≤ v11 then if v11 < (↑(List.length v9) : Int) then Option.bind (ZE k b1_0 b1_1 b1_2 o2 (Prod.fst (List.getD v9 (Int.toNat v11) ((0 : Int), (0 : Int)))) (Prod.snd (List.getD v9 (Int.toNat v11) ((0 : Int), (0 : Int)))) v11 (1 : Int) v9 v10 v11) fun z1 => Z1h k z1.1 z1.2.1 z1.2.2.1 z1.2.2.2.1 z1.2.2.2.2.1 z1.2.2.2.2.2.1 (wrap64 (z1.2.2.2.2.2.2 + 1)) else none else none else some o2
noncomputable def Z9i : Spec := Spec.mk [.ro, O0, Oc] [(1, .at (.ptr 1 0)), (3, .at (.sl 2)), (9, .at (.snap 0 P6)), (10, .at (.int .i64)), (11, .at (.int .i64))]
noncomputable def ZmD : Spec := Spec.mk [.ro, Oc] [(3, .at (.sl 1))]
noncomputable def Z1S : LoopDef (Tup Z1Z × OutD) := .plain Z9i ZmD (List (Int × Int × Int)) (fun k x => Z1h k x.1.2.1.1 x.1.2.1.2.1 x.1.2.1.2.2.1 x.1.2.2.1 x.2.2.2.1 x.2.2.2.2.1 x.2.2.2.2.2.1) (fun z => (((), z, ()), ((), ()))) (fun y => (y.1.2.1)) (fun _ => rfl)
noncomputable def Z7H : Nat → Int × Int × List (Int × Int) → Option (List (Int × Int × Int))
 | 0, _ => none
 | k + 1, p0 =>
  Option.bind (Z1h k p0.1 p0.2.1 p0.2.2 [] p0.2.2 (↑(List.length p0.2.2) : Int) (0 : Int)) fun z2 => some z2
noncomputable def Z19 : FnDef := .of Zha Z1Z (List (Int × Int × Int)) (fun k x => Z7H k x.1) ZfD ZfC Zlk
noncomputable def Z4G : Code := Tryz.f86.body.getD .skip
noncomputable def ZC : Ctx (Tup Z1Z × OutD) := { T := T, G := [(91, Z3i.E)], mvs := [], no := 0, n := 38, res := resOf T Zha Z1Z Tryz.f86.results.toList, loops := [(2, Z1T.E), (0, Z1S.E)], regs := [], conds := [], cuts := [] }
theorem Zbn (k : Nat) : EnvOK Tryz.prog k ZC.G := (EnvOK.cons (ZrC k) (EnvOK.nil mixed))
noncomputable def Z55 : Code := (findLoop 2 Z4G).getD .skip
theorem Zmf (k : Nat) (x : Z9q.D) : Z1T.lp (k + 1) x = loopK ZC Z1T 2 Z55 k x := by kernel_rfl
theorem ZlU (k : Nat) : LOK Tryz.prog ZC k Z55 := LOK.by [] (by kernel_rfl) AllOK.nil
theorem Zm3 (x : Z9q.D) : Z1T.lp 0 x = none := by kernel_rfl
theorem Zli (k : Nat) : EOK Tryz.prog ZC k Z1T.E (.block 2 (.loop Z55)) := Z2 T_ok Zbn Zm3 Zmf ZlU k
noncomputable def Z53 : Code := (findLoop 0 Z4G).getD .skip
theorem Zmz (k : Nat) (x : Z9i.D) : Z1S.lp (k + 1) x = loopK ZC Z1S 0 Z53 k x := by kernel_rfl
theorem ZlR (k : Nat) : LOK Tryz.prog ZC k Z53 := LOK.by [(Z1T.E, .block 2 (.loop Z55))] (by kernel_rfl) (AllOK.cons (Zli k) AllOK.nil)
theorem ZmH (x : Z9i.D) : Z1S.lp 0 x = none := by kernel_rfl
theorem Zlj (k : Nat) : EOK Tryz.prog ZC k Z1S.E (.block 0 (.loop Z53)) := Z2 T_ok Zbn ZmH Zmz ZlR k
theorem Zrh (k : Nat) (x : Tup Z19.ps) : Z19.f (k + 1) x = fnK Z19 ZC Z4G k x := by kernel_rfl
theorem ZqV (x : Tup Z19.ps) : Z19.f 0 x = none := by kernel_rfl
theorem ZrF (k : Nat) : LOK Tryz.prog ZC k Z4G := LOK.by [(Z1S.E, .block 0 (.loop Z53))] (by kernel_rfl) (AllOK.cons (Zlj k) AllOK.nil)
theorem Zrp (k : Nat) : SoundAt Tryz.prog k 86 Z19.E := @Z0 Tryz.prog Z19 ZC 86 Tryz.f86 Z4G (by kernel_rfl) (by kernel_rfl) (by kernel_rfl) Tryz.func86 (by kernel_rfl) (by kernel_rfl) (by kernel_rfl) T_ok Zbn ZrF ZqV Zrh k
noncomputable def Zbu : List PK := [PK.mk .bool false none false none]
noncomputable def Zqv : List PK := [PK.mk (.pair I6 (.pair I6 (.slice 76 P6))) true none false none]
noncomputable def Zo6 (r : Bool) : Tup Zbu × OutD := ((r, ()), none)
noncomputable def Zog : Tup Zbu × OutD → Option (Bool)
 | (a, none) => some (a.1)
 | _ => none
theorem Zwl : ∀ b r, Zog b = some r → Zo6 r = b := by
 rintro ⟨a, _ | _⟩ r h <;> cases h; rfl
noncomputable def Zen : Nat → Int × Int × List (Int × Int) → Option Bool
 | 0, _ => none
 | k + 1, p0 =>
  Option.bind (Zgg k (p0.1, p0.2.1, p0.2.2)) fun z0 => if z0 = true then some (decide ((↑(List.length p0.2.2) : Int) ≤ 24)) else some false
noncomputable def Z4B : FnDef := .of Zqv Zbu (Bool) (fun k x => Zen k x.1) Zo6 Zog Zwl
noncomputable def Zj8 : Code := Tryz.f87.body.getD .skip
noncomputable def Zep : Ctx (Tup Zbu × OutD) := { T := T, G := [(110, Z5J.E)], mvs := [], no := 0, n := 11, res := resOf T Zqv Zbu Tryz.f87.results.toList, loops := [], regs := [], conds := [], cuts := [] }
theorem ZEY (k : Nat) : EnvOK Tryz.prog k Zep.G := (EnvOK.cons (ZGN k) (EnvOK.nil mixed))
theorem ZEn (k : Nat) (x : Tup Z4B.ps) : Z4B.f (k + 1) x = fnK Z4B Zep Zj8 k x := by kernel_rfl
theorem ZE0 (x : Tup Z4B.ps) : Z4B.f 0 x = none := by kernel_rfl
theorem ZEd (k : Nat) : LOK Tryz.prog Zep k Zj8 := LOK.by [] (by kernel_rfl) AllOK.nil
theorem ZEs (k : Nat) : SoundAt Tryz.prog k 87 Z4B.E := @Z0 Tryz.prog Z4B Zep 87 Tryz.f87 Zj8 (by kernel_rfl) (by kernel_rfl) (by kernel_rfl) Tryz.func87 (by kernel_rfl) (by kernel_rfl) (by kernel_rfl) T_ok ZEY ZEd ZE0 ZEn k
noncomputable def ZbT : List PK := [PK.mk .bool false none false none]
noncomputable def Zq0 : List PK := [PK.mk (.pair I6 (.pair I6 (.slice 76 P6))) true none false none, PK.mk I6 false none false none, PK.mk I6 false none false none]
noncomputable def Znq (r : Bool) : Tup ZbT × OutD := ((r, ()), none)
noncomputable def Zo4 : Tup ZbT × OutD → Option (Bool)
 | (a, none) => some (a.1)
 | _ => none
theorem Zw4 : ∀ b r, Zo4 b = some r → Znq r = b := by
 rintro ⟨a, _ | _⟩ r h <;> cases h; rfl
noncomputable def ZeD : Nat → Int × Int × List (Int × Int) → Int → Int → Option Bool
 | 0, _, _, _ => none
 | k + 1, p0, p1, p2 =>
  Option.bind (Z2q k (p0.1, p0.2.1, p0.2.2)) fun z0 => if z0 = true then if decide (p1 ≥ 0) = true then if decide (p1 < p0.1) = true then if decide (p2 ≥ 0) = true then some (decide (p2 < p0.2.1)) else some false else some false else some false else some false
noncomputable def Z4Y : FnDef := .of Zq0 ZbT (Bool) (fun k x => ZeD k x.1 x.2.1 x.2.2.1) Znq Zo4 Zw4
noncomputable def Zjo : Code := Tryz.f90.body.getD .skip
noncomputable def Zex : Ctx (Tup ZbT × OutD) := { T := T, G := [(38, ZT.E)], mvs := [], no := 0, n := 29, res := resOf T Zq0 ZbT Tryz.f90.results.toList, loops := [], regs := [], conds := [], cuts := [] }
theorem ZFr (k : Nat) : EnvOK Tryz.prog k Zex.G := (EnvOK.cons (Z6f k) (EnvOK.nil mixed))
theorem ZFa (k : Nat) (x : Tup Z4Y.ps) : Z4Y.f (k + 1) x = fnK Z4Y Zex Zjo k x := by kernel_rfl
theorem ZFF (x : Tup Z4Y.ps) : Z4Y.f 0 x = none := by kernel_rfl
theorem ZE6 (k : Nat) : LOK Tryz.prog Zex k Zjo := LOK.by [] (by kernel_rfl) AllOK.nil
theorem ZEC (k : Nat) : SoundAt Tryz.prog k 90 Z4Y.E := @Z0 Tryz.prog Z4Y Zex 90 Tryz.f90 Zjo (by kernel_rfl) (by kernel_rfl) (by kernel_rfl) Tryz.func90 (by kernel_rfl) (by kernel_rfl) (by kernel_rfl) T_ok ZFr ZE6 ZFF ZFa k
noncomputable def Z9p : List PK := [PK.mk T6 true none false none, PK.mk (.pair I6 (.pair I6 (.slice 76 P6))) true none false none]
noncomputable def Zxp : List PK := [PK.mk (.pair I6 (.pair I6 (.slice 76 P6))) true none false none, PK.mk I6 false none false none]
noncomputable def ZtS (r : (Int × Int × Int) × Int × Int × List (Int × Int)) : Tup Z9p × OutD := ((r.1, r.2, ()), none)
noncomputable def ZtZ : Tup Z9p × OutD → Option ((Int × Int × Int) × Int × Int × List (Int × Int))
 | (a, none) => some (a.1, a.2.1)
 | _ => none
theorem ZB2 : ∀ b r, ZtZ b = some r → ZtS r = b := by
 rintro ⟨a, _ | _⟩ r h <;> cases h; rfl
noncomputable def Z80 : Nat → Int → Int → List (Int × Int) → Int → Int → Int → Int → Int → List (Int × Int) → Int → Option (Int × Int × Int × Int × Int × List (Int × Int) × Int × Int × Int × Int × Int × List (Int × Int)) := fun k b1_0 b1_1 b1_2 b2_0 b2_1 b2_2 b3_0 b3_1 o4 v1 =>
  Option.bind (ZP k (b1_0, b1_1, b1_2)) fun z0 => Option.bind (Z1q k (b1_0, b1_1, b1_2) z0 v1) fun z1 => some (b2_0, b2_1, b2_2, b3_0, b3_1, o4, z1.1.1, z1.1.2.1, z1.1.2.2, z1.2.1.1, z1.2.1.2.1, z1.2.1.2.2)
noncomputable def ZcA : Nat → Int → Int → List (Int × Int) → Int → Int → Int → Int → Int → List (Int × Int) → Int → Option (List (Int × Int × Int × Int × Int × List (Int × Int) × Int × Int × Int × Int × Int × List (Int × Int))) := fun k b1_0 b1_1 b1_2 b2_0 b2_1 b2_2 b3_0 b3_1 o4 v1 =>
  joinL (Option.bind (ZP k (b1_0, b1_1, b1_2)) fun z2 => joinL (Option.bind (Z1q k (b1_0, b1_1, b1_2) z2 v1) fun z3 => joinL (some [(b2_0, b2_1, b2_2, b3_0, b3_1, o4, z3.1.1, z3.1.2.1, z3.1.2.2, z3.2.1.1, z3.2.1.2.1, z3.2.1.2.2)]) (some [(b2_0, b2_1, b2_2, b3_0, b3_1, o4, z3.1.1, z3.1.2.1, z3.1.2.2, z3.2.1.1, z3.2.1.2.1, z3.2.1.2.2)])) (joinL (joinL (Option.bind (Z1q k (b1_0, b1_1, b1_2) z2 v1) fun z4 => some [(b2_0, b2_1, b2_2, b3_0, b3_1, o4, z4.1.1, z4.1.2.1, z4.1.2.2, z4.2.1.1, z4.2.1.2.1, z4.2.1.2.2)]) (Option.bind (Z1q k (b1_0, b1_1, b1_2) z2 v1) fun z5 => some [(b2_0, b2_1, b2_2, b3_0, b3_1, o4, z5.1.1, z5.1.2.1, z5.1.2.2, z5.2.1.1, z5.2.1.2.1, z5.2.1.2.2)])) (joinL (Option.bind (Z1q k (b1_0, b1_1, b1_2) z2 v1) fun z6 => some [(b2_0, b2_1, b2_2, b3_0, b3_1, o4, z6.1.1, z6.1.2.1, z6.1.2.2, z6.2.1.1, z6.2.1.2.1, z6.2.1.2.2)]) (Option.bind (Z1q k (b1_0, b1_1, b1_2) z2 v1) fun z7 => some [(b2_0, b2_1, b2_2, b3_0, b3_1, o4, z7.1.1, z7.1.2.1, z7.1.2.2, z7.2.1.1, z7.2.1.2.1, z7.2.1.2.2)])))) (joinL (joinL (Option.bind (ZP k (b1_0, b1_1, b1_2)) fun z8 => joinL (Option.bind (Z1q k (b1_0, b1_1, b1_2) z8 v1) fun z9 => some [(b2_0, b2_1, b2_2, b3_0, b3_1, o4, z9.1.1, z9.1.2.1, z9.1.2.2, z9.2.1.1, z9.2.1.2.1, z9.2.1.2.2)]) (Option.bind (Z1q k (b1_0, b1_1, b1_2) z8 v1) fun z10 => some [(b2_0, b2_1, b2_2, b3_0, b3_1, o4, z10.1.1, z10.1.2.1, z10.1.2.2, z10.2.1.1, z10.2.1.2.1, z10.2.1.2.2)])) (Option.bind (ZP k (b1_0, b1_1, b1_2)) fun z11 => Option.bind (Z1q k (b1_0, b1_1, b1_2) z11 v1) fun z12 => some [(b2_0, b2_1, b2_2, b3_0, b3_1, o4, z12.1.1, z12.1.2.1, z12.1.2.2, z12.2.1.1, z12.2.1.2.1, z12.2.1.2.2)])) (joinL (Option.bind (ZP k (b1_0, b1_1, b1_2)) fun z13 => joinL (Option.bind (Z1q k (b1_0, b1_1, b1_2) z13 v1) fun z14 => some [(b2_0, b2_1, b2_2, b3_0, b3_1, o4, z14.1.1, z14.1.2.1, z14.1.2.2, z14.2.1.1, z14.2.1.2.1, z14.2.1.2.2)]) (Option.bind (Z1q k (b1_0, b1_1, b1_2) z13 v1) fun z15 => some [(b2_0, b2_1, b2_2, b3_0, b3_1, o4, z15.1.1, z15.1.2.1, z15.1.2.2, z15.2.1.1, z15.2.1.2.1, z15.2.1.2.2)])) (Option.bind (ZP k (b1_0, b1_1, b1_2)) fun z16 => Option.bind (Z1q k (b1_0, b1_1, b1_2) z16 v1) fun z17 => some [(b2_0, b2_1, b2_2, b3_0, b3_1, o4, z17.1.1, z17.1.2.1, z17.1.2.2, z17.2.1.1, z17.2.1.2.1, z17.2.1.2.2)])))
noncomputable def Zmx : Spec := Spec.mk [.ro, O0, O3, O6, O2] [(1, .at (.int .i64)), (2, .at (.ptr 1 0)), (4, .at (.ptr 2 0)), (5, .at (.ptr 3 0))]
noncomputable def ZCG : Spec := Spec.mk [.ro, O3, O5, O2, O3, O8, O2] [(4, .at (.ptr 1 0)), (5, .at (.ptr 2 0)), (6, .at (.ptr 4 0)), (7, .at (.ptr 5 0))]
noncomputable def Z6z : LoopDef (Tup Z9p × OutD) := .plain Zmx ZCG (Int × Int × Int × Int × Int × List (Int × Int) × Int × Int × Int × Int × Int × List (Int × Int)) (fun k x => Z80 k x.1.2.1.1 x.1.2.1.2.1 x.1.2.1.2.2.1 x.1.2.2.1.1 x.1.2.2.1.2.1 x.1.2.2.1.2.2.1 x.1.2.2.2.1.1 x.1.2.2.2.1.2.1 x.1.2.2.2.2.1 x.2.1) (fun z => (((), (z.1, z.2.1, z.2.2.1, ()), (z.2.2.2.1, z.2.2.2.2.1, (), ()), z.2.2.2.2.2.1, (z.2.2.2.2.2.2.1, z.2.2.2.2.2.2.2.1, z.2.2.2.2.2.2.2.2.1, ()), (z.2.2.2.2.2.2.2.2.2.1, z.2.2.2.2.2.2.2.2.2.2.1, (), ()), z.2.2.2.2.2.2.2.2.2.2.2, ()), ((), (), (), (), ()))) (fun y => (y.1.2.1.1, y.1.2.1.2.1, y.1.2.1.2.2.1, y.1.2.2.1.1, y.1.2.2.1.2.1, y.1.2.2.2.1, y.1.2.2.2.2.1.1, y.1.2.2.2.2.1.2.1, y.1.2.2.2.2.1.2.2.1, y.1.2.2.2.2.2.1.1, y.1.2.2.2.2.2.1.2.1, y.1.2.2.2.2.2.2.1)) (fun _ => rfl)
theorem ZBM (k : Nat) (b1_0 : Int) (b1_1 : Int) (b1_2 : List (Int × Int)) (b2_0 : Int) (b2_1 : Int) (b2_2 : Int) (b3_0 : Int) (b3_1 : Int) (o4 : List (Int × Int)) (v1 : Int) : ZcA k b1_0 b1_1 b1_2 b2_0 b2_1 b2_2 b3_0 b3_1 o4 v1 = repl 12 (Z80 k b1_0 b1_1 b1_2 b2_0 b2_1 b2_2 b3_0 b3_1 o4 v1) := by
 first
 | (simp only [ZcA, Z80, Zj, Zv, Zl, Zi, Zk, Z4, if_true]; done)
 | (simp only [ZcA, Z80, Zj, Zv, Zl, Zi, Zk, Z4, if_true]; simp only [Z28, Z2b, Z4s, Z4]; simp only [Z6A]; exact Z3b ⟨fun h => by simp only [h, and_self], fun h => by simp only [h, and_self]⟩)
noncomputable def Z83 : Nat → Int → Int → Int → Int → Int → List (Int × Int) → Int → Int → Int → Int → Int → List (Int × Int) → Option (Int × Int × Int × Int × Int × List (Int × Int)) := fun k b1_0 b1_1 b1_2 b2_0 b2_1 o3 b4_0 b4_1 b4_2 b5_0 b5_1 o6 =>
  some (b4_0, b4_1, b4_2, b5_0, b5_1, o6)
noncomputable def Zcl : Nat → Int → Int → Int → Int → Int → List (Int × Int) → Int → Int → Int → Int → Int → List (Int × Int) → Option (List (Int × Int × Int × Int × Int × List (Int × Int))) := fun k b1_0 b1_1 b1_2 b2_0 b2_1 o3 b4_0 b4_1 b4_2 b5_0 b5_1 o6 =>
  joinL (some [(b4_0, b4_1, b4_2, b5_0, b5_1, o6)]) (some [(b4_0, b4_1, b4_2, b5_0, b5_1, o6)])
noncomputable def Zlt : Spec := Spec.mk [.ro, O3, O5, O2, O3, O8, O2] [(4, .at (.ptr 1 0)), (5, .at (.ptr 2 0)), (6, .at (.ptr 4 0)), (7, .at (.ptr 5 0))]
noncomputable def ZBn : Spec := Spec.mk [.ro, O3, O5, O2] [(4, .at (.ptr 1 0)), (5, .at (.ptr 2 0))]
noncomputable def Z6e : LoopDef (Tup Z9p × OutD) := .plain Zlt ZBn (Int × Int × Int × Int × Int × List (Int × Int)) (fun k x => Z83 k x.1.2.1.1 x.1.2.1.2.1 x.1.2.1.2.2.1 x.1.2.2.1.1 x.1.2.2.1.2.1 x.1.2.2.2.1 x.1.2.2.2.2.1.1 x.1.2.2.2.2.1.2.1 x.1.2.2.2.2.1.2.2.1 x.1.2.2.2.2.2.1.1 x.1.2.2.2.2.2.1.2.1 x.1.2.2.2.2.2.2.1) (fun z => (((), (z.1, z.2.1, z.2.2.1, ()), (z.2.2.2.1, z.2.2.2.2.1, (), ()), z.2.2.2.2.2, ()), ((), (), ()))) (fun y => (y.1.2.1.1, y.1.2.1.2.1, y.1.2.1.2.2.1, y.1.2.2.1.1, y.1.2.2.1.2.1, y.1.2.2.2.1)) (fun _ => rfl)
theorem ZCb (k : Nat) (b1_0 : Int) (b1_1 : Int) (b1_2 : Int) (b2_0 : Int) (b2_1 : Int) (o3 : List (Int × Int)) (b4_0 : Int) (b4_1 : Int) (b4_2 : Int) (b5_0 : Int) (b5_1 : Int) (o6 : List (Int × Int)) : Zcl k b1_0 b1_1 b1_2 b2_0 b2_1 o3 b4_0 b4_1 b4_2 b5_0 b5_1 o6 = repl 2 (Z83 k b1_0 b1_1 b1_2 b2_0 b2_1 o3 b4_0 b4_1 b4_2 b5_0 b5_1 o6) := by
 first
 | (simp only [Zcl, Z83, Zj, Zv, Zl, Zi, Zk, Z4, if_true]; done)
 | (simp only [Zcl, Z83, Zj, Zv, Zl, Zi, Zk, Z4, if_true]; simp only [Z28, Z2b, Z4s, Z4]; simp only [Z6A]; exact Z3b ⟨fun h => by simp only [h, and_self], fun h => by simp only [h, and_self]⟩)
noncomputable def ZhZ : Nat → Int × Int × List (Int × Int) → Int → Option ((Int × Int × Int) × Int × Int × List (Int × Int))
 | 0, _, _ => none
 | k + 1, p0, p1 =>
  Option.bind (Z80 k p0.1 p0.2.1 p0.2.2 (0 : Int) (0 : Int) (0 : Int) (0 : Int) (0 : Int) [] p1) fun z18 => Option.bind (Z83 k z18.1 z18.2.1 z18.2.2.1 z18.2.2.2.1 z18.2.2.2.2.1 z18.2.2.2.2.2.1 z18.2.2.2.2.2.2.1 z18.2.2.2.2.2.2.2.1 z18.2.2.2.2.2.2.2.2.1 z18.2.2.2.2.2.2.2.2.2.1 z18.2.2.2.2.2.2.2.2.2.2.1 z18.2.2.2.2.2.2.2.2.2.2.2) fun z19 => some ((z19.1, z19.2.1, z19.2.2.1), z19.2.2.2.1, z19.2.2.2.2.1, z19.2.2.2.2.2)
noncomputable def Z7w : FnDef := .of Zxp Z9p ((Int × Int × Int) × Int × Int × List (Int × Int)) (fun k x => ZhZ k x.1 x.2.1) ZtS ZtZ ZB2
noncomputable def Ze6 : Code := Tryz.f107.body.getD .skip
noncomputable def ZZ : Ctx (Tup Z9p × OutD) := { T := T, G := [(125, Z2M.E), (124, Z8R.E)], mvs := [], no := 0, n := 20, res := resOf T Zxp Z9p Tryz.f107.results.toList, loops := [], regs := [(1, Z6z.E), (2, Z6e.E)], conds := [], cuts := [] }
theorem ZlK (k : Nat) : EnvOK Tryz.prog k ZZ.G := (EnvOK.cons (Zor k) (EnvOK.cons (ZJy k) (EnvOK.nil mixed)))
noncomputable def Zgp : Array Oper := (findReg 1 Ze6).getD #[]
theorem ZC3 (k : Nat) (x : Zmx.D) : execD ZZ.T ZZ.G ZZ.mvs k Zgp (Z6z.inp.st ZZ.n x) (outK ZZ Z6z) = ZcA k x.1.2.1.1 x.1.2.1.2.1 x.1.2.1.2.2.1 x.1.2.2.1.1 x.1.2.2.1.2.1 x.1.2.2.1.2.2.1 x.1.2.2.2.1.1 x.1.2.2.2.1.2.1 x.1.2.2.2.2.1 x.2.1 := by kernel_rfl
theorem ZyS (k : Nat) : EOK Tryz.prog ZZ k Z6z.E (.region 1 Zgp true) := Z8o (D := Z6z) (m := 12) T_ok (ZlK k) (fun x => (ZC3 k x).trans (ZBM k x.1.2.1.1 x.1.2.1.2.1 x.1.2.1.2.2.1 x.1.2.2.1.1 x.1.2.2.1.2.1 x.1.2.2.1.2.2.1 x.1.2.2.2.1.1 x.1.2.2.2.1.2.1 x.1.2.2.2.2.1 x.2.1))
noncomputable def Zgo : Array Oper := (findReg 2 Ze6).getD #[]
theorem ZBY (k : Nat) (x : Zlt.D) : execD ZZ.T ZZ.G ZZ.mvs k Zgo (Z6e.inp.st ZZ.n x) (outK ZZ Z6e) = Zcl k x.1.2.1.1 x.1.2.1.2.1 x.1.2.1.2.2.1 x.1.2.2.1.1 x.1.2.2.1.2.1 x.1.2.2.2.1 x.1.2.2.2.2.1.1 x.1.2.2.2.2.1.2.1 x.1.2.2.2.2.1.2.2.1 x.1.2.2.2.2.2.1.1 x.1.2.2.2.2.2.1.2.1 x.1.2.2.2.2.2.2.1 := by kernel_rfl
theorem Zzk (k : Nat) : EOK Tryz.prog ZZ k Z6e.E (.region 2 Zgo true) := Z8o (D := Z6e) (m := 2) T_ok (ZlK k) (fun x => (ZBY k x).trans (ZCb k x.1.2.1.1 x.1.2.1.2.1 x.1.2.1.2.2.1 x.1.2.2.1.1 x.1.2.2.1.2.1 x.1.2.2.2.1 x.1.2.2.2.2.1.1 x.1.2.2.2.2.1.2.1 x.1.2.2.2.2.1.2.2.1 x.1.2.2.2.2.2.1.1 x.1.2.2.2.2.2.1.2.1 x.1.2.2.2.2.2.2.1))
theorem ZI5 (k : Nat) (x : Tup Z7w.ps) : Z7w.f (k + 1) x = fnK Z7w ZZ Ze6 k x := by kernel_rfl
theorem ZIv (x : Tup Z7w.ps) : Z7w.f 0 x = none := by kernel_rfl
theorem ZI3 (k : Nat) : LOK Tryz.prog ZZ k Ze6 := LOK.by [(Z6z.E, .region 1 Zgp true), (Z6e.E, .region 2 Zgo true)] (by kernel_rfl) (AllOK.cons (ZyS k) (AllOK.cons (Zzk k) AllOK.nil))
theorem ZIa (k : Nat) : SoundAt Tryz.prog k 107 Z7w.E := @Z0 Tryz.prog Z7w ZZ 107 Tryz.f107 Ze6 (by kernel_rfl) (by kernel_rfl) (by kernel_rfl) Tryz.func107 (by kernel_rfl) (by kernel_rfl) (by kernel_rfl) T_ok ZlK ZI3 ZIv ZI5 k
noncomputable def Z9x : List PK := [PK.mk (.slice 40 T6) false none false none, PK.mk (.pair I6 (.pair I6 (.slice 76 P6))) true none false none]
noncomputable def ZwV : List PK := [PK.mk (.pair I6 (.pair I6 (.slice 76 P6))) true none false none, PK.mk (.slice 58 T6) false none false none, PK.mk (.slice 3 I6) false none false none]
noncomputable def Ztk (r : List (Int × Int × Int) × Int × Int × List (Int × Int)) : Tup Z9x × OutD := ((r.1, r.2, ()), none)
noncomputable def Ztg : Tup Z9x × OutD → Option (List (Int × Int × Int) × Int × Int × List (Int × Int))
 | (a, none) => some (a.1, a.2.1)
 | _ => none
theorem ZAM : ∀ b r, Ztg b = some r → Ztk r = b := by
 rintro ⟨a, _ | _⟩ r h <;> cases h; rfl
noncomputable def Z5c : Nat → Int → Int → List (Int × Int) → Int → Int → List (Int × Int) → List (Int × Int × Int) → List Int → Option (Int × Int × List (Int × Int) × Int × Int × List (Int × Int) × List Int × List (Int × Int × Int) × List Int) := fun k b1_0 b1_1 b1_2 b2_0 b2_1 o3 v1 v2 =>
  Option.bind (Z7u k (b1_0, b1_1, b1_2)) fun z0 => Option.bind (ZP k (b1_0, b1_1, b1_2)) fun z1 => some (b2_0, b2_1, o3, z0.1, z0.2.1, z0.2.2, z1, v1, v2)
noncomputable def Zcb : Nat → Int → Int → List (Int × Int) → Int → Int → List (Int × Int) → List (Int × Int × Int) → List Int → Option (List (Int × Int × List (Int × Int) × Int × Int × List (Int × Int) × List Int × List (Int × Int × Int) × List Int)) := fun k b1_0 b1_1 b1_2 b2_0 b2_1 o3 v1 v2 =>
  joinL (Option.bind (Z7u k (b1_0, b1_1, b1_2)) fun z2 => joinL (Option.bind (ZP k (b1_0, b1_1, b1_2)) fun z3 => some [(b2_0, b2_1, o3, z2.1, z2.2.1, z2.2.2, z3, v1, v2)]) (Option.bind (ZP k (b1_0, b1_1, b1_2)) fun z4 => some [(b2_0, b2_1, o3, z2.1, z2.2.1, z2.2.2, z4, v1, v2)])) (Option.bind (Z7u k (b1_0, b1_1, b1_2)) fun z5 => Option.bind (ZP k (b1_0, b1_1, b1_2)) fun z6 => some [(b2_0, b2_1, o3, z5.1, z5.2.1, z5.2.2, z6, v1, v2)])
noncomputable def Zlq : Spec := Spec.mk [.ro, O0, O5, O2] [(1, .at (.snap 0 T6)), (2, .at (.snap 0 I6)), (3, .at (.ptr 1 0)), (7, .at (.ptr 2 0))]
noncomputable def ZBi : Spec := Spec.mk [.ro, O7, O2, O6, O2, O4] [(1, .at (.snap 0 T6)), (2, .at (.snap 0 I6)), (7, .at (.ptr 1 0)), (8, .at (.ptr 3 0)), (9, .at (.sl 5))]
noncomputable def Z6K : LoopDef (Tup Z9x × OutD) := .plain Zlq ZBi (Int × Int × List (Int × Int) × Int × Int × List (Int × Int) × List Int × List (Int × Int × Int) × List Int) (fun k x => Z5c k x.1.2.1.1 x.1.2.1.2.1 x.1.2.1.2.2.1 x.1.2.2.1.1 x.1.2.2.1.2.1 x.1.2.2.2.1 x.2.1 x.2.2.1) (fun z => (((), (z.1, z.2.1, (), ()), z.2.2.1, (z.2.2.2.1, z.2.2.2.2.1, (), ()), z.2.2.2.2.2.1, z.2.2.2.2.2.2.1, ()), (z.2.2.2.2.2.2.2.1, z.2.2.2.2.2.2.2.2, (), (), (), ()))) (fun y => (y.1.2.1.1, y.1.2.1.2.1, y.1.2.2.1, y.1.2.2.2.1.1, y.1.2.2.2.1.2.1, y.1.2.2.2.2.1, y.1.2.2.2.2.2.1, y.2.1, y.2.2.1)) (fun _ => rfl)
theorem ZAD (k : Nat) (b1_0 : Int) (b1_1 : Int) (b1_2 : List (Int × Int)) (b2_0 : Int) (b2_1 : Int) (o3 : List (Int × Int)) (v1 : List (Int × Int × Int)) (v2 : List Int) : Zcb k b1_0 b1_1 b1_2 b2_0 b2_1 o3 v1 v2 = repl 3 (Z5c k b1_0 b1_1 b1_2 b2_0 b2_1 o3 v1 v2) := by
 first
 | (simp only [Zcb, Z5c, Zj, Zv, Zl, Zi, Zk, Z4, if_true]; done)
 | (simp only [Zcb, Z5c, Zj, Zv, Zl, Zi, Zk, Z4, if_true]; simp only [Z28, Z2b, Z4s, Z4]; simp only [Z6A]; exact Z3b ⟨fun h => by simp only [h, and_self], fun h => by simp only [h, and_self]⟩)
noncomputable def Z93 : Nat → Int → Int → List (Int × Int) → Int → Int → List (Int × Int) → List Int → List (Int × Int × Int) → List (Int × Int × Int) → List Int → Int → Int → Option (Int × Int × List (Int × Int) × Int × Int × List (Int × Int) × List (Int × Int × Int))
 | 0, _, _, _, _, _, _, _, _, _, _, _, _ => none
 | k + 1, b1_0, b1_1, o2, b3_0, b3_1, o4, o5, o6, v1, v19, v20, v21 =>
  if decide (v21 < v20) = true then if (0 : Int) ≤ v21 then if v21 < (↑(List.length v19) : Int) then Option.bind (ZjD k (b3_0, b3_1, o4) o5 v1 (List.getD v19 (Int.toNat v21) (0 : Int))) fun z8 => if List.length o6 + List.length [(z8.1.1, z8.1.2.1, z8.1.2.2)] ≤ (140737488355328 / 24 : Nat) then Z93 k b1_0 b1_1 o2 z8.2.1 z8.2.2.1 z8.2.2.2 o5 (o6 ++ [(z8.1.1, z8.1.2.1, z8.1.2.2)]) v1 v19 v20 (wrap64 (v21 + 1)) else none else none else none else some (b1_0, b1_1, o2, b3_0, b3_1, o4, o6)
noncomputable def Zhp : Spec := Spec.mk [.ro, O7, O2, O6, O2, O4, Oh] [(1, .at (.snap 0 T6)), (7, .at (.ptr 1 0)), (8, .at (.ptr 3 0)), (9, .at (.sl 5)), (10, .at (.sl 6)), (19, .at (.snap 0 I6)), (20, .at (.int .i64)), (21, .at (.int .i64))]
noncomputable def ZDT : Spec := Spec.mk [.ro, O7, O2, O6, O2, Oh] [(7, .at (.ptr 1 0)), (8, .at (.ptr 3 0)), (10, .at (.sl 5))]
noncomputable def Z7Q : LoopDef (Tup Z9x × OutD) := .plain Zhp ZDT (Int × Int × List (Int × Int) × Int × Int × List (Int × Int) × List (Int × Int × Int)) (fun k x => Z93 k x.1.2.1.1 x.1.2.1.2.1 x.1.2.2.1 x.1.2.2.2.1.1 x.1.2.2.2.1.2.1 x.1.2.2.2.2.1 x.1.2.2.2.2.2.1 x.1.2.2.2.2.2.2.1 x.2.1 x.2.2.2.2.2.2.1 x.2.2.2.2.2.2.2.1 x.2.2.2.2.2.2.2.2.1) (fun z => (((), (z.1, z.2.1, (), ()), z.2.2.1, (z.2.2.2.1, z.2.2.2.2.1, (), ()), z.2.2.2.2.2.1, z.2.2.2.2.2.2, ()), ((), (), (), ()))) (fun y => (y.1.2.1.1, y.1.2.1.2.1, y.1.2.2.1, y.1.2.2.2.1.1, y.1.2.2.2.1.2.1, y.1.2.2.2.2.1, y.1.2.2.2.2.2.1)) (fun _ => rfl)
noncomputable def ZhJ : Nat → Int × Int × List (Int × Int) → List (Int × Int × Int) → List Int → Option (List (Int × Int × Int) × Int × Int × List (Int × Int))
 | 0, _, _, _ => none
 | k + 1, p0, p1, p2 =>
  Option.bind (Z5c k p0.1 p0.2.1 p0.2.2 (0 : Int) (0 : Int) [] p1 p2) fun z7 => Option.bind (Z93 k z7.1 z7.2.1 z7.2.2.1 z7.2.2.2.1 z7.2.2.2.2.1 z7.2.2.2.2.2.1 z7.2.2.2.2.2.2.1 [] z7.2.2.2.2.2.2.2.1 z7.2.2.2.2.2.2.2.2 (↑(List.length z7.2.2.2.2.2.2.2.2) : Int) (0 : Int)) fun z9 => some (z9.2.2.2.2.2.2, z9.2.2.2.1, z9.2.2.2.2.1, z9.2.2.2.2.2.1)
noncomputable def Z7s : FnDef := .of ZwV Z9x (List (Int × Int × Int) × Int × Int × List (Int × Int)) (fun k x => ZhJ k x.1 x.2.1 x.2.2.1) Ztk Ztg ZAM
noncomputable def Zea : Code := Tryz.f112.body.getD .skip
noncomputable def Z1W : Ctx (Tup Z9x × OutD) := { T := T, G := [(126, Z4b.E), (125, Z2M.E), (127, Z8S.E)], mvs := [], no := 0, n := 41, res := resOf T ZwV Z9x Tryz.f112.results.toList, loops := [(0, Z7Q.E)], regs := [(1, Z6K.E)], conds := [], cuts := [] }
theorem ZlG (k : Nat) : EnvOK Tryz.prog k Z1W.G := (EnvOK.cons (ZmB k) (EnvOK.cons (Zor k) (EnvOK.cons (ZJi k) (EnvOK.nil mixed))))
noncomputable def ZgJ : Array Oper := (findReg 1 Zea).getD #[]
theorem ZCK (k : Nat) (x : Zlq.D) : execD Z1W.T Z1W.G Z1W.mvs k ZgJ (Z6K.inp.st Z1W.n x) (outK Z1W Z6K) = Zcb k x.1.2.1.1 x.1.2.1.2.1 x.1.2.1.2.2.1 x.1.2.2.1.1 x.1.2.2.1.2.1 x.1.2.2.2.1 x.2.1 x.2.2.1 := by kernel_rfl
theorem ZyM (k : Nat) : EOK Tryz.prog Z1W k Z6K.E (.region 1 ZgJ true) := Z8o (D := Z6K) (m := 3) T_ok (ZlG k) (fun x => (ZCK k x).trans (ZAD k x.1.2.1.1 x.1.2.1.2.1 x.1.2.1.2.2.1 x.1.2.2.1.1 x.1.2.2.1.2.1 x.1.2.2.2.1 x.2.1 x.2.2.1))
noncomputable def Zdz : Code := (findLoop 0 Zea).getD .skip
theorem ZCT (k : Nat) (x : Zhp.D) : Z7Q.lp (k + 1) x = loopK Z1W Z7Q 0 Zdz k x := by kernel_rfl
theorem ZCQ (k : Nat) : LOK Tryz.prog Z1W k Zdz := LOK.by [] (by kernel_rfl) AllOK.nil
theorem ZDE (x : Zhp.D) : Z7Q.lp 0 x = none := by kernel_rfl
theorem ZB9 (k : Nat) : EOK Tryz.prog Z1W k Z7Q.E (.block 0 (.loop Zdz)) := Z2 T_ok ZlG ZDE ZCT ZCQ k
theorem ZIl (k : Nat) (x : Tup Z7s.ps) : Z7s.f (k + 1) x = fnK Z7s Z1W Zea k x := by kernel_rfl
theorem ZIz (x : Tup Z7s.ps) : Z7s.f 0 x = none := by kernel_rfl
theorem ZI8 (k : Nat) : LOK Tryz.prog Z1W k Zea := LOK.by [(Z6K.E, .region 1 ZgJ true), (Z7Q.E, .block 0 (.loop Zdz))] (by kernel_rfl) (AllOK.cons (ZyM k) (AllOK.cons (ZB9 k) AllOK.nil))
theorem ZIG (k : Nat) : SoundAt Tryz.prog k 112 Z7s.E := @Z0 Tryz.prog Z7s Z1W 112 Tryz.f112 Zea (by kernel_rfl) (by kernel_rfl) (by kernel_rfl) Tryz.func112 (by kernel_rfl) (by kernel_rfl) (by kernel_rfl) T_ok ZlG ZI8 ZIz ZIl k
end
end
section
noncomputable section
noncomputable def Z5Q : List PK := [PK.mk (.pair I6 (.pair I6 (.slice 76 P6))) true none false none, PK.mk I6 false none false none, PK.mk .bool false none false none]
noncomputable def ZiC : List PK := [PK.mk (.pair I6 (.slice 3 I6)) true none false none]
noncomputable def Zhn (r : (Int × Int × List (Int × Int)) × Int × Bool) : Tup Z5Q × OutD := ((r.1, r.2.1, r.2.2, ()), none)
noncomputable def ZhT : Tup Z5Q × OutD → Option ((Int × Int × List (Int × Int)) × Int × Bool)
 | (a, none) => some (a.1, a.2.1, a.2.2.1)
 | _ => none
theorem Zne : ∀ b r, ZhT b = some r → Zhn r = b := by
 rintro ⟨a, _ | _⟩ r h <;> cases h; rfl
noncomputable def Z9T : Nat → Int × List Int → Option ((Int × Int × List (Int × Int)) × Int × Bool)
 | 0, _ => none
 | k + 1, p0 =>
  Option.bind (ZeG k (p0.1, p0.2)) fun z0 => if (!z0) = true then some (((0 : Int), (0 : Int), []), (0 : Int), false) else Option.bind (ZbG k (p0.1, p0.2)) fun z1 => Option.bind (ZbS k (p0.1, p0.2)) fun z2 => some ((z1.1, z1.2.1, z1.2.2), z2, true)
noncomputable def Z1z : FnDef := .of ZiC Z5Q ((Int × Int × List (Int × Int)) × Int × Bool) (fun k x => Z9T k x.1) Zhn ZhT Zne
noncomputable def Zdr : Code := Tryz.f6.body.getD .skip
noncomputable def Z9S : Ctx (Tup Z5Q × OutD) := { T := T, G := [(32, Z4L.E), (33, Z4M.E), (34, Z4U.E)], mvs := [], no := 0, n := 13, res := resOf T ZiC Z5Q Tryz.f6.results.toList, loops := [], regs := [], conds := [], cuts := [] }
theorem ZuG (k : Nat) : EnvOK Tryz.prog k Z9S.G := (EnvOK.cons (ZE3 k) (EnvOK.cons (ZFz k) (EnvOK.cons (ZE5 k) (EnvOK.nil mixed))))
theorem ZvF (k : Nat) (x : Tup Z1z.ps) : Z1z.f (k + 1) x = fnK Z1z Z9S Zdr k x := by kernel_rfl
theorem Zuv (x : Tup Z1z.ps) : Z1z.f 0 x = none := by kernel_rfl
theorem ZuQ (k : Nat) : LOK Tryz.prog Z9S k Zdr := LOK.by [] (by kernel_rfl) AllOK.nil
theorem Zvz (k : Nat) : SoundAt Tryz.prog k 6 Z1z.E := @Z0 Tryz.prog Z1z Z9S 6 Tryz.f6 Zdr (by kernel_rfl) (by kernel_rfl) (by kernel_rfl) Tryz.func6 (by kernel_rfl) (by kernel_rfl) (by kernel_rfl) T_ok ZuG ZuQ Zuv ZvF k
noncomputable def Zaa : List PK := [PK.mk T6 true none false none, PK.mk .bool false none false none]
noncomputable def Zue : List PK := [PK.mk (.pair I6 (.pair I6 (.slice 76 P6))) true none false none, PK.mk I6 false none false none]
noncomputable def Zr7 (r : (Int × Int × Int) × Bool) : Tup Zaa × OutD := ((r.1, r.2, ()), none)
noncomputable def ZrX : Tup Zaa × OutD → Option ((Int × Int × Int) × Bool)
 | (a, none) => some (a.1, a.2.1)
 | _ => none
theorem ZzK : ∀ b r, ZrX b = some r → Zr7 r = b := by
 rintro ⟨a, _ | _⟩ r h <;> cases h; rfl
noncomputable def Z69 : Nat → Int → Int → List (Int × Int) → Int → Int → Int → Int → Option (Int × Int × Int × Int × Int × Int) := fun k b1_0 b1_1 b1_2 b2_0 b2_1 b2_2 v1 =>
  Option.bind (Z37 k (b1_0, b1_1, b1_2)) fun z1 => Option.bind (Z14 k (b1_0, b1_1, b1_2)) fun z2 => Option.bind (Z73 k (z1.1, z1.2.1, z1.2.2) z2 v1) fun z3 => some (b2_0, b2_1, b2_2, z3.1.1, z3.1.2.1, z3.1.2.2)
noncomputable def Zbj : Nat → Int → Int → List (Int × Int) → Int → Int → Int → Int → Option (List (Int × Int × Int × Int × Int × Int)) := fun k b1_0 b1_1 b1_2 b2_0 b2_1 b2_2 v1 =>
  joinL (Option.bind (Z37 k (b1_0, b1_1, b1_2)) fun z4 => joinL (Option.bind (Z14 k (b1_0, b1_1, b1_2)) fun z5 => joinL (Option.bind (Z73 k (z4.1, z4.2.1, z4.2.2) z5 v1) fun z6 => some [(b2_0, b2_1, b2_2, z6.1.1, z6.1.2.1, z6.1.2.2)]) (Option.bind (Z73 k (z4.1, z4.2.1, z4.2.2) z5 v1) fun z7 => some [(b2_0, b2_1, b2_2, z7.1.1, z7.1.2.1, z7.1.2.2)])) (Option.bind (Z14 k (b1_0, b1_1, b1_2)) fun z8 => Option.bind (Z73 k (z4.1, z4.2.1, z4.2.2) z8 v1) fun z9 => some [(b2_0, b2_1, b2_2, z9.1.1, z9.1.2.1, z9.1.2.2)])) (Option.bind (Z37 k (b1_0, b1_1, b1_2)) fun z10 => Option.bind (Z14 k (b1_0, b1_1, b1_2)) fun z11 => Option.bind (Z73 k (z10.1, z10.2.1, z10.2.2) z11 v1) fun z12 => some [(b2_0, b2_1, b2_2, z12.1.1, z12.1.2.1, z12.1.2.2)])
noncomputable def Zl1 : Spec := Spec.mk [.ro, O0, O3] [(1, .at (.int .i64)), (2, .at (.ptr 1 0)), (4, .at (.ptr 2 0))]
noncomputable def ZyK : Spec := Spec.mk [.ro, O3, O3] [(4, .at (.ptr 1 0)), (6, .at (.ptr 2 0))]
noncomputable def Z5n : LoopDef (Tup Zaa × OutD) := .plain Zl1 ZyK (Int × Int × Int × Int × Int × Int) (fun k x => Z69 k x.1.2.1.1 x.1.2.1.2.1 x.1.2.1.2.2.1 x.1.2.2.1.1 x.1.2.2.1.2.1 x.1.2.2.1.2.2.1 x.2.1) (fun z => (((), (z.1, z.2.1, z.2.2.1, ()), (z.2.2.2.1, z.2.2.2.2.1, z.2.2.2.2.2, ()), ()), ((), (), ()))) (fun y => (y.1.2.1.1, y.1.2.1.2.1, y.1.2.1.2.2.1, y.1.2.2.1.1, y.1.2.2.1.2.1, y.1.2.2.1.2.2.1)) (fun _ => rfl)
theorem ZzW (k : Nat) (b1_0 : Int) (b1_1 : Int) (b1_2 : List (Int × Int)) (b2_0 : Int) (b2_1 : Int) (b2_2 : Int) (v1 : Int) : Zbj k b1_0 b1_1 b1_2 b2_0 b2_1 b2_2 v1 = repl 4 (Z69 k b1_0 b1_1 b1_2 b2_0 b2_1 b2_2 v1) := by
 first
 | (simp only [Zbj, Z69, Zj, Zv, Zl, Zi, Zk, Z4, if_true]; done)
 | (simp only [Zbj, Z69, Zj, Zv, Zl, Zi, Zk, Z4, if_true]; simp only [Z28, Z2b, Z4s, Z4]; simp only [Z6A]; exact Z3b ⟨fun h => by simp only [h, and_self], fun h => by simp only [h, and_self]⟩)
noncomputable def ZcQ : Nat → Int × Int × List (Int × Int) → Int → Option ((Int × Int × Int) × Bool)
 | 0, _, _ => none
 | k + 1, p0, p1 =>
  Option.bind (Zb6 k (p0.1, p0.2.1, p0.2.2) p1) fun z0 => if (!z0) = true then some (((0 : Int), (0 : Int), (0 : Int)), false) else Option.bind (Z69 k p0.1 p0.2.1 p0.2.2 (0 : Int) (0 : Int) (0 : Int) p1) fun z13 => some ((z13.2.2.2.1, z13.2.2.2.2.1, z13.2.2.2.2.2), true)
noncomputable def Z4k : FnDef := .of Zue Zaa ((Int × Int × Int) × Bool) (fun k x => ZcQ k x.1 x.2.1) Zr7 ZrX ZzK
noncomputable def ZfT : Code := Tryz.f11.body.getD .skip
noncomputable def Z3e : Ctx (Tup Zaa × OutD) := { T := T, G := [(39, Z2y.E), (41, Z1p.E), (42, ZX.E), (40, Z7a.E)], mvs := [], no := 0, n := 23, res := resOf T Zue Zaa Tryz.f11.results.toList, loops := [], regs := [(3, Z5n.E)], conds := [], cuts := [] }
theorem Ztq (k : Nat) : EnvOK Tryz.prog k Z3e.G := (EnvOK.cons (ZzQ k) (EnvOK.cons (ZgF k) (EnvOK.cons (Zdh k) (EnvOK.cons (ZAt k) (EnvOK.nil mixed)))))
noncomputable def Zfh : Array Oper := (findReg 3 ZfT).getD #[]
theorem ZyN (k : Nat) (x : Zl1.D) : execD Z3e.T Z3e.G Z3e.mvs k Zfh (Z5n.inp.st Z3e.n x) (outK Z3e Z5n) = Zbj k x.1.2.1.1 x.1.2.1.2.1 x.1.2.1.2.2.1 x.1.2.2.1.1 x.1.2.2.1.2.1 x.1.2.2.1.2.2.1 x.2.1 := by kernel_rfl
theorem Zwf (k : Nat) : EOK Tryz.prog Z3e k Z5n.E (.region 3 Zfh true) := Z8o (D := Z5n) (m := 4) T_ok (Ztq k) (fun x => (ZyN k x).trans (ZzW k x.1.2.1.1 x.1.2.1.2.1 x.1.2.1.2.2.1 x.1.2.2.1.1 x.1.2.2.1.2.1 x.1.2.2.1.2.2.1 x.2.1))
theorem ZHo (k : Nat) (x : Tup Z4k.ps) : Z4k.f (k + 1) x = fnK Z4k Z3e ZfT k x := by kernel_rfl
theorem ZGW (x : Tup Z4k.ps) : Z4k.f 0 x = none := by kernel_rfl
theorem ZHe (k : Nat) : LOK Tryz.prog Z3e k ZfT := LOK.by [(Z5n.E, .region 3 Zfh true)] (by kernel_rfl) (AllOK.cons (Zwf k) AllOK.nil)
theorem ZtF (k : Nat) : SoundAt Tryz.prog k 11 Z4k.E := @Z0 Tryz.prog Z4k Z3e 11 Tryz.f11 ZfT (by kernel_rfl) (by kernel_rfl) (by kernel_rfl) Tryz.func11 (by kernel_rfl) (by kernel_rfl) (by kernel_rfl) T_ok Ztq ZHe ZGW ZHo k
noncomputable def Z2X : List PK := [PK.mk .bool false none false none, PK.mk .bool false none false none]
noncomputable def ZgT : List PK := [PK.mk (.pair I6 (.pair I6 (.pair (.slice 76 P6) (.pair (.slice 3 I6) (.slice 3 I6))))) true none false none, PK.mk (.pair I6 (.pair I6 (.slice 76 P6))) true none false none]
noncomputable def ZaX (r : Bool × Bool) : Tup Z2X × OutD := ((r.1, r.2, ()), none)
noncomputable def Zb1 : Tup Z2X × OutD → Option (Bool × Bool)
 | (a, none) => some (a.1, a.2.1)
 | _ => none
theorem ZdB : ∀ b r, Zb1 b = some r → ZaX r = b := by
 rintro ⟨a, _ | _⟩ r h <;> cases h; rfl
noncomputable def Z1g : Nat → Int → Int → List (Int × Int) → List Int → List Int → Int → Int → List (Int × Int) → List (Int × Int) → Int → Int → Option (LR (Int × Int × List (Int × Int) × List Int × List Int × Int × Int × List (Int × Int)) (Bool × Bool))
 | 0, _, _, _, _, _, _, _, _, _, _, _ => none
 | k + 1, b1_0, b1_1, b1_2, b1_3, b1_4, b2_0, b2_1, b2_2, v29, v30, v31 =>
  if decide (v31 < v30) = true then if (0 : Int) ≤ v31 then if v31 < (↑(List.length v29) : Int) then if decide (Prod.fst (List.getD v29 (Int.toNat v31) ((0 : Int), (0 : Int))) ≠ 0) = true then Option.bind (ZI k b1_2 (Prod.fst (List.getD v29 (Int.toNat v31) ((0 : Int), (0 : Int))), Prod.snd (List.getD v29 (Int.toNat v31) ((0 : Int), (0 : Int))))) fun z2 => if (!z2) = true then some (LR.ret (false, true)) else Z1g k b1_0 b1_1 b1_2 b1_3 b1_4 b2_0 b2_1 b2_2 v29 v30 (wrap64 (v31 + 1)) else Z1g k b1_0 b1_1 b1_2 b1_3 b1_4 b2_0 b2_1 b2_2 v29 v30 (wrap64 (v31 + 1)) else none else none else some (LR.go (b1_0, b1_1, b1_2, b1_3, b1_4, b2_0, b2_1, b2_2))
noncomputable def Z9h : Spec := Spec.mk [.ro, O1, O0] [(2, .at (.ptr 1 0)), (3, .at (.ptr 2 0)), (29, .at (.snap 0 P6)), (30, .at (.int .i64)), (31, .at (.int .i64))]
noncomputable def Zmc : Spec := Spec.mk [.ro, O1, O0] [(2, .at (.ptr 1 0)), (3, .at (.ptr 2 0))]
noncomputable def Z1Q : LoopDef (Tup Z2X × OutD) := .rets Z9h Zmc (Int × Int × List (Int × Int) × List Int × List Int × Int × Int × List (Int × Int)) (Bool × Bool) (fun k x => Z1g k x.1.2.1.1 x.1.2.1.2.1 x.1.2.1.2.2.1 x.1.2.1.2.2.2.1 x.1.2.1.2.2.2.2.1 x.1.2.2.1.1 x.1.2.2.1.2.1 x.1.2.2.1.2.2.1 x.2.2.2.1 x.2.2.2.2.1 x.2.2.2.2.2.1) (fun z => (((), (z.1, z.2.1, z.2.2.1, z.2.2.2.1, z.2.2.2.2.1, ()), (z.2.2.2.2.2.1, z.2.2.2.2.2.2.1, z.2.2.2.2.2.2.2, ()), ()), ((), (), ()))) (fun y => (y.1.2.1.1, y.1.2.1.2.1, y.1.2.1.2.2.1, y.1.2.1.2.2.2.1, y.1.2.1.2.2.2.2.1, y.1.2.2.1.1, y.1.2.2.1.2.1, y.1.2.2.1.2.2.1)) (fun _ => rfl) ZaX Zb1 ZdB
noncomputable def Z7G : Nat → Int × Int × List (Int × Int) × List Int × List Int → Int × Int × List (Int × Int) → Option (Bool × Bool)
 | 0, _, _ => none
 | k + 1, p0, p1 =>
  Option.bind (Z35 k (p0.1, p0.2.1, p0.2.2.1, p0.2.2.2.1, p0.2.2.2.2)) fun z0 => if (!z0) = true then some (false, false) else Option.bind (Z2q k (p1.1, p1.2.1, p1.2.2)) fun z1 => if (!z1) = true then some (false, false) else if decide (p1.1 ≠ p0.1) = true then some (false, true) else if decide (p1.2.1 ≠ p0.2.1) = true then some (false, true) else Option.bind (Z1g k p0.1 p0.2.1 p0.2.2.1 p0.2.2.2.1 p0.2.2.2.2 p1.1 p1.2.1 p1.2.2 p1.2.2 (↑(List.length p1.2.2) : Int) (0 : Int)) fun z3 => LR.on z3 (fun y3 => Option.bind (Zby k (y3.1, y3.2.1, y3.2.2.1, y3.2.2.2.1, y3.2.2.2.2.1) (y3.2.2.2.2.2.1, y3.2.2.2.2.2.2.1, y3.2.2.2.2.2.2.2)) fun z4 => some (z4, true)) fun r3 => some r3
noncomputable def Z1b : FnDef := .of ZgT Z2X (Bool × Bool) (fun k x => Z7G k x.1 x.2.1) ZaX Zb1 ZdB
noncomputable def Z7E : Code := Tryz.f14.body.getD .skip
noncomputable def Z1N : Ctx (Tup Z2X × OutD) := { T := T, G := [(43, ZO.E), (38, ZT.E), (48, Z9.E), (49, Z3v.E)], mvs := [], no := 0, n := 49, res := resOf T ZgT Z2X Tryz.f14.results.toList, loops := [(0, Z1Q.E)], regs := [], conds := [], cuts := [] }
theorem Zh0 (k : Nat) : EnvOK Tryz.prog k Z1N.G := (EnvOK.cons (Zai k) (EnvOK.cons (Z6f k) (EnvOK.cons (Z6U k) (EnvOK.cons (Zq9 k) (EnvOK.nil mixed)))))
noncomputable def Z57 : Code := (findLoop 0 Z7E).getD .skip
theorem Zmg (k : Nat) (x : Z9h.D) : Z1Q.lp (k + 1) x = loopK Z1N Z1Q 0 Z57 k x := by kernel_rfl
theorem ZlP (k : Nat) : LOK Tryz.prog Z1N k Z57 := LOK.by [] (by kernel_rfl) AllOK.nil
theorem Zmi (x : Z9h.D) : Z1Q.lp 0 x = none := by kernel_rfl
theorem Zlm (k : Nat) : EOK Tryz.prog Z1N k Z1Q.E (.block 0 (.loop Z57)) := Z2 T_ok Zh0 Zmi Zmg ZlP k
theorem Zqs (k : Nat) (x : Tup Z1b.ps) : Z1b.f (k + 1) x = fnK Z1b Z1N Z7E k x := by kernel_rfl
theorem Zq7 (x : Tup Z1b.ps) : Z1b.f 0 x = none := by kernel_rfl
theorem ZqD (k : Nat) : LOK Tryz.prog Z1N k Z7E := LOK.by [(Z1Q.E, .block 0 (.loop Z57))] (by kernel_rfl) (AllOK.cons (Zlm k) AllOK.nil)
theorem ZpX (k : Nat) : SoundAt Tryz.prog k 14 Z1b.E := @Z0 Tryz.prog Z1b Z1N 14 Tryz.f14 Z7E (by kernel_rfl) (by kernel_rfl) (by kernel_rfl) Tryz.func14 (by kernel_rfl) (by kernel_rfl) (by kernel_rfl) T_ok Zh0 ZqD Zq7 Zqs k
noncomputable def Zac : List PK := [PK.mk .bool false none false none]
noncomputable def Zu7 : List PK := [PK.mk (.pair I6 (.pair I6 (.slice 76 P6))) true none false none, PK.mk (.slice 3 I6) false none false none, PK.mk (.slice 40 T6) false none false none]
noncomputable def Zj4 (r : Bool) : Tup Zac × OutD := ((r, ()), none)
noncomputable def Zjq : Tup Zac × OutD → Option (Bool)
 | (a, none) => some (a.1)
 | _ => none
theorem Zlb : ∀ b r, Zjq b = some r → Zj4 r = b := by
 rintro ⟨a, _ | _⟩ r h <;> cases h; rfl
noncomputable def Z7R : Nat → Int → Int → List (Int × Int) → List (Int × Int × Int) → Int → Int → Option (LR Unit Bool)
 | 0, _, _, _, _, _, _ => none
 | k + 1, b1_0, b1_1, b1_2, v31, v32, v33 =>
  if decide (v33 < v32) = true then if (0 : Int) ≤ v33 then if v33 < (↑(List.length v31) : Int) then if decide (Prod.fst (List.getD v31 (Int.toNat v33) ((0 : Int), (0 : Int), (0 : Int))) < 1) = true then some (LR.ret false) else if decide (Prod.fst (List.getD v31 (Int.toNat v33) ((0 : Int), (0 : Int), (0 : Int))) > 3) = true then some (LR.ret false) else if decide (Prod.fst (Prod.snd (List.getD v31 (Int.toNat v33) ((0 : Int), (0 : Int), (0 : Int)))) < 0) = true then some (LR.ret false) else if decide (Prod.fst (Prod.snd (List.getD v31 (Int.toNat v33) ((0 : Int), (0 : Int), (0 : Int)))) > b1_0) = true then some (LR.ret false) else if decide (Prod.snd (Prod.snd (List.getD v31 (Int.toNat v33) ((0 : Int), (0 : Int), (0 : Int)))) < (-1 : Int)) = true then some (LR.ret false) else if decide (Prod.snd (Prod.snd (List.getD v31 (Int.toNat v33) ((0 : Int), (0 : Int), (0 : Int)))) > b1_1) = true then some (LR.ret false) else Z7R k b1_0 b1_1 b1_2 v31 v32 (wrap64 (v33 + 1)) else none else none else some (LR.go ())
noncomputable def Zgv : Spec := Spec.mk [.ro, O0] [(3, .at (.ptr 1 0)), (31, .at (.snap 0 T6)), (32, .at (.int .i64)), (33, .at (.int .i64))]
noncomputable def ZBG : Spec := Spec.mk [.ro] []
noncomputable def Z6l : LoopDef (Tup Zac × OutD) := .rets Zgv ZBG (Unit) (Bool) (fun k x => Z7R k x.1.2.1.1 x.1.2.1.2.1 x.1.2.1.2.2.1 x.2.2.1 x.2.2.2.1 x.2.2.2.2.1) (fun z => (((), ()), (()))) (fun y => ()) (fun _ => rfl) Zj4 Zjq Zlb
noncomputable def ZcU : Nat → Int × Int × List (Int × Int) → List Int → List (Int × Int × Int) → Option Bool
 | 0, _, _, _ => none
 | k + 1, p0, p1, p2 =>
  Option.bind (Z65 k (p0.1, p0.2.1, p0.2.2) p1) fun z0 => if (!z0) = true then some false else if decide ((↑(List.length p0.2.2) : Int) > 24) = true then some false else if decide ((↑(List.length p1) : Int) > 20) = true then some false else if decide ((↑(List.length p2) : Int) ≠ (↑(List.length p1) : Int)) = true then some false else Option.bind (Z7R k p0.1 p0.2.1 p0.2.2 p2 (↑(List.length p2) : Int) (0 : Int)) fun z1 => LR.on z1 (fun y1 => some true) fun r1 => some r1
noncomputable def Z4m : FnDef := .of Zu7 Zac (Bool) (fun k x => ZcU k x.1 x.2.1 x.2.2.1) Zj4 Zjq Zlb
noncomputable def ZfZ : Code := Tryz.f52.body.getD .skip
noncomputable def Z8j : Ctx (Tup Zac × OutD) := { T := T, G := [(58, Z17.E)], mvs := [], no := 0, n := 70, res := resOf T Zu7 Zac Tryz.f52.results.toList, loops := [(0, Z6l.E)], regs := [], conds := [], cuts := [] }
theorem Ztp (k : Nat) : EnvOK Tryz.prog k Z8j.G := (EnvOK.cons (Zis k) (EnvOK.nil mixed))
noncomputable def Zcx : Code := (findLoop 0 ZfZ).getD .skip
theorem ZBs (k : Nat) (x : Zgv.D) : Z6l.lp (k + 1) x = loopK Z8j Z6l 0 Zcx k x := by kernel_rfl
theorem ZAZ (k : Nat) : LOK Tryz.prog Z8j k Zcx := LOK.by [] (by kernel_rfl) AllOK.nil
theorem ZCw (x : Zgv.D) : Z6l.lp 0 x = none := by kernel_rfl
theorem ZzG (k : Nat) : EOK Tryz.prog Z8j k Z6l.E (.block 0 (.loop Zcx)) := Z2 T_ok Ztp ZCw ZBs ZAZ k
theorem ZGv (k : Nat) (x : Tup Z4m.ps) : Z4m.f (k + 1) x = fnK Z4m Z8j ZfZ k x := by kernel_rfl
theorem ZHl (x : Tup Z4m.ps) : Z4m.f 0 x = none := by kernel_rfl
theorem ZHs (k : Nat) : LOK Tryz.prog Z8j k ZfZ := LOK.by [(Z6l.E, .block 0 (.loop Zcx))] (by kernel_rfl) (AllOK.cons (ZzG k) AllOK.nil)
theorem ZtL (k : Nat) : SoundAt Tryz.prog k 52 Z4m.E := @Z0 Tryz.prog Z4m Z8j 52 Tryz.f52 ZfZ (by kernel_rfl) (by kernel_rfl) (by kernel_rfl) Tryz.func52 (by kernel_rfl) (by kernel_rfl) (by kernel_rfl) T_ok Ztp ZHs ZHl ZGv k
noncomputable def Za8 : List PK := [PK.mk .bool false none false none]
noncomputable def Zud : List PK := [PK.mk (.pair I6 (.pair I6 (.slice 76 P6))) true none false none, PK.mk (.slice 3 I6) false none false none, PK.mk (.slice 40 T6) false none false none]
noncomputable def Zjv (r : Bool) : Tup Za8 × OutD := ((r, ()), none)
noncomputable def Zj3 : Tup Za8 × OutD → Option (Bool)
 | (a, none) => some (a.1)
 | _ => none
theorem ZkZ : ∀ b r, Zj3 b = some r → Zjv r = b := by
 rintro ⟨a, _ | _⟩ r h <;> cases h; rfl
noncomputable def Z7P : Nat → Int → Int → List (Int × Int) → List (Int × Int × Int) → Int → Int → Option (LR Unit Bool)
 | 0, _, _, _, _, _, _ => none
 | k + 1, b1_0, b1_1, b1_2, v32, v33, v34 =>
  if decide (v34 < v33) = true then if (0 : Int) ≤ v34 then if v34 < (↑(List.length v32) : Int) then Option.bind (ZW k (Prod.fst (List.getD v32 (Int.toNat v34) ((0 : Int), (0 : Int), (0 : Int)))) (1 : Int) (3 : Int)) fun z2 => if (!z2) = true then some (LR.ret false) else Option.bind (ZW k (Prod.fst (Prod.snd (List.getD v32 (Int.toNat v34) ((0 : Int), (0 : Int), (0 : Int))))) (0 : Int) b1_0) fun z3 => if (!z3) = true then some (LR.ret false) else Option.bind (ZW k (Prod.snd (Prod.snd (List.getD v32 (Int.toNat v34) ((0 : Int), (0 : Int), (0 : Int))))) (-1 : Int) b1_1) fun z4 => if (!z4) = true then some (LR.ret false) else Z7P k b1_0 b1_1 b1_2 v32 v33 (wrap64 (v34 + 1)) else none else none else some (LR.go ())
noncomputable def Zgl : Spec := Spec.mk [.ro, O0] [(3, .at (.ptr 1 0)), (32, .at (.snap 0 T6)), (33, .at (.int .i64)), (34, .at (.int .i64))]
noncomputable def ZCh : Spec := Spec.mk [.ro] []
noncomputable def Z66 : LoopDef (Tup Za8 × OutD) := .rets Zgl ZCh (Unit) (Bool) (fun k x => Z7P k x.1.2.1.1 x.1.2.1.2.1 x.1.2.1.2.2.1 x.2.2.1 x.2.2.2.1 x.2.2.2.2.1) (fun z => (((), ()), (()))) (fun y => ()) (fun _ => rfl) Zjv Zj3 ZkZ
noncomputable def Zg4 : Nat → Int × Int × List (Int × Int) → List Int → List (Int × Int × Int) → Option Bool
 | 0, _, _, _ => none
 | k + 1, p0, p1, p2 =>
  Option.bind (Zen k (p0.1, p0.2.1, p0.2.2)) fun z0 => if (!z0) = true then some false else if decide ((↑(List.length p1) : Int) > 20) = true then some false else Option.bind (Z9n k p1 (0 : Int) (wrap64 (p0.2.1 - 1))) fun z1 => if (!z1) = true then some false else if decide ((↑(List.length p2) : Int) ≠ (↑(List.length p1) : Int)) = true then some false else Option.bind (Z7P k p0.1 p0.2.1 p0.2.2 p2 (↑(List.length p2) : Int) (0 : Int)) fun z5 => LR.on z5 (fun y5 => some true) fun r5 => some r5
noncomputable def Z5B : FnDef := .of Zud Za8 (Bool) (fun k x => Zg4 k x.1 x.2.1 x.2.2.1) Zjv Zj3 ZkZ
noncomputable def Zgb : Code := Tryz.f54.body.getD .skip
noncomputable def Z8g : Ctx (Tup Za8 × OutD) := { T := T, G := [(87, Z4B.E), (77, Z4d.E), (76, Z1r.E)], mvs := [], no := 0, n := 59, res := resOf T Zud Za8 Tryz.f54.results.toList, loops := [(0, Z66.E)], regs := [], conds := [], cuts := [] }
theorem Zuj (k : Nat) : EnvOK Tryz.prog k Z8g.G := (EnvOK.cons (ZEs k) (EnvOK.cons (Zlz k) (EnvOK.cons (Z8T k) (EnvOK.nil mixed))))
noncomputable def Zcz : Code := (findLoop 0 Zgb).getD .skip
theorem ZCi (k : Nat) (x : Zgl.D) : Z66.lp (k + 1) x = loopK Z8g Z66 0 Zcz k x := by kernel_rfl
theorem ZC2 (k : Nat) : LOK Tryz.prog Z8g k Zcz := LOK.by [] (by kernel_rfl) AllOK.nil
theorem ZC1 (x : Zgl.D) : Z66.lp 0 x = none := by kernel_rfl
theorem Zyw (k : Nat) : EOK Tryz.prog Z8g k Z66.E (.block 0 (.loop Zcz)) := Z2 T_ok Zuj ZC1 ZCi ZC2 k
theorem ZHJ (k : Nat) (x : Tup Z5B.ps) : Z5B.f (k + 1) x = fnK Z5B Z8g Zgb k x := by kernel_rfl
theorem ZGq (x : Tup Z5B.ps) : Z5B.f 0 x = none := by kernel_rfl
theorem ZGr (k : Nat) : LOK Tryz.prog Z8g k Zgb := LOK.by [(Z66.E, .block 0 (.loop Zcz))] (by kernel_rfl) (AllOK.cons (Zyw k) AllOK.nil)
theorem ZGo (k : Nat) : SoundAt Tryz.prog k 54 Z5B.E := @Z0 Tryz.prog Z5B Z8g 54 Tryz.f54 Zgb (by kernel_rfl) (by kernel_rfl) (by kernel_rfl) Tryz.func54 (by kernel_rfl) (by kernel_rfl) (by kernel_rfl) T_ok Zuj ZGr ZGq ZHJ k
noncomputable def Z6t : List PK := [PK.mk .bool false none false none]
noncomputable def Zm7 : List PK := [PK.mk (.pair I6 (.pair I6 (.slice 76 P6))) true none false none, PK.mk (.slice 58 T6) false none false none]
noncomputable def Zfd (r : Bool) : Tup Z6t × OutD := ((r, ()), none)
noncomputable def Zfe : Tup Z6t × OutD → Option (Bool)
 | (a, none) => some (a.1)
 | _ => none
theorem ZhQ : ∀ b r, Zfe b = some r → Zfd r = b := by
 rintro ⟨a, _ | _⟩ r h <;> cases h; rfl
noncomputable def Z4H : Nat → Int → Int → List (Int × Int) → Int → List (Int × Int × Int) → Int → Int → Option (LR Unit Bool)
 | 0, _, _, _, _, _, _, _ => none
 | k + 1, b1_0, b1_1, b1_2, v5, v12, v13, v14 =>
  if decide (v14 < v13) = true then if (0 : Int) ≤ v14 then if v14 < (↑(List.length v12) : Int) then Option.bind (ZeD k (b1_0, b1_1, b1_2) (Prod.fst (Prod.snd (List.getD v12 (Int.toNat v14) ((0 : Int), (0 : Int), (0 : Int))))) (Prod.snd (Prod.snd (List.getD v12 (Int.toNat v14) ((0 : Int), (0 : Int), (0 : Int)))))) fun z0 => if (!z0) = true then some (LR.ret false) else if decide (wrap64 (wrap64 (Prod.fst (Prod.snd (List.getD v12 (Int.toNat v14) ((0 : Int), (0 : Int), (0 : Int)))) * b1_1) + Prod.snd (Prod.snd (List.getD v12 (Int.toNat v14) ((0 : Int), (0 : Int), (0 : Int))))) ≤ v5) = true then some (LR.ret false) else if (0 : Int) ≤ wrap64 (wrap64 (Prod.fst (Prod.snd (List.getD v12 (Int.toNat v14) ((0 : Int), (0 : Int), (0 : Int)))) * b1_1) + Prod.snd (Prod.snd (List.getD v12 (Int.toNat v14) ((0 : Int), (0 : Int), (0 : Int))))) then if wrap64 (wrap64 (Prod.fst (Prod.snd (List.getD v12 (Int.toNat v14) ((0 : Int), (0 : Int), (0 : Int)))) * b1_1) + Prod.snd (Prod.snd (List.getD v12 (Int.toNat v14) ((0 : Int), (0 : Int), (0 : Int))))) < (↑(List.length b1_2) : Int) then Option.bind (ZbP k (Prod.fst (List.getD b1_2 (Int.toNat (wrap64 (wrap64 (Prod.fst (Prod.snd (List.getD v12 (Int.toNat v14) ((0 : Int), (0 : Int), (0 : Int)))) * b1_1) + Prod.snd (Prod.snd (List.getD v12 (Int.toNat v14) ((0 : Int), (0 : Int), (0 : Int))))))) ((0 : Int), (0 : Int))), Prod.snd (List.getD b1_2 (Int.toNat (wrap64 (wrap64 (Prod.fst (Prod.snd (List.getD v12 (Int.toNat v14) ((0 : Int), (0 : Int), (0 : Int)))) * b1_1) + Prod.snd (Prod.snd (List.getD v12 (Int.toNat v14) ((0 : Int), (0 : Int), (0 : Int))))))) ((0 : Int), (0 : Int)))) (Prod.fst (List.getD v12 (Int.toNat v14) ((0 : Int), (0 : Int), (0 : Int))))) fun z1 => if (!z1) = true then some (LR.ret false) else Z4H k b1_0 b1_1 b1_2 (wrap64 (wrap64 (Prod.fst (Prod.snd (List.getD v12 (Int.toNat v14) ((0 : Int), (0 : Int), (0 : Int)))) * b1_1) + Prod.snd (Prod.snd (List.getD v12 (Int.toNat v14) ((0 : Int), (0 : Int), (0 : Int)))))) v12 v13 (wrap64 (v14 + 1)) else none else none else none else none else some (LR.go ())
noncomputable def Zdk : Spec := Spec.mk [.ro, O0] [(2, .at (.ptr 1 0)), (5, .at (.int .i64)), (12, .at (.snap 0 T6)), (13, .at (.int .i64)), (14, .at (.int .i64))]
noncomputable def Zve : Spec := Spec.mk [.ro] []
noncomputable def Z42 : LoopDef (Tup Z6t × OutD) := .rets Zdk Zve (Unit) (Bool) (fun k x => Z4H k x.1.2.1.1 x.1.2.1.2.1 x.1.2.1.2.2.1 x.2.2.1 x.2.2.2.1 x.2.2.2.2.1 x.2.2.2.2.2.1) (fun z => (((), ()), (()))) (fun y => ()) (fun _ => rfl) Zfd Zfe ZhQ
noncomputable def Z9v : Nat → Int × Int × List (Int × Int) → List (Int × Int × Int) → Option Bool
 | 0, _, _ => none
 | k + 1, p0, p1 =>
  if decide ((↑(List.length p1) : Int) > 4) = true then some false else Option.bind (Z4H k p0.1 p0.2.1 p0.2.2 (-1 : Int) p1 (↑(List.length p1) : Int) (0 : Int)) fun z2 => LR.on z2 (fun y2 => some true) fun r2 => some r2
noncomputable def Z2e : FnDef := .of Zm7 Z6t (Bool) (fun k x => Z9v k x.1 x.2.1) Zfd Zfe ZhQ
noncomputable def ZcB : Code := Tryz.f56.body.getD .skip
noncomputable def Z4u : Ctx (Tup Z6t × OutD) := { T := T, G := [(90, Z4Y.E), (91, Z3i.E)], mvs := [], no := 0, n := 49, res := resOf T Zm7 Z6t Tryz.f56.results.toList, loops := [(0, Z42.E)], regs := [], conds := [], cuts := [] }
theorem Zlr (k : Nat) : EnvOK Tryz.prog k Z4u.G := (EnvOK.cons (ZEC k) (EnvOK.cons (ZrC k) (EnvOK.nil mixed)))
noncomputable def Z9Q : Code := (findLoop 0 ZcB).getD .skip
theorem Zuy (k : Nat) (x : Zdk.D) : Z42.lp (k + 1) x = loopK Z4u Z42 0 Z9Q k x := by kernel_rfl
theorem Zva (k : Nat) : LOK Tryz.prog Z4u k Z9Q := LOK.by [] (by kernel_rfl) AllOK.nil
theorem Zv5 (x : Zdk.D) : Z42.lp 0 x = none := by kernel_rfl
theorem Ztf (k : Nat) : EOK Tryz.prog Z4u k Z42.E (.block 0 (.loop Z9Q)) := Z2 T_ok Zlr Zv5 Zuy Zva k
theorem ZBP (k : Nat) (x : Tup Z2e.ps) : Z2e.f (k + 1) x = fnK Z2e Z4u ZcB k x := by kernel_rfl
theorem ZCr (x : Tup Z2e.ps) : Z2e.f 0 x = none := by kernel_rfl
theorem ZBI (k : Nat) : LOK Tryz.prog Z4u k ZcB := LOK.by [(Z42.E, .block 0 (.loop Z9Q))] (by kernel_rfl) (AllOK.cons (Ztf k) AllOK.nil)
theorem ZmL (k : Nat) : SoundAt Tryz.prog k 56 Z2e.E := @Z0 Tryz.prog Z2e Z4u 56 Tryz.f56 ZcB (by kernel_rfl) (by kernel_rfl) (by kernel_rfl) Tryz.func56 (by kernel_rfl) (by kernel_rfl) (by kernel_rfl) T_ok Zlr ZBI ZCr ZBP k
noncomputable def Z5P : List PK := [PK.mk .bool false none false none]
noncomputable def ZiI : List PK := [PK.mk (.pair I6 (.pair I6 (.slice 76 P6))) true none false none, PK.mk (.slice 58 T6) false none false none, PK.mk (.slice 3 I6) false none false none, PK.mk (.slice 40 T6) false none false none]
noncomputable def Zie (r : Bool) : Tup Z5P × OutD := ((r, ()), none)
noncomputable def Zi9 : Tup Z5P × OutD → Option (Bool)
 | (a, none) => some (a.1)
 | _ => none
theorem ZmV : ∀ b r, Zi9 b = some r → Zie r = b := by
 rintro ⟨a, _ | _⟩ r h <;> cases h; rfl
noncomputable def Z5X : Nat → Int × Int × List (Int × Int) → List (Int × Int × Int) → List Int → List (Int × Int × Int) → Option Bool
 | 0, _, _, _, _ => none
 | k + 1, p0, p1, p2, p3 =>
  Option.bind (Z7x k (p0.1, p0.2.1, p0.2.2) p1 p2) fun z0 => Option.bind (Z1I k z0.1 p3) fun z1 => some z1
noncomputable def Z16 : FnDef := .of ZiI Z5P (Bool) (fun k x => Z5X k x.1 x.2.1 x.2.2.1 x.2.2.2.1) Zie Zi9 ZmV
noncomputable def Zds : Code := Tryz.f57.body.getD .skip
noncomputable def Z9U : Ctx (Tup Z5P × OutD) := { T := T, G := [(59, Z1k.E), (92, Zd.E)], mvs := [], no := 0, n := 21, res := resOf T ZiI Z5P Tryz.f57.results.toList, loops := [], regs := [], conds := [], cuts := [] }
theorem ZvC (k : Nat) : EnvOK Tryz.prog k Z9U.G := (EnvOK.cons (Zk3 k) (EnvOK.cons (Zfp k) (EnvOK.nil mixed)))
theorem Zvk (k : Nat) (x : Tup Z16.ps) : Z16.f (k + 1) x = fnK Z16 Z9U Zds k x := by kernel_rfl
theorem ZuV (x : Tup Z16.ps) : Z16.f 0 x = none := by kernel_rfl
theorem ZvM (k : Nat) : LOK Tryz.prog Z9U k Zds := LOK.by [] (by kernel_rfl) AllOK.nil
theorem ZiQ (k : Nat) : SoundAt Tryz.prog k 57 Z16.E := @Z0 Tryz.prog Z16 Z9U 57 Tryz.f57 Zds (by kernel_rfl) (by kernel_rfl) (by kernel_rfl) Tryz.func57 (by kernel_rfl) (by kernel_rfl) (by kernel_rfl) T_ok ZvC ZvM ZuV Zvk k
noncomputable def Z92 : List PK := [PK.mk .bool false none false none]
noncomputable def ZqN : List PK := [PK.mk (.pair I6 (.pair I6 (.pair (.slice 76 P6) (.pair (.slice 3 I6) (.slice 3 I6))))) true none false none, PK.mk (.pair I6 (.pair I6 (.slice 76 P6))) true none false none]
noncomputable def ZhP (r : Bool) : Tup Z92 × OutD := ((r, ()), none)
noncomputable def Zi2 : Tup Z92 × OutD → Option (Bool)
 | (a, none) => some (a.1)
 | _ => none
theorem ZjY : ∀ b r, Zi2 b = some r → ZhP r = b := by
 rintro ⟨a, _ | _⟩ r h <;> cases h; rfl
noncomputable def Z6w : Nat → Int → Int → List (Int × Int) → List Int → List Int → Int → Int → List (Int × Int) → Int → Int → List (Int × Int) → List Int → Int → Int → Option (LR Unit Bool)
 | 0, _, _, _, _, _, _, _, _, _, _, _, _, _, _ => none
 | k + 1, b1_0, b1_1, b1_2, b1_3, b1_4, b2_0, b2_1, b2_2, b3_0, b3_1, o4, v12, v13, v14 =>
  if decide (v14 < v13) = true then if (0 : Int) ≤ v14 then if v14 < (↑(List.length v12) : Int) then Option.bind (ZhZ k (b3_0, b3_1, o4) (List.getD v12 (Int.toNat v14) (0 : Int))) fun z0 => if (0 : Int) ≤ v14 then if v14 < (↑(List.length b1_4) : Int) then Option.bind (Zic k (b2_0, b2_1, b2_2) (z0.1.1, z0.1.2.1, z0.1.2.2)) fun z1 => if decide (z1 ≠ List.getD b1_4 (Int.toNat v14) (0 : Int)) = true then some (LR.ret false) else Z6w k b1_0 b1_1 b1_2 b1_3 b1_4 b2_0 b2_1 b2_2 z0.2.1 z0.2.2.1 z0.2.2.2 v12 v13 (wrap64 (v14 + 1)) else none else none else none else none else some (LR.go ())
noncomputable def Zf5 : Spec := Spec.mk [.ro, O1, O0, O6, .fx P6] [(2, .at (.ptr 1 0)), (3, .at (.ptr 2 0)), (5, .at (.ptr 3 0)), (12, .at (.snap 0 I6)), (13, .at (.int .i64)), (14, .at (.int .i64))]
noncomputable def ZA1 : Spec := Spec.mk [.ro] []
noncomputable def Z5h : LoopDef (Tup Z92 × OutD) := .rets Zf5 ZA1 (Unit) (Bool) (fun k x => Z6w k x.1.2.1.1 x.1.2.1.2.1 x.1.2.1.2.2.1 x.1.2.1.2.2.2.1 x.1.2.1.2.2.2.2.1 x.1.2.2.1.1 x.1.2.2.1.2.1 x.1.2.2.1.2.2.1 x.1.2.2.2.1.1 x.1.2.2.2.1.2.1 x.1.2.2.2.2.1 x.2.2.2.2.1 x.2.2.2.2.2.1 x.2.2.2.2.2.2.1) (fun z => (((), ()), (()))) (fun y => ()) (fun _ => rfl) ZhP Zi2 ZjY
noncomputable def Zez : Nat → Int × Int × List (Int × Int) × List Int × List Int → Int × Int × List (Int × Int) → Option Bool
 | 0, _, _ => none
 | k + 1, p0, p1 =>
  Option.bind (Z6w k p0.1 p0.2.1 p0.2.2.1 p0.2.2.2.1 p0.2.2.2.2 p1.1 p1.2.1 p1.2.2 p1.1 p1.2.1 p1.2.2 p0.2.2.2.1 (↑(List.length p0.2.2.2.1) : Int) (0 : Int)) fun z2 => LR.on z2 (fun y2 => some true) fun r2 => some r2
noncomputable def Z4Q : FnDef := .of ZqN Z92 (Bool) (fun k x => Zez k x.1 x.2.1) ZhP Zi2 ZjY
noncomputable def Zer : Code := Tryz.f79.body.getD .skip
noncomputable def Z6p : Ctx (Tup Z92 × OutD) := { T := T, G := [(107, Z7w.E), (108, Z7p.E)], mvs := [], no := 0, n := 36, res := resOf T ZqN Z92 Tryz.f79.results.toList, loops := [(0, Z5h.E)], regs := [], conds := [], cuts := [] }
theorem ZrS (k : Nat) : EnvOK Tryz.prog k Z6p.G := (EnvOK.cons (ZIa k) (EnvOK.cons (ZIu k) (EnvOK.nil mixed)))
noncomputable def Zbk : Code := (findLoop 0 Zer).getD .skip
theorem Zyh (k : Nat) (x : Zf5.D) : Z5h.lp (k + 1) x = loopK Z6p Z5h 0 Zbk k x := by kernel_rfl
theorem ZzM (k : Nat) : LOK Tryz.prog Z6p k Zbk := LOK.by [] (by kernel_rfl) AllOK.nil
theorem Zzz (x : Zf5.D) : Z5h.lp 0 x = none := by kernel_rfl
theorem ZwE (k : Nat) : EOK Tryz.prog Z6p k Z5h.E (.block 0 (.loop Zbk)) := Z2 T_ok ZrS Zzz Zyh ZzM k
theorem ZFs (k : Nat) (x : Tup Z4Q.ps) : Z4Q.f (k + 1) x = fnK Z4Q Z6p Zer k x := by kernel_rfl
theorem ZEq (x : Tup Z4Q.ps) : Z4Q.f 0 x = none := by kernel_rfl
theorem ZFN (k : Nat) : LOK Tryz.prog Z6p k Zer := LOK.by [(Z5h.E, .block 0 (.loop Zbk))] (by kernel_rfl) (AllOK.cons (ZwE k) AllOK.nil)
theorem ZFe (k : Nat) : SoundAt Tryz.prog k 79 Z4Q.E := @Z0 Tryz.prog Z4Q Z6p 79 Tryz.f79 Zer (by kernel_rfl) (by kernel_rfl) (by kernel_rfl) Tryz.func79 (by kernel_rfl) (by kernel_rfl) (by kernel_rfl) T_ok ZrS ZFN ZEq ZFs k
noncomputable def Z8q : List PK := [PK.mk .bool false none false none]
noncomputable def ZkW : List PK := [PK.mk (.pair I6 (.pair I6 (.slice 76 P6))) true none false none, PK.mk (.slice 58 T6) false none false none, PK.mk (.slice 3 I6) false none false none, PK.mk (.slice 40 T6) false none false none]
noncomputable def ZjN (r : Bool) : Tup Z8q × OutD := ((r, ()), none)
noncomputable def ZjU : Tup Z8q × OutD → Option (Bool)
 | (a, none) => some (a.1)
 | _ => none
theorem ZrP : ∀ b r, ZjU b = some r → ZjN r = b := by
 rintro ⟨a, _ | _⟩ r h <;> cases h; rfl
noncomputable def Zbf : Nat → Int × Int × List (Int × Int) → List (Int × Int × Int) → List Int → List (Int × Int × Int) → Option Bool
 | 0, _, _, _, _ => none
 | k + 1, p0, p1, p2, p3 =>
  Option.bind (ZhJ k (p0.1, p0.2.1, p0.2.2) p1 p2) fun z0 => Option.bind (ZfY k z0.1 p3) fun z1 => some (decide (z1 < (0 : Int)))
noncomputable def Z2x : FnDef := .of ZkW Z8q (Bool) (fun k x => Zbf k x.1 x.2.1 x.2.2.1 x.2.2.2.1) ZjN ZjU ZrP
noncomputable def Zfl : Code := Tryz.f89.body.getD .skip
noncomputable def Zbe : Ctx (Tup Z8q × OutD) := { T := T, G := [(112, Z7s.E), (113, Z5N.E)], mvs := [], no := 0, n := 22, res := resOf T ZkW Z8q Tryz.f89.results.toList, loops := [], regs := [], conds := [], cuts := [] }
theorem Zyb (k : Nat) : EnvOK Tryz.prog k Zbe.G := (EnvOK.cons (ZIG k) (EnvOK.cons (ZHD k) (EnvOK.nil mixed)))
theorem ZzP (k : Nat) (x : Tup Z2x.ps) : Z2x.f (k + 1) x = fnK Z2x Zbe Zfl k x := by kernel_rfl
theorem Zyg (x : Tup Z2x.ps) : Z2x.f 0 x = none := by kernel_rfl
theorem Zzo (k : Nat) : LOK Tryz.prog Zbe k Zfl := LOK.by [] (by kernel_rfl) AllOK.nil
theorem Zyk (k : Nat) : SoundAt Tryz.prog k 89 Z2x.E := @Z0 Tryz.prog Z2x Zbe 89 Tryz.f89 Zfl (by kernel_rfl) (by kernel_rfl) (by kernel_rfl) Tryz.func89 (by kernel_rfl) (by kernel_rfl) (by kernel_rfl) T_ok Zyb Zzo Zyg ZzP k
end
end
section
noncomputable section
noncomputable def Z5T : List PK := [PK.mk .bool false none false none, PK.mk .bool false none false none]
noncomputable def ZiY : List PK := [PK.mk (.pair I6 (.pair I6 (.slice 76 P6))) true none false none, PK.mk (.slice 58 T6) false none false none, PK.mk (.slice 3 I6) false none false none, PK.mk (.slice 40 T6) false none false none]
noncomputable def Zhm (r : Bool × Bool) : Tup Z5T × OutD := ((r.1, r.2, ()), none)
noncomputable def Zhh : Tup Z5T × OutD → Option (Bool × Bool)
 | (a, none) => some (a.1, a.2.1)
 | _ => none
theorem Znm : ∀ b r, Zhh b = some r → Zhm r = b := by
 rintro ⟨a, _ | _⟩ r h <;> cases h; rfl
noncomputable def Z9B : Nat → Int × Int × List (Int × Int) → List (Int × Int × Int) → List Int → List (Int × Int × Int) → Option (Bool × Bool)
 | 0, _, _, _, _ => none
 | k + 1, p0, p1, p2, p3 =>
  Option.bind (ZcU k (p0.1, p0.2.1, p0.2.2) p2 p3) fun z0 => if (!z0) = true then some (false, false) else Option.bind (Z9v k (p0.1, p0.2.1, p0.2.2) p1) fun z1 => if (!z1) = true then some (false, false) else Option.bind (Z5X k (p0.1, p0.2.1, p0.2.2) p1 p2 p3) fun z2 => some (z2, true)
noncomputable def Z1A : FnDef := .of ZiY Z5T (Bool × Bool) (fun k x => Z9B k x.1 x.2.1 x.2.2.1 x.2.2.2.1) Zhm Zhh Znm
noncomputable def Zdp : Code := Tryz.f24.body.getD .skip
noncomputable def Z9J : Ctx (Tup Z5T × OutD) := { T := T, G := [(52, Z4m.E), (56, Z2e.E), (57, Z16.E)], mvs := [], no := 0, n := 26, res := resOf T ZiY Z5T Tryz.f24.results.toList, loops := [], regs := [], conds := [], cuts := [] }
theorem ZuZ (k : Nat) : EnvOK Tryz.prog k Z9J.G := (EnvOK.cons (ZtL k) (EnvOK.cons (ZmL k) (EnvOK.cons (ZiQ k) (EnvOK.nil mixed))))
theorem Zv1 (k : Nat) (x : Tup Z1A.ps) : Z1A.f (k + 1) x = fnK Z1A Z9J Zdp k x := by kernel_rfl
theorem ZuE (x : Tup Z1A.ps) : Z1A.f 0 x = none := by kernel_rfl
theorem ZvE (k : Nat) : LOK Tryz.prog Z9J k Zdp := LOK.by [] (by kernel_rfl) AllOK.nil
theorem Zus (k : Nat) : SoundAt Tryz.prog k 24 Z1A.E := @Z0 Tryz.prog Z1A Z9J 24 Tryz.f24 Zdp (by kernel_rfl) (by kernel_rfl) (by kernel_rfl) Tryz.func24 (by kernel_rfl) (by kernel_rfl) (by kernel_rfl) T_ok ZuZ ZvE ZuE Zv1 k
noncomputable def Z7t : List PK := [PK.mk (.slice 40 T6) false none false none, PK.mk (.pair I6 (.pair I6 (.slice 76 P6))) true none false none, PK.mk .bool false none false none]
noncomputable def Zk9 : List PK := [PK.mk (.pair I6 (.pair I6 (.slice 76 P6))) true none false none, PK.mk (.slice 58 T6) false none false none, PK.mk (.slice 3 I6) false none false none]
noncomputable def ZiD (r : List (Int × Int × Int) × (Int × Int × List (Int × Int)) × Bool) : Tup Z7t × OutD := ((r.1, r.2.1, r.2.2, ()), none)
noncomputable def ZiJ : Tup Z7t × OutD → Option (List (Int × Int × Int) × (Int × Int × List (Int × Int)) × Bool)
 | (a, none) => some (a.1, a.2.1, a.2.2.1)
 | _ => none
theorem ZpA : ∀ b r, ZiJ b = some r → ZiD r = b := by
 rintro ⟨a, _ | _⟩ r h <;> cases h; rfl
noncomputable def Zal : Nat → Int × Int × List (Int × Int) → List (Int × Int × Int) → List Int → Option (List (Int × Int × Int) × (Int × Int × List (Int × Int)) × Bool)
 | 0, _, _, _ => none
 | k + 1, p0, p1, p2 =>
  Option.bind (Z65 k (p0.1, p0.2.1, p0.2.2) p2) fun z0 => if (!z0) = true then some ([], ((0 : Int), (0 : Int), []), false) else Option.bind (Z9v k (p0.1, p0.2.1, p0.2.2) p1) fun z1 => if (!z1) = true then some ([], ((0 : Int), (0 : Int), []), false) else Option.bind (Z7x k (p0.1, p0.2.1, p0.2.2) p1 p2) fun z2 => some (z2.1, (z2.2.1, z2.2.2.1, z2.2.2.2), true)
noncomputable def Z22 : FnDef := .of Zk9 Z7t (List (Int × Int × Int) × (Int × Int × List (Int × Int)) × Bool) (fun k x => Zal k x.1 x.2.1 x.2.2.1) ZiD ZiJ ZpA
noncomputable def Ze1 : Code := Tryz.f25.body.getD .skip
noncomputable def ZaC : Ctx (Tup Z7t × OutD) := { T := T, G := [(58, Z17.E), (56, Z2e.E), (59, Z1k.E)], mvs := [], no := 0, n := 31, res := resOf T Zk9 Z7t Tryz.f25.results.toList, loops := [], regs := [], conds := [], cuts := [] }
theorem Zxz (k : Nat) : EnvOK Tryz.prog k ZaC.G := (EnvOK.cons (Zis k) (EnvOK.cons (ZmL k) (EnvOK.cons (Zk3 k) (EnvOK.nil mixed))))
theorem ZxI (k : Nat) (x : Tup Z22.ps) : Z22.f (k + 1) x = fnK Z22 ZaC Ze1 k x := by kernel_rfl
theorem Zwh (x : Tup Z22.ps) : Z22.f 0 x = none := by kernel_rfl
theorem ZxD (k : Nat) : LOK Tryz.prog ZaC k Ze1 := LOK.by [] (by kernel_rfl) AllOK.nil
theorem ZwT (k : Nat) : SoundAt Tryz.prog k 25 Z22.E := @Z0 Tryz.prog Z22 ZaC 25 Tryz.f25 Ze1 (by kernel_rfl) (by kernel_rfl) (by kernel_rfl) Tryz.func25 (by kernel_rfl) (by kernel_rfl) (by kernel_rfl) T_ok Zxz ZxD Zwh ZxI k
noncomputable def Z8X : List PK := [PK.mk (.slice 3 I6) false none false none, PK.mk I6 false none false none, PK.mk I6 false none false none]
noncomputable def Zrg : List PK := [PK.mk (.pair I6 (.pair I6 (.pair (.slice 76 P6) (.pair (.slice 3 I6) (.slice 3 I6))))) true none false none]
noncomputable def ZnU (r : List Int × Int × Int) : Tup Z8X × OutD := ((r.1, r.2.1, r.2.2, ()), none)
noncomputable def ZnB : Tup Z8X × OutD → Option (List Int × Int × Int)
 | (a, none) => some (a.1, a.2.1, a.2.2.1)
 | _ => none
theorem Zx6 : ∀ b r, ZnB b = some r → ZnU r = b := by
 rintro ⟨a, _ | _⟩ r h <;> cases h; rfl
noncomputable def ZF : Nat → Int → Int → List (Int × Int) → List Int → List Int → List Int → Int → Int → Int → Int → Option (List Int × Int × Int)
 | 0, _, _, _, _, _, _, _, _, _, _ => none
 | k + 1, b1_0, b1_1, b1_2, b1_3, b1_4, o2, v6, v7, v8, v9 =>
  Option.bind (Z9d k (b1_0, b1_1, b1_2, b1_3, b1_4)) fun z0 => if decide (v9 < z0) = true then Option.bind (Zbo k (b1_0, b1_1, b1_2, b1_3, b1_4) v9) fun z1 => Option.bind (Zez k (b1_0, b1_1, b1_2, b1_3, b1_4) (z1.1, z1.2.1, z1.2.2)) fun z2 => if (!z2) = true then ZF k b1_0 b1_1 b1_2 b1_3 b1_4 o2 v6 v7 v8 (wrap64 (v9 + 1)) else Option.bind (ZfR k (z1.1, z1.2.1, z1.2.2)) fun z3 => if (0 : Int) ≤ z3 then if z3 < (↑(List.length o2) : Int) then if (0 : Int) ≤ z3 then if z3 < (↑(List.length o2) : Int) then if decide (v6 < 0) = true then if decide (v7 < 0) = true then ZF k b1_0 b1_1 b1_2 b1_3 b1_4 (List.set o2 (Int.toNat z3) (wrap64 (List.getD o2 (Int.toNat z3) (0 : Int) + 1))) v9 v9 z3 (wrap64 (v9 + 1)) else if decide (z3 < v8) = true then ZF k b1_0 b1_1 b1_2 b1_3 b1_4 (List.set o2 (Int.toNat z3) (wrap64 (List.getD o2 (Int.toNat z3) (0 : Int) + 1))) v9 v9 z3 (wrap64 (v9 + 1)) else ZF k b1_0 b1_1 b1_2 b1_3 b1_4 (List.set o2 (Int.toNat z3) (wrap64 (List.getD o2 (Int.toNat z3) (0 : Int) + 1))) v9 v7 v8 (wrap64 (v9 + 1)) else if decide (v7 < 0) = true then ZF k b1_0 b1_1 b1_2 b1_3 b1_4 (List.set o2 (Int.toNat z3) (wrap64 (List.getD o2 (Int.toNat z3) (0 : Int) + 1))) v6 v9 z3 (wrap64 (v9 + 1)) else if decide (z3 < v8) = true then ZF k b1_0 b1_1 b1_2 b1_3 b1_4 (List.set o2 (Int.toNat z3) (wrap64 (List.getD o2 (Int.toNat z3) (0 : Int) + 1))) v6 v9 z3 (wrap64 (v9 + 1)) else ZF k b1_0 b1_1 b1_2 b1_3 b1_4 (List.set o2 (Int.toNat z3) (wrap64 (List.getD o2 (Int.toNat z3) (0 : Int) + 1))) v6 v7 v8 (wrap64 (v9 + 1)) else none else none else none else none else some (o2, v6, v7)
noncomputable def Zfn : Spec := Spec.mk [.ro, O1, O4] [(1, .at (.ptr 1 0)), (5, .at (.sl 2)), (6, .at (.int .i64)), (7, .at (.int .i64)), (8, .at (.int .i64)), (9, .at (.int .i64))]
noncomputable def ZyJ : Spec := Spec.mk [.ro, O4] [(5, .at (.sl 1)), (6, .at (.int .i64)), (7, .at (.int .i64))]
noncomputable def Z5v : LoopDef (Tup Z8X × OutD) := .plain Zfn ZyJ (List Int × Int × Int) (fun k x => ZF k x.1.2.1.1 x.1.2.1.2.1 x.1.2.1.2.2.1 x.1.2.1.2.2.2.1 x.1.2.1.2.2.2.2.1 x.1.2.2.1 x.2.2.2.1 x.2.2.2.2.1 x.2.2.2.2.2.1 x.2.2.2.2.2.2.1) (fun z => (((), z.1, ()), ((), z.2.1, z.2.2, ()))) (fun y => (y.1.2.1, y.2.2.1, y.2.2.2.1)) (fun _ => rfl)
noncomputable def ZbR : Nat → Int × Int × List (Int × Int) × List Int × List Int → Option (List Int × Int × Int)
 | 0, _ => none
 | k + 1, p0 =>
  if (0 : Int) ≤ wrap64 (wrap64 (p0.1 * p0.2.1) + 1) then if Int.toNat (wrap64 (wrap64 (p0.1 * p0.2.1) + 1)) * (8 : Nat) ≤ (281474976710656 : Nat) then Option.bind (ZF k p0.1 p0.2.1 p0.2.2.1 p0.2.2.2.1 p0.2.2.2.2 (List.replicate (Int.toNat (wrap64 (wrap64 (p0.1 * p0.2.1) + 1))) (0 : Int)) (-1 : Int) (-1 : Int) (0 : Int) (0 : Int)) fun z4 => some (z4.1, z4.2.1, z4.2.2) else none else none
noncomputable def Z3m : FnDef := .of Zrg Z8X (List Int × Int × Int) (fun k x => ZbR k x.1) ZnU ZnB Zx6
noncomputable def ZeI : Code := Tryz.f46.body.getD .skip
noncomputable def Z6v : Ctx (Tup Z8X × OutD) := { T := T, G := [(78, Z3G.E), (47, Z3u.E), (79, Z4Q.E), (80, Z5L.E)], mvs := [], no := 0, n := 55, res := resOf T Zrg Z8X Tryz.f46.results.toList, loops := [(0, Z5v.E)], regs := [], conds := [], cuts := [] }
theorem ZpS (k : Nat) : EnvOK Tryz.prog k Z6v.G := (EnvOK.cons (Zqo k) (EnvOK.cons (ZrH k) (EnvOK.cons (ZFe k) (EnvOK.cons (ZGF k) (EnvOK.nil mixed)))))
noncomputable def Zba : Code := (findLoop 0 ZeI).getD .skip
theorem ZyV (k : Nat) (x : Zfn.D) : Z5v.lp (k + 1) x = loopK Z6v Z5v 0 Zba k x := by kernel_rfl
theorem ZyX (k : Nat) : LOK Tryz.prog Z6v k Zba := LOK.by [] (by kernel_rfl) AllOK.nil
theorem Zze (x : Zfn.D) : Z5v.lp 0 x = none := by kernel_rfl
theorem Zwv (k : Nat) : EOK Tryz.prog Z6v k Z5v.E (.block 0 (.loop Zba)) := Z2 T_ok ZpS Zze ZyV ZyX k
theorem ZEf (k : Nat) (x : Tup Z3m.ps) : Z3m.f (k + 1) x = fnK Z3m Z6v ZeI k x := by kernel_rfl
theorem ZFD (x : Tup Z3m.ps) : Z3m.f 0 x = none := by kernel_rfl
theorem ZEK (k : Nat) : LOK Tryz.prog Z6v k ZeI := LOK.by [(Z5v.E, .block 0 (.loop Zba))] (by kernel_rfl) (AllOK.cons (Zwv k) AllOK.nil)
theorem Zqr (k : Nat) : SoundAt Tryz.prog k 46 Z3m.E := @Z0 Tryz.prog Z3m Z6v 46 Tryz.f46 ZeI (by kernel_rfl) (by kernel_rfl) (by kernel_rfl) Tryz.func46 (by kernel_rfl) (by kernel_rfl) (by kernel_rfl) T_ok ZpS ZEK ZFD ZEf k
noncomputable def Z40 : List PK := [PK.mk (.slice 58 T6) false none false none]
noncomputable def ZiH : List PK := [PK.mk (.pair I6 (.pair I6 (.slice 76 P6))) true none false none, PK.mk (.slice 3 I6) false none false none, PK.mk (.slice 40 T6) false none false none]
noncomputable def Zi7 (r : List (Int × Int × Int)) : Tup Z40 × OutD := ((r, ()), none)
noncomputable def Zhy : Tup Z40 × OutD → Option (List (Int × Int × Int))
 | (a, none) => some (a.1)
 | _ => none
theorem Znh : ∀ b r, Zhy b = some r → Zi7 r = b := by
 rintro ⟨a, _ | _⟩ r h <;> cases h; rfl
noncomputable def Z1Y : Nat → Int → Int → List (Int × Int) → List (Int × Int × Int) → List (Int × Int × Int) → List Int → List (Int × Int × Int) → Int → Int → Option (List (Int × Int × Int))
 | 0, _, _, _, _, _, _, _, _, _ => none
 | k + 1, b1_0, b1_1, b1_2, o2, o3, v1, v2, v13, v14 =>
  if decide (v14 < v13) = true then if (0 : Int) ≤ v14 then if v14 < (↑(List.length o3) : Int) then Option.bind (Z5X k (b1_0, b1_1, b1_2) [(Prod.fst (List.getD o3 (Int.toNat v14) ((0 : Int), (0 : Int), (0 : Int))), Prod.fst (Prod.snd (List.getD o3 (Int.toNat v14) ((0 : Int), (0 : Int), (0 : Int)))), Prod.snd (Prod.snd (List.getD o3 (Int.toNat v14) ((0 : Int), (0 : Int), (0 : Int)))))] v1 v2) fun z1 => if z1 = true then if List.length o2 + List.length [(Prod.fst (List.getD o3 (Int.toNat v14) ((0 : Int), (0 : Int), (0 : Int))), Prod.fst (Prod.snd (List.getD o3 (Int.toNat v14) ((0 : Int), (0 : Int), (0 : Int)))), Prod.snd (Prod.snd (List.getD o3 (Int.toNat v14) ((0 : Int), (0 : Int), (0 : Int)))))] ≤ (140737488355328 / 24 : Nat) then Z1Y k b1_0 b1_1 b1_2 (o2 ++ [(Prod.fst (List.getD o3 (Int.toNat v14) ((0 : Int), (0 : Int), (0 : Int))), Prod.fst (Prod.snd (List.getD o3 (Int.toNat v14) ((0 : Int), (0 : Int), (0 : Int)))), Prod.snd (Prod.snd (List.getD o3 (Int.toNat v14) ((0 : Int), (0 : Int), (0 : Int)))))]) o3 v1 v2 v13 (wrap64 (v14 + 1)) else none else Z1Y k b1_0 b1_1 b1_2 o2 o3 v1 v2 v13 (wrap64 (v14 + 1)) else none else none else some o2
noncomputable def ZaK : Spec := Spec.mk [.ro, O0, Oc, Oc] [(1, .at (.snap 0 I6)), (2, .at (.snap 0 T6)), (3, .at (.ptr 1 0)), (7, .at (.sl 2)), (12, .at (.sl 3)), (13, .at (.int .i64)), (14, .at (.int .i64))]
noncomputable def ZoI : Spec := Spec.mk [.ro, Oc] [(7, .at (.sl 1))]
noncomputable def Z2j : LoopDef (Tup Z40 × OutD) := .plain ZaK ZoI (List (Int × Int × Int)) (fun k x => Z1Y k x.1.2.1.1 x.1.2.1.2.1 x.1.2.1.2.2.1 x.1.2.2.1 x.1.2.2.2.1 x.2.1 x.2.2.1 x.2.2.2.2.2.2.1 x.2.2.2.2.2.2.2.1) (fun z => (((), z, ()), ((), ()))) (fun y => (y.1.2.1)) (fun _ => rfl)
noncomputable def Z9X : Nat → Int × Int × List (Int × Int) → List Int → List (Int × Int × Int) → Option (List (Int × Int × Int))
 | 0, _, _, _ => none
 | k + 1, p0, p1, p2 =>
  Option.bind (Z7H k (p0.1, p0.2.1, p0.2.2)) fun z0 => Option.bind (Z1Y k p0.1 p0.2.1 p0.2.2 [] z0 p1 p2 (↑(List.length z0) : Int) (0 : Int)) fun z2 => some z2
noncomputable def Z1u : FnDef := .of ZiH Z40 (List (Int × Int × Int)) (fun k x => Z9X k x.1 x.2.1 x.2.2.1) Zi7 Zhy Znh
noncomputable def Z9I : Code := Tryz.f53.body.getD .skip
noncomputable def Z2D : Ctx (Tup Z40 × OutD) := { T := T, G := [(86, Z19.E), (57, Z16.E)], mvs := [], no := 0, n := 30, res := resOf T ZiH Z40 Tryz.f53.results.toList, loops := [(0, Z2j.E)], regs := [], conds := [], cuts := [] }
theorem ZiG (k : Nat) : EnvOK Tryz.prog k Z2D.G := (EnvOK.cons (Zrp k) (EnvOK.cons (ZiQ k) (EnvOK.nil mixed)))
noncomputable def Z78 : Code := (findLoop 0 Z9I).getD .skip
theorem Zp7 (k : Nat) (x : ZaK.D) : Z2j.lp (k + 1) x = loopK Z2D Z2j 0 Z78 k x := by kernel_rfl
theorem ZoP (k : Nat) : LOK Tryz.prog Z2D k Z78 := LOK.by [] (by kernel_rfl) AllOK.nil
theorem ZoO (x : ZaK.D) : Z2j.lp 0 x = none := by kernel_rfl
theorem Zn2 (k : Nat) : EOK Tryz.prog Z2D k Z2j.E (.block 0 (.loop Z78)) := Z2 T_ok ZiG ZoO Zp7 ZoP k
theorem Zvy (k : Nat) (x : Tup Z1u.ps) : Z1u.f (k + 1) x = fnK Z1u Z2D Z9I k x := by kernel_rfl
theorem Zvg (x : Tup Z1u.ps) : Z1u.f 0 x = none := by kernel_rfl
theorem ZuT (k : Nat) : LOK Tryz.prog Z2D k Z9I := LOK.by [(Z2j.E, .block 0 (.loop Z78))] (by kernel_rfl) (AllOK.cons (Zn2 k) AllOK.nil)
theorem ZuJ (k : Nat) : SoundAt Tryz.prog k 53 Z1u.E := @Z0 Tryz.prog Z1u Z2D 53 Tryz.f53 Z9I (by kernel_rfl) (by kernel_rfl) (by kernel_rfl) Tryz.func53 (by kernel_rfl) (by kernel_rfl) (by kernel_rfl) T_ok ZiG ZuT Zvg Zvy k
noncomputable def Z7B : List PK := [PK.mk (.slice 58 T6) false none false none]
noncomputable def ZnI : List PK := [PK.mk (.pair I6 (.pair I6 (.slice 76 P6))) true none false none, PK.mk (.slice 3 I6) false none false none, PK.mk (.slice 40 T6) false none false none]
noncomputable def ZlV (r : List (Int × Int × Int)) : Tup Z7B × OutD := ((r, ()), none)
noncomputable def ZmA : Tup Z7B × OutD → Option (List (Int × Int × Int))
 | (a, none) => some (a.1)
 | _ => none
theorem ZuS : ∀ b r, ZmA b = some r → ZlV r = b := by
 rintro ⟨a, _ | _⟩ r h <;> cases h; rfl
noncomputable def Z3L : Nat → Int → Int → List (Int × Int) → List (Int × Int × Int) → List (Int × Int × Int) → List Int → List (Int × Int × Int) → Int → Int → Option (List (Int × Int × Int))
 | 0, _, _, _, _, _, _, _, _, _ => none
 | k + 1, b1_0, b1_1, b1_2, o2, o3, v1, v2, v12, v13 =>
  if decide (v13 < v12) = true then if (0 : Int) ≤ v13 then if v13 < (↑(List.length o3) : Int) then Option.bind (Zbf k (b1_0, b1_1, b1_2) [(Prod.fst (List.getD o3 (Int.toNat v13) ((0 : Int), (0 : Int), (0 : Int))), Prod.fst (Prod.snd (List.getD o3 (Int.toNat v13) ((0 : Int), (0 : Int), (0 : Int)))), Prod.snd (Prod.snd (List.getD o3 (Int.toNat v13) ((0 : Int), (0 : Int), (0 : Int)))))] v1 v2) fun z1 => if z1 = true then if List.length o2 + List.length [(Prod.fst (List.getD o3 (Int.toNat v13) ((0 : Int), (0 : Int), (0 : Int))), Prod.fst (Prod.snd (List.getD o3 (Int.toNat v13) ((0 : Int), (0 : Int), (0 : Int)))), Prod.snd (Prod.snd (List.getD o3 (Int.toNat v13) ((0 : Int), (0 : Int), (0 : Int)))))] ≤ (140737488355328 / 24 : Nat) then Z3L k b1_0 b1_1 b1_2 (o2 ++ [(Prod.fst (List.getD o3 (Int.toNat v13) ((0 : Int), (0 : Int), (0 : Int))), Prod.fst (Prod.snd (List.getD o3 (Int.toNat v13) ((0 : Int), (0 : Int), (0 : Int)))), Prod.snd (Prod.snd (List.getD o3 (Int.toNat v13) ((0 : Int), (0 : Int), (0 : Int)))))]) o3 v1 v2 v12 (wrap64 (v13 + 1)) else none else Z3L k b1_0 b1_1 b1_2 o2 o3 v1 v2 v12 (wrap64 (v13 + 1)) else none else none else some o2
noncomputable def Zej : Spec := Spec.mk [.ro, O0, Oc, Oc] [(1, .at (.snap 0 I6)), (2, .at (.snap 0 T6)), (3, .at (.ptr 1 0)), (7, .at (.sl 2)), (11, .at (.sl 3)), (12, .at (.int .i64)), (13, .at (.int .i64))]
noncomputable def Zy3 : Spec := Spec.mk [.ro, Oc] [(7, .at (.sl 1))]
noncomputable def Z4N : LoopDef (Tup Z7B × OutD) := .plain Zej Zy3 (List (Int × Int × Int)) (fun k x => Z3L k x.1.2.1.1 x.1.2.1.2.1 x.1.2.1.2.2.1 x.1.2.2.1 x.1.2.2.2.1 x.2.1 x.2.2.1 x.2.2.2.2.2.2.1 x.2.2.2.2.2.2.2.1) (fun z => (((), z, ()), ((), ()))) (fun y => (y.1.2.1)) (fun _ => rfl)
noncomputable def Zdu : Nat → Int × Int × List (Int × Int) → List Int → List (Int × Int × Int) → Option (List (Int × Int × Int))
 | 0, _, _, _ => none
 | k + 1, p0, p1, p2 =>
  Option.bind (Zb3 k (p0.1, p0.2.1, p0.2.2)) fun z0 => Option.bind (Z3L k p0.1 p0.2.1 p0.2.2 [] z0 p1 p2 (↑(List.length z0) : Int) (0 : Int)) fun z2 => some z2
noncomputable def Z3T : FnDef := .of ZnI Z7B (List (Int × Int × Int)) (fun k x => Zdu k x.1 x.2.1 x.2.2.1) ZlV ZmA ZuS
noncomputable def ZdG : Code := Tryz.f55.body.getD .skip
noncomputable def Z54 : Ctx (Tup Z7B × OutD) := { T := T, G := [(88, Z2A.E), (89, Z2x.E)], mvs := [], no := 0, n := 29, res := resOf T ZnI Z7B Tryz.f55.results.toList, loops := [(0, Z4N.E)], regs := [], conds := [], cuts := [] }
theorem ZnF (k : Nat) : EnvOK Tryz.prog k Z54.G := (EnvOK.cons (ZzX k) (EnvOK.cons (Zyk k) (EnvOK.nil mixed)))
noncomputable def Zan : Code := (findLoop 0 ZdG).getD .skip
theorem Zy1 (k : Nat) (x : Zej.D) : Z4N.lp (k + 1) x = loopK Z54 Z4N 0 Zan k x := by kernel_rfl
theorem ZxE (k : Nat) : LOK Tryz.prog Z54 k Zan := LOK.by [] (by kernel_rfl) AllOK.nil
theorem ZxH (x : Zej.D) : Z4N.lp 0 x = none := by kernel_rfl
theorem ZvK (k : Nat) : EOK Tryz.prog Z54 k Z4N.E (.block 0 (.loop Zan)) := Z2 T_ok ZnF ZxH Zy1 ZxE k
theorem ZDu (k : Nat) (x : Tup Z3T.ps) : Z3T.f (k + 1) x = fnK Z3T Z54 ZdG k x := by kernel_rfl
theorem ZCL (x : Tup Z3T.ps) : Z3T.f 0 x = none := by kernel_rfl
theorem ZDH (k : Nat) : LOK Tryz.prog Z54 k ZdG := LOK.by [(Z4N.E, .block 0 (.loop Zan))] (by kernel_rfl) (AllOK.cons (ZvK k) AllOK.nil)
theorem ZCY (k : Nat) : SoundAt Tryz.prog k 55 Z3T.E := @Z0 Tryz.prog Z3T Z54 55 Tryz.f55 ZdG (by kernel_rfl) (by kernel_rfl) (by kernel_rfl) Tryz.func55 (by kernel_rfl) (by kernel_rfl) (by kernel_rfl) T_ok ZnF ZDH ZCL ZDu k
noncomputable def Z60 : List PK := [PK.mk I6 false none false none]
noncomputable def ZiU : List PK := [PK.mk (.pair I6 (.pair I6 (.slice 76 P6))) true none false none, PK.mk I6 false none false none, PK.mk I6 false none false none]
noncomputable def ZhL (r : Int) : Tup Z60 × OutD := ((r, ()), none)
noncomputable def Zi8 : Tup Z60 × OutD → Option (Int)
 | (a, none) => some (a.1)
 | _ => none
theorem ZmX : ∀ b r, Zi8 b = some r → ZhL r = b := by
 rintro ⟨a, _ | _⟩ r h <;> cases h; rfl
noncomputable def Z9N : Nat → Int × Int × List (Int × Int) → Int → Int → Option Int
 | 0, _, _, _ => none
 | k + 1, p0, p1, p2 =>
  Option.bind (ZcQ k (p0.1, p0.2.1, p0.2.2) p2) fun z0 => if decide (z0.1.1 ≠ 1) = true then some (-1 : Int) else if decide (z0.1.2.2 ≥ p1) = true then some (1 : Int) else some (0 : Int)
noncomputable def Z1v : FnDef := .of ZiU Z60 (Int) (fun k x => Z9N k x.1 x.2.1 x.2.2.1) ZhL Zi8 ZmX
noncomputable def Zdj : Code := Tryz.f68.body.getD .skip
noncomputable def Z9H : Ctx (Tup Z60 × OutD) := { T := T, G := [(11, Z4k.E)], mvs := [], no := 0, n := 24, res := resOf T ZiU Z60 Tryz.f68.results.toList, loops := [], regs := [], conds := [], cuts := [] }
theorem ZuP (k : Nat) : EnvOK Tryz.prog k Z9H.G := (EnvOK.cons (ZtF k) (EnvOK.nil mixed))
theorem Zvc (k : Nat) (x : Tup Z1v.ps) : Z1v.f (k + 1) x = fnK Z1v Z9H Zdj k x := by kernel_rfl
theorem Zuz (x : Tup Z1v.ps) : Z1v.f 0 x = none := by kernel_rfl
theorem ZvG (k : Nat) : LOK Tryz.prog Z9H k Zdj := LOK.by [] (by kernel_rfl) AllOK.nil
theorem Zv8 (k : Nat) : SoundAt Tryz.prog k 68 Z1v.E := @Z0 Tryz.prog Z1v Z9H 68 Tryz.f68 Zdj (by kernel_rfl) (by kernel_rfl) (by kernel_rfl) Tryz.func68 (by kernel_rfl) (by kernel_rfl) (by kernel_rfl) T_ok ZuP ZvG Zuz Zvc k
end
end
end Go.Proofs.YtmhfhiofcoggbaaGreat.Vs
